/- Rising lists; the document's Rising: walked. Conditions: what slices may hold. -/
import Derived.Test.YtcgagiimlkjcpaaGreatDoorZB18
import Derived.Test.YtcgagiimlkjcpaaGreatDoorZB13
import Derived.Test.YtcgagiimlkjcpaaGreatDoorZB26
import Derived.Test.YtcgagiimlkjcpaaGreatDoorZB22
set_option linter.unusedVariables false
set_option linter.unusedSimpArgs false
namespace Go.Proofs.YtcgagiimlkjcpaaGreatDoor
open Go Go.RowKit
section
variable {l : List Int} {n x : Nat}
theorem ris_nn (h:∀j,j<x→prevI l j<l.getD j 0∧l.getD j 0<(n:Int)):-1≤prevI l x∧∀j,j<x→0≤l.getD j 0:=by
 induction x with
 | zero=>exact ⟨by unfold prevI;simp,fun j h=>by omega⟩
 | succ x ih =>
  obtain ⟨h1,h2⟩:=ih fun j hj=>h j (by omega)
  have h3:=(h x (by omega)).1
  refine ⟨by rw [prevI_next];omega,fun j hj=>?_⟩
  by_cases e:j=x
  ·subst e;omega
  ·exact h2 j (by omega)
end
set_option maxRecDepth 100000 in
set_option maxHeartbeats 4000000 in
theorem rising_w (l:List Int) {n:Nat} (hn:n≤1000000) (hw:∀x∈l,-9223372036854775808≤x∧x≤9223372036854775807) (hl:l.length≤140737488355328) :
  Good Tryz.prog 113 [ints l,I (n:Int)] (Bo (risB n l)):=by
 refine good_of Tryz.func113 rfl (by kernel_rfl) fun X hO hrd=>?_;rw [Tryz.ntmps113,Tryz.results113];simp only [ast0,List.map_cons,List.map_nil,List.length_cons,List.length_nil,Nat.reduceAdd,Nat.reduceSub,List.replicate_succ,List.replicate_zero,List.cons_append,List.nil_append]
 repeat (with_reducible first|refine W_seq fun K hK=>?_|refine J_block ?_|refine J_region ?_ |(refine Kont.go (by assumption) ?_)|(simp (config:={ maxSteps:=3000000 }) (disch:=omega) only [go_sem]))
 refine W_loop [4,5,6,7,8,9,10,11,12,13,14,15,16,17,18,19,20,21,22,23,24,25,26,27,28,29,30,31,32,33,34,35,36,37,38,39,40] (fun x:Nat=>[(5,.f (I x))]) (fun x:Nat=>[]) (fun x:Nat=>x≤l.length∧∀j,j<x→prevI l j<l.getD j 0∧l.getD j 0<(n:Int)) (fun x:Nat=>l.length-x) (0) (⟨Nat.zero_le _,fun j h=>by omega⟩) (by refine weak_of ?_ ?_<;>simp (disch:=omega) only [go_sem]<;>first|rfl|exact ⟨rfl,rfl⟩|exact Or.inl rfl|exact ⟨Or.inl rfl,Or.inl rfl⟩|trivial|assumption|omega|(symm;assumption)|((repeat' apply And.intro)<;>first|rfl|omega|trivial|exact .inr ⟨rfl,rfl⟩|exact .inr rfl|(right;symm;assumption)|(symm;assumption)|assumption)) ?_
 rintro x ⟨hx,hp⟩
 simp only [go_sem]
 repeat (with_reducible first|refine W_seq fun K hK=>?_|refine J_region ?_ |refine J_c ?_|(refine Kont.go (by assumption) ?_)|(simp (config:={ maxSteps:=3000000 }) (disch:=omega) only [go_sem,List.length_map]))
 refine Jc_if (fun hxl=>?_) (fun hxl=>?_)<;>try simp only [decide_eq_true_eq,decide_eq_false_iff_not] at hxl
 ·have g1:=map_get I l hxl
  have g3:l.getD x 0=l[x]:=lget_lt l 0 hxl
  have hm1:=(ris_nn hp).1
  have hno:¬(prevI l x<l[x]∧l[x]<(n:Int))→risB n l=false:=fun hh=>by
   cases hb:risB n l with
   | false=>rfl
   | true=>exact absurd (risB_iff.1 hb x hxl) (by rw [g3];exact hh)
  by_cases c0:l[x]<0
  ·have e:risB n l=false:=hno fun h=>by omega
   repeat (with_reducible first|refine W_seq fun K hK=>?_|refine J_block ?_|refine J_skip ?_|refine J_ret ?_|refine J_region ?_ |refine J_drawn mixed (by kernel_rfl) ?_|refine J_c ?_|refine Jc_true ?_|(refine Kont.go (by assumption) ?_)|(simp (config:={ maxSteps:=3000000 }) (disch:=omega) only [go_sem,↓reduceIte,g1,c0,true_and]))
   rw [e]
   exact Frz.f _
  ·by_cases c2:(n:Int)≤l[x]
   ·have e:risB n l=false:=hno fun h=>by omega
    repeat (with_reducible first|refine W_seq fun K hK=>?_|refine J_block ?_|refine J_skip ?_|refine J_ret ?_|refine J_region ?_ |refine J_drawn mixed (by kernel_rfl) ?_|refine J_c ?_|refine Jc_true ?_|(refine Kont.go (by assumption) ?_)|(simp (config:={ maxSteps:=3000000 }) (disch:=omega) only [go_sem,↓reduceIte,g1,c0,c2,true_and]))
    rw [e]
    exact Frz.f _
   ·by_cases x0:x=0
    ·have hpr:prevI l x=-1:=by unfold prevI;rw [if_pos x0]
     have c3:¬(0:Int)<(x:Int):=by omega
     repeat (with_reducible first|refine W_seq fun K hK=>?_|refine J_block ?_|refine J_skip ?_|refine J_region ?_ |refine J_drawn mixed (by kernel_rfl) ?_|refine J_c ?_|refine Jc_false ?_|(refine Kont.go (by assumption) ?_)|(simp (config:={ maxSteps:=3000000 }) (disch:=omega) only [go_sem,↓reduceIte,g1,c0,c2,c3,true_and]))
     refine ⟨x+1,⟨by omega,upto_next (p:=fun j=>prevI l j<l.getD j 0∧l.getD j 0<(n:Int)) hp ⟨by rw [g3];omega,by rw [g3];omega⟩⟩,by omega,weak_of ?_ ?_⟩<;>(try simp (disch:=omega) only [go_sem])<;>(try first|done|omega|rfl|exact ⟨rfl,rfl⟩|trivial)
    ·have hpr:prevI l x=l.getD (x-1) 0:=by unfold prevI;rw [if_neg x0]
     have c3:(0:Int)<(x:Int):=by omega
     have hx1:x-1<l.length:=by omega
     have g4:l.getD (x-1) 0=l[x-1]:=lget_lt l 0 hx1
     have g5:=map_get I l hx1
     have g6:((x:Int)-1).toNat=x-1:=by omega
     rw [g4] at hpr
     by_cases c1:l[x]≤l[x-1]
     ·have e:risB n l=false:=hno fun h=>by omega
      repeat (first|(with_reducible first|refine W_seq fun K hK=>?_|refine J_block ?_|refine J_skip ?_|refine J_ret ?_|refine J_region ?_ |refine J_drawn mixed (by kernel_rfl) ?_|refine J_c ?_|refine Jc_true ?_|(refine Kont.go (by assumption) ?_)|(simp (config:={ maxSteps:=3000000 }) (disch:=omega) only [go_sem,↓reduceIte,g1,g5,g6,c0,c2,c3,c1,true_and]))|refine And.intro (by omega) ?_)
      rw [e]
      exact Frz.f _
     ·repeat (first|(with_reducible first|refine W_seq fun K hK=>?_|refine J_block ?_|refine J_skip ?_|refine J_region ?_ |refine J_drawn mixed (by kernel_rfl) ?_|refine J_c ?_|refine Jc_false ?_|(refine Kont.go (by assumption) ?_)|(simp (config:={ maxSteps:=3000000 }) (disch:=omega) only [go_sem,↓reduceIte,g1,g5,g6,c0,c2,c3,c1,true_and]))|refine And.intro (by omega) ?_)
      refine ⟨x+1,⟨by omega,upto_next (p:=fun j=>prevI l j<l.getD j 0∧l.getD j 0<(n:Int)) hp ⟨by rw [g3];omega,by rw [g3];omega⟩⟩,by omega,weak_of ?_ ?_⟩<;>(try simp (disch:=omega) only [go_sem])<;>(try first|done|omega|rfl|exact ⟨rfl,rfl⟩|trivial)
 ·have he:x=l.length:=by omega
  subst he
  have e:risB n l=true:=risB_iff.2 hp
  repeat (with_reducible first|refine W_seq fun K hK=>?_|refine J_exit ?_|refine J_ret ?_|refine J_region ?_ |(refine Kont.go (by assumption) ?_)|(simp (config:={ maxSteps:=3000000 }) (disch:=omega) only [go_sem,↓reduceIte]))
  rw [e]
  exact Frz.f _
end Go.Proofs.YtcgagiimlkjcpaaGreatDoor
set_option linter.unusedVariables false
set_option linter.unusedSimpArgs false
namespace Go.Proofs.YtcgagiimlkjcpaaGreatDoor
open Go Go.RowKit
def hsK (R:Bx) (l:List Nat) (x:Nat):List Nat:=(List.range x).filter fun i=>!hitT l i&&hitC R l i
def hbV (m:List (List Rat)) (l:List Nat) (s:Nat):Rat:=sumF (fun k=>at2 m s (l.getD k 0)) l.length
def hbT (m:List (List Rat)) (l S:List Nat) (x:Nat):List FV:=(List.range x).map fun i=>fr (hbV m l (S.getD i 0))
def hoT (h:Nat→Rat) (x:Nat):List FV:=(List.range x).map fun i=>fr (h i)
def fvK (S:List Nat) (h:Nat→Rat) (base:Rat) (i:Nat):Nat→Rat
 | 0=>base
 | x+1=>if S.getD x 0=i then h (S.getD x 0) else fvK S h base i x
section
variable {R : Bx} {l S : List Nat} {m : List (List Rat)} {h : Nat → Rat} {n i x : Nat} {base : Rat}
theorem hsK_yes (h:(!hitT l x&&hitC R l x)=true):Ns (hsK R l x)++[I (x:Int)]=Ns (hsK R l (x+1)):=by
 unfold Ns hsK;rw [List.range_succ,List.filter_append,List.map_append];simp [h]
theorem hsK_no (h:(!hitT l x&&hitC R l x)=false):Ns (hsK R l x)=Ns (hsK R l (x+1)):=by
 unfold Ns hsK;rw [List.range_succ,List.filter_append,List.map_append];simp [h]
theorem hsK_len:(Ns (hsK R l x)).length≤x:=by
 rw [Ns_len];unfold hsK;exact Nat.le_trans (List.length_filter_le _ _) (by simp)
theorem hsK_zero:Ns (hsK R l 0)=[]:=rfl
theorem hsK_mem {s:Nat}:s∈hsK R l n↔s<n∧hitT l s=false∧hitC R l s=true:=by simp [hsK]
theorem hsK_nodup:(hsK R l n).Nodup:=List.Pairwise.filter _ List.nodup_range
theorem hbT_zero:hbT m l S 0=[]:=rfl
theorem hbT_len:(hbT m l S x).length=x:=by simp [hbT]
theorem hbT_next:hbT m l S x++[fr (hbV m l (S.getD x 0))]=hbT m l S (x+1):=by simp [hbT,List.range_succ]
theorem hoT_zero:hoT h 0=[]:=rfl
theorem hoT_len:(hoT h x).length=x:=by simp [hoT]
theorem hoT_next:hoT h x++[fr (h x)]=hoT h (x+1):=by simp [hoT,List.range_succ]
theorem fvK_at:∀{x:Nat},x≤S.length→fvK S h base i x=if i∈S.take x then h i else base:=by
 intro x
 induction x with
 | zero=>intro _;rw [List.take_zero,if_neg (by simp)];rfl
 | succ x ih =>
  intro hx
  show (if S.getD x 0=i then h (S.getD x 0) else fvK S h base i x)=_
  rw [List.take_succ_eq_append_getElem (by omega),ih (by omega),lget_lt S 0 (by omega)]
  by_cases e:S[x]=i
  ·rw [if_pos e,e,if_pos (by simp)]
  ·have e':¬i=S[x]:=fun h=>e h.symm
   rw [if_neg e]
   have hq:(i∈S.take x++[S[x]])=(i∈S.take x):=propext ⟨fun h=>(List.mem_append.1 h).elim id fun h=>absurd (List.mem_singleton.1 h) e',fun h=>List.mem_append_left _ h⟩
   simp only [hq]
attribute [go_sem] hsK_zero hbT_zero hoT_zero
end
set_option maxRecDepth 100000 in
set_option maxHeartbeats 16000000 in
theorem rhits_w {b:Nat} {ys:List FV} {m:List (List Rat)} {l:List Nat} (hm:FrM b ys m) (h1:1≤b) (hb:b≤1000) (hmx:m.length≤6) (h0:chkM m=0) (hl6:l.length≤6) (hlm:∀s∈l,s<m.length) (hnd:l.Nodup) (hris:risB m.length (l.map Int.ofNat)=true) :
  Good Tryz.prog 27 [.fz 1 ys,.fz 1 (Ns l)] (.tup [frs (hitL m l),I 0]):=by
 have hk:=rcheck_w hm h1 (by omega) (by omega)
 rw [h0] at hk
 obtain ⟨hsq,hn1,hch⟩:=chk_sq hm h0
 have hst:=rising_w (n:=m.length) (l.map Int.ofNat) (by omega) (fun z hz=>by
  obtain ⟨a,ha,rfl⟩:=List.mem_map.1 hz
  have:=hlm a ha
  show -9223372036854775808≤((a:Nat):Int)∧((a:Nat):Int)≤9223372036854775807
  omega) (by rw [List.length_map];omega)
 have eNs:ints (l.map Int.ofNat)=.fz 1 (Ns l):=by unfold Ns;simp [ints]
 rw [hris,eNs] at hst
 obtain ⟨n,hn⟩:∃n,n=m.length:=⟨_,rfl⟩
 have hs:Sto n (at2 m):=sto_of hn (fun r hr=>(hsq.sq r hr).trans hn.symm) hch
 obtain ⟨h,hh,hit⟩:=hitL_spec (l:=l) hs hn (by rw [hn];exact hlm)
 have hC:=hitC_can (m:=m) (l:=l) (n:=n) (by rw [hn];exact hlm)
 obtain ⟨R,hR⟩:∃R,R=wsh (edg m) n:=⟨_,rfl⟩
 rw [←hR] at hit hC
 obtain ⟨S,hS⟩:∃S,S=hsK R l n:=⟨_,rfl⟩
 have hSm:∀s,s∈S↔s<n∧hitT l s=false∧hitC R l s=true:=fun s=>by rw [hS];exact hsK_mem
 have hSn:S.Nodup:=by rw [hS];exact hsK_nodup
 have hSlt:∀s∈S,s<m.length:=fun s hs=>by rw [←hn];exact ((hSm s).1 hs).1
 have hSl:S.length≤6:=Nat.le_trans (nodup_le hSn hSlt) hmx
 obtain ⟨hdet,hdsl⟩:=hits_det hs hC hit hSn hSm hnd (by rw [hn];exact hlm) (fun t=>rfl)
 have hsz:=smL_fz hsq h1 hSlt
 have hbz:∀i,i<S.length→Fz (hbV m l (S.getD i 0)) (8+6*(b+1)):=fun i hi=>by
  refine (sumF_fz (n:=l.length) (f:=fun k=>at2 m (S.getD i 0) (l.getD k 0)) (s:=b) fun k hk=>hsq.f2 h1 (hSlt _ (getD_mem hi)) (hlm _ (getD_mem hk))).up ?_
  have:=Nat.mul_le_mul_right (b+1) hl6
  omega
 obtain ⟨bl,hbl⟩:∃bl:List Rat,bl=(List.range S.length).map fun i=>hbV m l (S.getD i 0):=⟨_,rfl⟩
 have hbll:bl.length=S.length:=by rw [hbl];simp
 have hblg:∀i,i<S.length→bl.getD i 0=hbV m l (S.getD i 0):=fun i hi=>by rw [hbl];simp [List.getD,hi]
 have hblz:Row (8+6*(b+1)) bl:=fun q hq=>by
  rw [hbl] at hq
  obtain ⟨i,hi,rfl⟩:=List.mem_map.1 hq
  exact hbz i (List.mem_range.1 hi)
 have hsol:=solved_w (s:=8+6*(b+1)) (by omega) (by omega) smL_len smL_row hbll hSl (fun r hr q hq=>(hsz r hr q hq).up (by omega)) hblz (by rw [det_congr smL_at];exact hdet)
 have hbF:FV.fz 3 (bl.map fr)=FV.fz 3 (hbT m l S S.length):=by rw [hbl];unfold hbT;rw [List.map_map];rfl
 rw [smL_all,hbF] at hsol
 obtain ⟨xs,hxs⟩:∃xs,xs=slTo S.length (at2 (smL m S)) (fun i=>bl.getD i 0) S.length:=⟨_,rfl⟩
 have hxg:∀q,q<S.length→xs[q]?=some (fr (h (S.getD q 0))):=fun q hq=>by
  rw [hxs]
  have:(slTo S.length (at2 (smL m S)) (fun i=>bl.getD i 0) S.length)[q]?=some (fr (dsl S.length (at2 (smL m S)) (fun i=>bl.getD i 0) q)):=by simp [slTo,hq]
  rw [this,dsl_congr smL_at hblg]
  exact congrArg (fun z=>some (fr z)) (hdsl q hq)
 rw [←hxs] at hsol
 have hres:frs (hitL m l)=.fz 3 (hoT h n):=by rw [hh];unfold hoT;show FV.fz 3 (((List.range n).map h).map fr)=_;rw [List.map_map];rfl
 rw [hres]
 have hyl:ys.length=n:=by rw [hm.len,hn]
 have hn6:n≤6:=by omega
 rw [←hn] at hlm hSlt hst
 refine good_of Tryz.func27 rfl (by kernel_rfl) fun X hO hrd=>?_;rw [Tryz.ntmps27,Tryz.results27];simp only [ast0,List.map_cons,List.map_nil,List.length_cons,List.length_nil,Nat.reduceAdd,Nat.reduceSub,List.replicate_succ,List.replicate_zero,List.cons_append,List.nil_append]
 repeat (with_reducible first|refine W_seq fun K hK=>?_|refine J_region ?_ |(refine Kont.go (by assumption) ?_)|(simp (config:={ maxSteps:=3000000 }) (disch:=omega) only [go_sem]))
 refine call_f hk rfl ?_
 repeat (with_reducible first|refine W_seq fun K hK=>?_|refine J_skip ?_|refine J_region ?_ |refine J_c ?_|refine Jc_false ?_|(refine Kont.go (by assumption) ?_)|(simp (config:={ maxSteps:=3000000 }) (disch:=omega) only [go_sem,hyl]))
 refine call_f hst rfl ?_
 repeat (with_reducible first|refine W_seq fun K hK=>?_|refine J_block ?_|refine J_skip ?_|refine J_region ?_ |refine J_c ?_|refine Jc_false ?_|(refine Kont.go (by assumption) ?_)|(simp (config:={ maxSteps:=3000000 }) (disch:=omega) only [go_sem]))
 refine J_reserve ?_
 refine W_loop [8,9,10,11,37,38,39,40,41,42,43,44,45,46,47,48,49,50,51,52,53,54,55,56,57,58,59,60,61] (fun x:Nat=>[(8,sl 0 1 (Ns (hsK R l x))),(9,.f (I x))]) (fun x:Nat=>[ob 3 1 (Ns (hsK R l x))]) (fun x:Nat=>x≤n) (fun x:Nat=>n-x) (0) (Nat.zero_le _) (by refine weak_of ?_ ?_<;>simp (disch:=omega) only [go_sem]<;>first|rfl|exact ⟨rfl,rfl⟩|exact Or.inl rfl|exact ⟨Or.inl rfl,Or.inl rfl⟩|trivial|assumption|omega|(symm;assumption)|((repeat' apply And.intro)<;>first|rfl|omega|trivial|exact .inr ⟨rfl,rfl⟩|exact .inr rfl|(right;symm;assumption)|(symm;assumption)|assumption)) ?_
 rintro i hi
 simp only [go_sem]
 repeat (with_reducible first|refine W_seq fun K hK=>?_|refine J_region ?_ |refine J_c ?_|(refine Kont.go (by assumption) ?_)|(simp (config:={ maxSteps:=3000000 }) (disch:=omega) only [go_sem,hyl]))
 refine Jc_if (fun hil=>?_) (fun hil=>?_)<;>try simp only [decide_eq_true_eq,decide_eq_false_iff_not] at hil
 ·have hin:=rinN_w i l (by omega) (by omega)
  have hcm:=rcomes_w hsq h1 (by omega) (show i<m.length by omega)
  rw [←hn] at hcm
  obtain ⟨O,hO⟩:∃O,O=comL n (edg m) i:=⟨_,rfl⟩
  have hOl:O.length≤6:=by rw [hO];exact Nat.le_trans (nodup_le (comL_nd hil) (comL_lt hil)) hn6
  rw [←hO] at hcm
  have hco:=common_w (a:=l) (b:=O) (by omega) (by omega) (fun s hs=>by have:=hlm s hs;omega)
  have hCi:hitC R l i=true↔0<(Ns (comK l O l.length)).length:=by
   rw [Ns_len]
   unfold hitC comK
   rw [List.take_length,List.any_eq_true]
   constructor
   ·rintro ⟨q,hq,hr⟩
    have hq:=List.mem_range.1 hq
    refine List.length_pos_of_mem (a:=l.getD q 0) (List.mem_filter.2 ⟨getD_mem hq,?_⟩)
    rw [hO,com_R hil (hlm _ (getD_mem hq)),←hR];exact hr
   ·intro hp
    obtain ⟨t,ht⟩:=List.exists_mem_of_length_pos hp
    obtain ⟨h2,h3⟩:=List.mem_filter.1 ht
    obtain ⟨q,hq,e⟩:=List.getElem_of_mem h2
    refine ⟨q,List.mem_range.2 hq,?_⟩
    rw [lget_lt l 0 hq,e,hR,←com_R hil (hlm t h2),←hO];exact h3
  have hcl:=hsK_len (R:=R) (l:=l) (x:=i)
  have hT:decide (i∈l)=hitT l i:=rfl
  rw [hT] at hin
  repeat (with_reducible first|refine W_seq fun K hK=>?_|refine J_block ?_|refine J_skip ?_|refine J_region ?_ |(refine Kont.go (by assumption) ?_)|(simp (config:={ maxSteps:=3000000 }) (disch:=omega) only [go_sem]))
  refine call_f hin rfl ?_
  repeat (with_reducible first|refine W_seq fun K hK=>?_|refine J_region ?_ |(refine Kont.go (by assumption) ?_)|(simp (config:={ maxSteps:=3000000 }) (disch:=omega) only [go_sem]))
  refine call_f hcm rfl ?_
  repeat (with_reducible first|(simp (config:={ maxSteps:=3000000 }) (disch:=omega) only [go_sem]))
  refine call_f hco rfl ?_
  cases hTi:hitT l i with
  | true =>
   have hnx:=hsK_no (R:=R) (l:=l) (x:=i) (by rw [hTi];rfl)
   repeat (with_reducible first|refine W_seq fun K hK=>?_|refine J_skip ?_|refine J_region ?_ |refine J_c ?_|refine Jc_false ?_|(refine Kont.go (by assumption) ?_)|(simp (config:={ maxSteps:=3000000 }) (disch:=omega) only [go_sem,Bool.not_true]))
   rw [hnx]
   refine ⟨i+1,by omega,by omega,weak_of ?_ ?_⟩<;>(try simp (disch:=omega) only [go_sem])<;>(try first|done|omega|rfl|exact ⟨rfl,rfl⟩|trivial)
  | false =>
   by_cases hci:hitC R l i=true
   ·have hnx:=hsK_yes (R:=R) (l:=l) (x:=i) (by rw [hTi,hci];rfl)
    have hp:=hCi.1 hci
    repeat (first|(with_reducible first|refine W_seq fun K hK=>?_|refine J_region ?_ |refine aApp_sl ?_|refine J_c ?_|refine Jc_true ?_|(refine Kont.go (by assumption) ?_)|(simp (config:={ maxSteps:=3000000 }) (disch:=omega) only [go_sem,Nat.reduceEqDiff,↓reduceIte,Nat.reduceLeDiff,Bool.not_false,hp,hnx]))|refine And.intro (by omega) ?_)
    refine ⟨i+1,by omega,by omega,weak_of ?_ ?_⟩<;>(try simp (disch:=omega) only [go_sem])<;>(try first|done|omega|rfl|exact ⟨rfl,rfl⟩|trivial)
   ·have hnx:=hsK_no (R:=R) (l:=l) (x:=i) (by rw [hTi];cases hc:hitC R l i with|true=>exact absurd hc hci|false=>rfl)
    have hp:¬(0<(Ns (comK l O l.length)).length):=fun h=>hci (hCi.2 h)
    repeat (with_reducible first|refine W_seq fun K hK=>?_|refine J_skip ?_|refine J_region ?_ |refine J_c ?_|refine Jc_false ?_|(refine Kont.go (by assumption) ?_)|(simp (config:={ maxSteps:=3000000 }) (disch:=omega) only [go_sem,Bool.not_false,hp]))
    rw [hnx]
    refine ⟨i+1,by omega,by omega,weak_of ?_ ?_⟩<;>(try simp (disch:=omega) only [go_sem])<;>(try first|done|omega|rfl|exact ⟨rfl,rfl⟩|trivial)
 have hie:i=n:=by omega
 subst hie
 rw [←hS]
 refine J_freeze (j:=8) rfl rfl ?_
 repeat (with_reducible first|refine W_seq fun K hK=>?_|refine J_block ?_|refine J_exit ?_|refine J_region ?_ |(refine Kont.go (by assumption) ?_)|(simp (config:={ maxSteps:=3000000 }) (disch:=omega) only [go_sem,↓reduceIte]))
 refine J_reserve ?_
 refine J_reserve ?_
 have hSg:∀q,q<S.length→(Ns S)[q]?=some (I (S.getD q 0:Nat)):=fun q hq=>Ns_get hq
 have hLg:∀q,q<l.length→(Ns l)[q]?=some (I (l.getD q 0:Nat)):=fun q hq=>Ns_get hq
 refine W_loop [12,13,14,15,16,17,18,19,62,63,64,65,66,67,68,69,70,71,72,73,74,75,76,77,78,79,80,81,82,83,84,85,86,87,88,89,90,91,92,93,94,95,96,97,98,99,100,101,102,103,104,105,106,107,108,109,110,111,112,113,114,115,116,117,118,119,120,121,122,123,124,125,126,127] (fun x:Nat=>[(12,sl 1 1 (smF m S x)),(13,sl 2 3 (hbT m l S x)),(14,.f (I x))]) (fun x:Nat=>[none,ob 23 1 (smF m S x),ob 44 3 (hbT m l S x)]) (fun x:Nat=>x≤S.length) (fun x:Nat=>S.length-x) (0) (Nat.zero_le _) (by refine weak_of ?_ ?_<;>simp (disch:=omega) only [go_sem,Nat.reduceAdd]<;>first|rfl|exact ⟨rfl,rfl⟩|exact Or.inl rfl|exact ⟨Or.inl rfl,Or.inl rfl⟩|trivial|assumption|omega|(symm;assumption)|((repeat' apply And.intro)<;>first|rfl|omega|trivial|exact .inr ⟨rfl,rfl⟩|exact .inr rfl|(right;symm;assumption)|(symm;assumption)|assumption)) ?_
 rintro a ha
 simp only [go_sem]
 repeat (with_reducible first|refine W_seq fun K hK=>?_|refine J_region ?_ |refine J_c ?_|(refine Kont.go (by assumption) ?_)|(simp (config:={ maxSteps:=3000000 }) (disch:=omega) only [go_sem,Ns_len]))
 refine Jc_if (fun hal=>?_) (fun hal=>?_)<;>try simp only [decide_eq_true_eq,decide_eq_false_iff_not] at hal
 ·have ga:=hSg a hal
  have haS:=hSlt _ (getD_mem hal)
  have hnx1:=smF_next (m:=m) (S:=S) (x:=a)
  have hlt1:=smF_len (m:=m) (S:=S) (x:=a)
  have hnx2:=hbT_next (m:=m) (l:=l) (S:=S) (x:=a)
  have hlt2:=hbT_len (m:=m) (l:=l) (S:=S) (x:=a)
  repeat (with_reducible first|refine W_seq fun K hK=>?_|refine J_block ?_|refine J_skip ?_|refine J_region ?_ |(refine Kont.go (by assumption) ?_)|(simp (config:={ maxSteps:=3000000 }) (disch:=omega) only [go_sem]))
  refine J_reserve ?_
  refine W_loop [15,16,17,68,69,70,71,72,73,74,75,76,77,78,79,80,81,82,83,84,85,86,87,88,89,90,91,92,93,94,95,96,97] (fun x:Nat=>[(15,sl 3 3 (smT m S a x)),(16,.f (I x))]) (fun x:Nat=>[none,ob 23 1 (smF m S a),ob 44 3 (hbT m l S a),ob 44 3 (smT m S a x)]) (fun x:Nat=>x≤S.length) (fun x:Nat=>S.length-x) (0) (Nat.zero_le _) (by refine weak_of ?_ ?_<;>simp (disch:=omega) only [go_sem,Nat.reduceAdd]<;>first|rfl|exact ⟨rfl,rfl⟩|exact Or.inl rfl|exact ⟨Or.inl rfl,Or.inl rfl⟩|trivial|assumption|omega|(symm;assumption)|((repeat' apply And.intro)<;>first|rfl|omega|trivial|exact .inr ⟨rfl,rfl⟩|exact .inr rfl|(right;symm;assumption)|(symm;assumption)|assumption)) ?_
  rintro c hc
  simp only [go_sem]
  repeat (with_reducible first|refine W_seq fun K hK=>?_|refine J_region ?_ |refine J_c ?_|(refine Kont.go (by assumption) ?_)|(simp (config:={ maxSteps:=3000000 }) (disch:=omega) only [go_sem,Ns_len]))
  refine Jc_if (fun hcl=>?_) (fun hcl=>?_)<;>try simp only [decide_eq_true_eq,decide_eq_false_iff_not] at hcl
  ·have gc:=hSg c hcl
   have hcS:=hSlt _ (getD_mem hcl)
   obtain ⟨zs,gg,nn,dd,z1,z2,z3⟩:=hsq.at2 (i:=S.getD a 0) (j:=S.getD c 0) (by omega) (by omega)
   have hnx:=smT_next (m:=m) (S:=S) (i:=a) (x:=c)
   have hlt:=smT_len (m:=m) (S:=S) (i:=a) (x:=c)
   have r1:IsFr (fr ((1:Int):Rat)) ((1:Int):Rat) 8:=IsFr.int (by omega) (by omega)
   have r0:IsFr (fr ((0:Int):Rat)) ((0:Int):Rat) 8:=IsFr.int (by omega) (by omega)
   by_cases e:a=c
   ·have ev:fr (((1:Int):Rat)-at2 m (S.getD a 0) (S.getD c 0))=fr (smA m S a c):=by unfold smA;rw [if_pos e];rfl
    have et:(a=c)=True:=eq_true e
    rw [←ev] at hnx
    repeat (first|(with_reducible first|refine W_seq fun K hK=>?_|refine J_block ?_|refine J_skip ?_|refine J_region ?_ |refine J_drawn mixed (by kernel_rfl) ?_|refine aApp_sl ?_|refine J_c ?_|refine Jc_true ?_|(refine Kont.go (by assumption) ?_)|(simp (config:={ maxSteps:=3000000 }) (disch:=omega) only [go_sem,Nat.reduceEqDiff,↓reduceIte,Nat.reduceAdd,Nat.reduceLeDiff,ga,gc,z1,z2,et,Int.natCast_inj,decide_true,hnx,hlt,Nat.reduceMul,Nat.le_refl,true_and,and_self]))|refine call_f (rof_frac (by omega) (by omega)) rfl ?_|refine callQ_f (rsub_w (by assumption) (by assumption) (by omega) (by omega)) rfl ?_|refine And.intro (by omega) ?_)
    refine ⟨c+1,by omega,by omega,weak_of ?_ ?_⟩<;>(try simp (disch:=omega) only [go_sem,Nat.reduceAdd])<;>(try first|done|omega|rfl|exact ⟨rfl,rfl⟩|trivial)
   ·have ev:fr (((0:Int):Rat)-at2 m (S.getD a 0) (S.getD c 0))=fr (smA m S a c):=by unfold smA;rw [if_neg e];rfl
    have et:(a=c)=False:=eq_false e
    rw [←ev] at hnx
    repeat (first|(with_reducible first|refine W_seq fun K hK=>?_|refine J_block ?_|refine J_skip ?_|refine J_region ?_ |refine J_drawn mixed (by kernel_rfl) ?_|refine aApp_sl ?_|refine J_c ?_|refine Jc_false ?_|(refine Kont.go (by assumption) ?_)|(simp (config:={ maxSteps:=3000000 }) (disch:=omega) only [go_sem,Nat.reduceEqDiff,↓reduceIte,Nat.reduceAdd,Nat.reduceLeDiff,ga,gc,z1,z2,et,Int.natCast_inj,decide_false,hnx,hlt,Nat.reduceMul,Nat.le_refl,true_and,and_self]))|refine call_f (rof_frac (by omega) (by omega)) rfl ?_|refine callQ_f (rsub_w (by assumption) (by assumption) (by omega) (by omega)) rfl ?_|refine And.intro (by omega) ?_)
    refine ⟨c+1,by omega,by omega,weak_of ?_ ?_⟩<;>(try simp (disch:=omega) only [go_sem,Nat.reduceAdd])<;>(try first|done|omega|rfl|exact ⟨rfl,rfl⟩|trivial)
  ·have he:c=S.length:=by omega
   subst he
   refine J_freeze (j:=15) rfl rfl ?_
   rw [smT_all]
   have hs0:fr ((0:Int):Rat)=fr (sumF (fun k=>at2 m (S.getD a 0) (l.getD k 0)) 0):=rfl
   repeat (first|(with_reducible first|refine W_seq fun K hK=>?_|refine J_block ?_|refine J_exit ?_|refine J_region ?_ |(refine Kont.go (by assumption) ?_)|(simp (config:={ maxSteps:=3000000 }) (disch:=omega) only [go_sem,↓reduceIte,Nat.reduceAdd,hs0]))|refine call_f (rof_frac (by omega) (by omega)) rfl ?_)
   refine W_loop [19,99,100,101,102,103,104,105,106,107,108,109,110,111,112,113,114,115,116,117,118,119] (fun x:Nat=>[(19,.f (I x))]) (fun x:Nat=>[none,ob 23 1 (smF m S a),ob 44 3 (hbT m l S a),none,oF (fr (sumF (fun k=>at2 m (S.getD a 0) (l.getD k 0)) x))]) (fun x:Nat=>x≤l.length) (fun x:Nat=>l.length-x) (0) (Nat.zero_le _) (by refine weak_of ?_ ?_<;>simp (disch:=omega) only [go_sem,Nat.reduceAdd]<;>first|rfl|exact ⟨rfl,rfl⟩|exact Or.inl rfl|exact ⟨Or.inl rfl,Or.inl rfl⟩|trivial|assumption|omega|(symm;assumption)|((repeat' apply And.intro)<;>first|rfl|omega|trivial|exact .inr ⟨rfl,rfl⟩|exact .inr rfl|(right;symm;assumption)|(symm;assumption)|assumption)) ?_
   rintro t ht
   simp only [go_sem]
   repeat (with_reducible first|refine W_seq fun K hK=>?_|refine J_region ?_ |refine J_c ?_|(refine Kont.go (by assumption) ?_)|(simp (config:={ maxSteps:=3000000 }) (disch:=omega) only [go_sem,Ns_len]))
   refine Jc_if (fun htl=>?_) (fun htl=>?_)<;>try simp only [decide_eq_true_eq,decide_eq_false_iff_not] at htl
   ·have gt:=hLg t htl
    have htm:=hlm _ (getD_mem htl)
    obtain ⟨zs,gg,nn,dd,z1,z2,z3⟩:=hsq.at2 (i:=S.getD a 0) (j:=l.getD t 0) (by omega) (by omega)
    have fsm:=sumF_fz (f:=fun k=>at2 m (S.getD a 0) (l.getD k 0)) (n:=t) (s:=b) fun q hq=>hsq.f2 h1 (by omega) (by have:=hlm _ (getD_mem (show q<l.length by omega));omega)
    have so:=Nat.mul_le_mul_right (b+1) (show t≤6 by omega)
    have f3:=IsFr.c fsm
    have en:fr (sumF (fun k=>at2 m (S.getD a 0) (l.getD k 0)) t+at2 m (S.getD a 0) (l.getD t 0))=fr (sumF (fun k=>at2 m (S.getD a 0) (l.getD k 0)) (t+1)):=rfl
    repeat (first|(with_reducible first|refine W_seq fun K hK=>?_|refine J_block ?_|refine J_skip ?_|refine J_region ?_ |refine J_drawn mixed (by kernel_rfl) ?_|(refine Kont.go (by assumption) ?_)|(simp (config:={ maxSteps:=3000000 }) (disch:=omega) only [go_sem,↓reduceIte,Nat.reduceAdd,ga,gt,z1,z2,true_and,and_self]))|refine callQ_f (radd_w (by assumption) (by assumption) (by omega) (by omega)) rfl ?_)
    rw [en]
    refine ⟨t+1,by omega,by omega,weak_of ?_ ?_⟩<;>(try simp (disch:=omega) only [go_sem,Nat.reduceAdd])<;>(try first|done|omega|rfl|exact ⟨rfl,rfl⟩|trivial)
   ·have he2:t=l.length:=by omega
    subst he2
    have ev:fr (sumF (fun k=>at2 m (S.getD a 0) (l.getD k 0)) l.length)=fr (hbV m l (S.getD a 0)):=rfl
    rw [ev]
    repeat (first|(with_reducible first|refine W_seq fun K hK=>?_|refine J_exit ?_|refine J_region ?_ |refine aApp_sl ?_|(refine Kont.go (by assumption) ?_)|(simp (config:={ maxSteps:=3000000 }) (disch:=omega) only [go_sem,Nat.reduceEqDiff,↓reduceIte,Nat.reduceAdd,Nat.reduceLeDiff,hnx1,hlt1,hnx2,hlt2]))|refine And.intro (by omega) ?_)
    refine ⟨a+1,by omega,by omega,weak_of ?_ ?_⟩<;>(try simp (disch:=omega) only [go_sem,Nat.reduceAdd])<;>(try first|done|omega|rfl|exact ⟨rfl,rfl⟩|trivial)
 have hae:a=S.length:=by omega
 subst hae
 refine J_freeze (j:=12) rfl rfl ?_
 simp only [go_sem,Nat.reduceEqDiff]
 refine J_freeze (j:=13) rfl rfl ?_
 simp only [go_sem]
 repeat (with_reducible first|refine W_seq fun K hK=>?_|refine J_exit ?_|refine J_region ?_ |(refine Kont.go (by assumption) ?_)|(simp (config:={ maxSteps:=3000000 }) (disch:=omega) only [go_sem,↓reduceIte]))
 refine call_f hsol rfl ?_
 repeat (with_reducible first|refine W_seq fun K hK=>?_|refine J_block ?_|refine J_region ?_ |(refine Kont.go (by assumption) ?_)|(simp (config:={ maxSteps:=3000000 }) (disch:=omega) only [go_sem]))
 refine J_reserve ?_
 refine W_loop [21,22,23,24,25,131,132,133,134,135,136,137,138,139,140,141,142,143,144,145,146,147,148,149,150,151,152,153,154,155,156,157,158,159,160,161,162] (fun x:Nat=>[(21,sl 3 3 (hoT h x)),(22,.f (I x))]) (fun x:Nat=>[none,none,none,ob 44 3 (hoT h x)]) (fun x:Nat=>x≤i) (fun x:Nat=>i-x) (0) (Nat.zero_le _) (by refine weak_of ?_ ?_<;>simp (disch:=omega) only [go_sem,Nat.reduceAdd]<;>first|rfl|exact ⟨rfl,rfl⟩|exact Or.inl rfl|exact ⟨Or.inl rfl,Or.inl rfl⟩|trivial|assumption|omega|(symm;assumption)|((repeat' apply And.intro)<;>first|rfl|omega|trivial|exact .inr ⟨rfl,rfl⟩|exact .inr rfl|(right;symm;assumption)|(symm;assumption)|assumption)) ?_
 rintro k hk
 simp only [go_sem]
 repeat (with_reducible first|refine W_seq fun K hK=>?_|refine J_region ?_ |refine J_c ?_|(refine Kont.go (by assumption) ?_)|(simp (config:={ maxSteps:=3000000 }) (disch:=omega) only [go_sem,hyl]))
 refine Jc_if (fun hkl=>?_) (fun hkl=>?_)<;>try simp only [decide_eq_true_eq,decide_eq_false_iff_not] at hkl
 ·have hin:=rinN_w k l (by omega) (by omega)
  have hnx:=hoT_next (h:=h) (x:=k)
  have hlt:=hoT_len (h:=h) (x:=k)
  obtain ⟨bs,hbs⟩:∃bs:Rat,bs=if hitT l k=true then ((1:Int):Rat) else ((0:Int):Rat):=⟨_,rfl⟩
  have hfin:fvK S h bs k S.length=h k:=by
   rw [fvK_at (Nat.le_refl _),List.take_length]
   by_cases hkS:k∈S
   ·rw [if_pos hkS]
   ·rw [if_neg hkS,hbs]
    cases hTk:hitT l k with
    | true=>rw [if_pos rfl,hit.there k hkl hTk];rfl
    | false =>
     rw [if_neg (by decide),hit.never k hkl (by
      cases hck:hitC R l k with
      | false=>rfl
      | true=>exact absurd ((hSm k).2 ⟨hkl,hTk,hck⟩) hkS)]
     rfl
  have hinner:∀x,x≤S.length→True:=fun _ _=>trivial
  cases hTk:hitT l k with
  | true =>
   have hin':Good Tryz.prog 101 [I (k:Int),.fz 1 (Ns l)] (Bo true):=by rw [←hTk];exact hin
   have e0:fr ((1:Int):Rat)=fr (fvK S h bs k 0):=by show _=fr bs;rw [hbs,hTk];rfl
   repeat (first|(with_reducible first|refine W_seq fun K hK=>?_|refine J_block ?_|refine J_skip ?_|refine J_region ?_ |(refine Kont.go (by assumption) ?_)|(simp (config:={ maxSteps:=3000000 }) (disch:=omega) only [go_sem,↓reduceIte,Nat.reduceAdd]))|refine call_f (rof_frac (by omega) (by omega)) rfl ?_)
   refine call_f hin' rfl ?_
   repeat (first|(with_reducible first|refine W_seq fun K hK=>?_|refine J_block ?_|refine J_region ?_ |refine J_c ?_|refine Jc_true ?_|(refine Kont.go (by assumption) ?_)|(simp (config:={ maxSteps:=3000000 }) (disch:=omega) only [go_sem,↓reduceIte,Nat.reduceAdd,e0]))|refine call_f (rof_frac (by omega) (by omega)) rfl ?_)
   refine W_loop [25,143,144,145,146,147,148,149,150,151,152,153,154,155,156,157,158] (fun x:Nat=>[(25,.f (I x))]) (fun x:Nat=>[none,none,none,ob 44 3 (hoT h k),oF (fr (fvK S h bs k x))]) (fun x:Nat=>x≤S.length) (fun x:Nat=>S.length-x) (0) (Nat.zero_le _) (by refine weak_of ?_ ?_<;>simp (disch:=omega) only [go_sem,Nat.reduceAdd]<;>first|rfl|exact ⟨rfl,rfl⟩|exact Or.inl rfl|exact ⟨Or.inl rfl,Or.inl rfl⟩|trivial|assumption|omega|(symm;assumption)|((repeat' apply And.intro)<;>first|rfl|omega|trivial|exact .inr ⟨rfl,rfl⟩|exact .inr rfl|(right;symm;assumption)|(symm;assumption)|assumption)) ?_
   rintro q hq
   simp only [go_sem]
   repeat (with_reducible first|refine W_seq fun K hK=>?_|refine J_region ?_ |refine J_c ?_|(refine Kont.go (by assumption) ?_)|(simp (config:={ maxSteps:=3000000 }) (disch:=omega) only [go_sem,Ns_len]))
   refine Jc_if (fun hql=>?_) (fun hql=>?_)<;>try simp only [decide_eq_true_eq,decide_eq_false_iff_not] at hql
   ·have gq:=hSg q hql
    have gx:=hxg q hql
    by_cases e:S.getD q 0=k
    ·have et:(S.getD q 0=k)=True:=eq_true e
     have en:fr (h (S.getD q 0))=fr (fvK S h bs k (q+1)):=by show _=fr (if S.getD q 0=k then _ else _);rw [if_pos e]
     repeat (with_reducible first|refine W_seq fun K hK=>?_|refine J_block ?_|refine J_skip ?_|refine J_region ?_ |refine J_c ?_|refine Jc_true ?_|(refine Kont.go (by assumption) ?_)|(simp (config:={ maxSteps:=3000000 }) (disch:=omega) only [go_sem,↓reduceIte,Nat.reduceAdd,gq,gx,et,Int.natCast_inj,decide_true,true_and,and_self]))
     rw [en]
     refine ⟨q+1,by omega,by omega,weak_of ?_ ?_⟩<;>(try simp (disch:=omega) only [go_sem,Nat.reduceAdd])<;>(try first|done|omega|rfl|exact ⟨rfl,rfl⟩|trivial)
    ·have et:(S.getD q 0=k)=False:=eq_false e
     have en:fr (fvK S h bs k q)=fr (fvK S h bs k (q+1)):=by show _=fr (if S.getD q 0=k then _ else _);rw [if_neg e]
     repeat (with_reducible first|refine W_seq fun K hK=>?_|refine J_block ?_|refine J_skip ?_|refine J_region ?_ |refine J_c ?_|refine Jc_false ?_|(refine Kont.go (by assumption) ?_)|(simp (config:={ maxSteps:=3000000 }) (disch:=omega) only [go_sem,↓reduceIte,gq,et,Int.natCast_inj,decide_false,true_and]))
     rw [en]
     refine ⟨q+1,by omega,by omega,weak_of ?_ ?_⟩<;>(try simp (disch:=omega) only [go_sem,Nat.reduceAdd])<;>(try first|done|omega|rfl|exact ⟨rfl,rfl⟩|trivial)
   ·have he:q=S.length:=by omega
    subst he
    rw [hfin]
    repeat (first|(with_reducible first|refine J_exit ?_|refine J_region ?_ |refine aApp_sl ?_|(refine Kont.go (by assumption) ?_)|(simp (config:={ maxSteps:=3000000 }) (disch:=omega) only [go_sem,Nat.reduceEqDiff,↓reduceIte,Nat.reduceAdd,Nat.reduceLeDiff,hnx,hlt]))|refine And.intro (by omega) ?_)
    refine ⟨k+1,by omega,by omega,weak_of ?_ ?_⟩<;>(try simp (disch:=omega) only [go_sem,Nat.reduceAdd])<;>(try first|done|omega|rfl|exact ⟨rfl,rfl⟩|trivial)
  | false =>
   have hin':Good Tryz.prog 101 [I (k:Int),.fz 1 (Ns l)] (Bo false):=by rw [←hTk];exact hin
   have e0:fr ((0:Int):Rat)=fr (fvK S h bs k 0):=by show _=fr bs;rw [hbs,hTk];rfl
   repeat (first|(with_reducible first|refine W_seq fun K hK=>?_|refine J_block ?_|refine J_skip ?_|refine J_region ?_ |(refine Kont.go (by assumption) ?_)|(simp (config:={ maxSteps:=3000000 }) (disch:=omega) only [go_sem,↓reduceIte,Nat.reduceAdd,e0]))|refine call_f (rof_frac (by omega) (by omega)) rfl ?_)
   refine call_f hin' rfl ?_
   repeat (with_reducible first|refine W_seq fun K hK=>?_|refine J_block ?_|refine J_skip ?_|refine J_region ?_ |refine J_c ?_|refine Jc_false ?_|(refine Kont.go (by assumption) ?_)|(simp (config:={ maxSteps:=3000000 }) (disch:=omega) only [go_sem]))
   refine W_loop [25,143,144,145,146,147,148,149,150,151,152,153,154,155,156,157,158] (fun x:Nat=>[(25,.f (I x))]) (fun x:Nat=>[none,none,none,ob 44 3 (hoT h k),oF (fr (fvK S h bs k x))]) (fun x:Nat=>x≤S.length) (fun x:Nat=>S.length-x) (0) (Nat.zero_le _) (by refine weak_of ?_ ?_<;>simp (disch:=omega) only [go_sem,Nat.reduceAdd]<;>first|rfl|exact ⟨rfl,rfl⟩|exact Or.inl rfl|exact ⟨Or.inl rfl,Or.inl rfl⟩|trivial|assumption|omega|(symm;assumption)|((repeat' apply And.intro)<;>first|rfl|omega|trivial|exact .inr ⟨rfl,rfl⟩|exact .inr rfl|(right;symm;assumption)|(symm;assumption)|assumption)) ?_
   rintro q hq
   simp only [go_sem]
   repeat (with_reducible first|refine W_seq fun K hK=>?_|refine J_region ?_ |refine J_c ?_|(refine Kont.go (by assumption) ?_)|(simp (config:={ maxSteps:=3000000 }) (disch:=omega) only [go_sem,Ns_len]))
   refine Jc_if (fun hql=>?_) (fun hql=>?_)<;>try simp only [decide_eq_true_eq,decide_eq_false_iff_not] at hql
   ·have gq:=hSg q hql
    have gx:=hxg q hql
    by_cases e:S.getD q 0=k
    ·have et:(S.getD q 0=k)=True:=eq_true e
     have en:fr (h (S.getD q 0))=fr (fvK S h bs k (q+1)):=by show _=fr (if S.getD q 0=k then _ else _);rw [if_pos e]
     repeat (with_reducible first|refine W_seq fun K hK=>?_|refine J_block ?_|refine J_skip ?_|refine J_region ?_ |refine J_c ?_|refine Jc_true ?_|(refine Kont.go (by assumption) ?_)|(simp (config:={ maxSteps:=3000000 }) (disch:=omega) only [go_sem,↓reduceIte,Nat.reduceAdd,gq,gx,et,Int.natCast_inj,decide_true,true_and,and_self]))
     rw [en]
     refine ⟨q+1,by omega,by omega,weak_of ?_ ?_⟩<;>(try simp (disch:=omega) only [go_sem,Nat.reduceAdd])<;>(try first|done|omega|rfl|exact ⟨rfl,rfl⟩|trivial)
    ·have et:(S.getD q 0=k)=False:=eq_false e
     have en:fr (fvK S h bs k q)=fr (fvK S h bs k (q+1)):=by show _=fr (if S.getD q 0=k then _ else _);rw [if_neg e]
     repeat (with_reducible first|refine W_seq fun K hK=>?_|refine J_block ?_|refine J_skip ?_|refine J_region ?_ |refine J_c ?_|refine Jc_false ?_|(refine Kont.go (by assumption) ?_)|(simp (config:={ maxSteps:=3000000 }) (disch:=omega) only [go_sem,↓reduceIte,gq,et,Int.natCast_inj,decide_false,true_and]))
     rw [en]
     refine ⟨q+1,by omega,by omega,weak_of ?_ ?_⟩<;>(try simp (disch:=omega) only [go_sem,Nat.reduceAdd])<;>(try first|done|omega|rfl|exact ⟨rfl,rfl⟩|trivial)
   ·have he:q=S.length:=by omega
    subst he
    rw [hfin]
    repeat (first|(with_reducible first|refine J_exit ?_|refine J_region ?_ |refine aApp_sl ?_|(refine Kont.go (by assumption) ?_)|(simp (config:={ maxSteps:=3000000 }) (disch:=omega) only [go_sem,Nat.reduceEqDiff,↓reduceIte,Nat.reduceAdd,Nat.reduceLeDiff,hnx,hlt]))|refine And.intro (by omega) ?_)
    refine ⟨k+1,by omega,by omega,weak_of ?_ ?_⟩<;>(try simp (disch:=omega) only [go_sem,Nat.reduceAdd])<;>(try first|done|omega|rfl|exact ⟨rfl,rfl⟩|trivial)
 ·have he:k=i:=by omega
  subst he
  repeat (with_reducible first|refine W_seq fun K hK=>?_|refine J_exit ?_|refine J_ret ?_|refine J_region ?_ |(refine Kont.go (by assumption) ?_)|(simp (config:={ maxSteps:=3000000 }) (disch:=omega) only [go_sem,↓reduceIte]))
  exact ⟨_,rfl,FrzL.cons (Frz.sl rfl) (FrzL.cons (.f _) (FrzL.nil _))⟩
end Go.Proofs.YtcgagiimlkjcpaaGreatDoor
