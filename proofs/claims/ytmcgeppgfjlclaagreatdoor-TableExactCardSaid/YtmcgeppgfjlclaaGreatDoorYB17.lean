/- slices.DeleteFunc at whole numbers: walked. Conditions: lists of at most 1000. -/
import Derived.Test.YtmcgeppgfjlclaaGreatDoorYB12
import Derived.Test.YtmcgeppgfjlclaaGreatDoorYB16
import Derived.Test.YtmcgeppgfjlclaaGreatDoorYB10
import Derived.Test.YtmcgeppgfjlclaaGreatDoorYB13
set_option linter.unusedVariables false
set_option linter.unusedSimpArgs false
namespace Go.Proofs.YtmcgeppgfjlclaaGreatDoor
open Go Go.RowKit
set_option maxRecDepth 100000 in
theorem indexFuncZ_w {l:List Int} {g:FuncId} {b:List FV} {p:Int→Bool} (hl:l.length≤1000) (hg:∀v∈l,Good Tryz.prog g ([]++[I v]++b) (Bo (p v))) :
  Good Tryz.prog 81 [ints l,.fn g [] b] (I (frsI (fun i=>p (l.getD i 0)) l.length)):=by
 refine good_of Tryz.func81 rfl (by kernel_rfl) fun X hO hrd=>?_;rw [Tryz.ntmps81,Tryz.results81];simp only [ast0,List.map_cons,List.map_nil,List.length_cons,List.length_nil,Nat.reduceAdd,Nat.reduceSub,List.replicate_succ,List.replicate_zero,List.cons_append,List.nil_append]
 (repeat (with_reducible first|refine W_seq fun K hK=>?_|refine J_block ?_|refine J_region ?_ |(refine Kont.go (by assumption) ?_)|(simp (config:={ maxSteps:=3000000 }) (disch:=omega) only [go_sem,List.length_map])))
 refine W_loop [4,5,8,9,10,11,12,13,14,15,16,17,18] (fun x:Nat=>[(8,.f (I x))]) (fun x:Nat=>[]) (fun x:Nat=>x≤l.length∧∀j,j<x→p (l.getD j 0)=false) (fun x:Nat=>l.length-x) (0) (⟨Nat.zero_le _,fun j h=>by omega⟩) (by refine weak_of ?_ ?_<;>simp (disch:=omega) only [go_sem]<;>first|rfl|exact ⟨rfl,rfl⟩|exact Or.inl rfl|exact ⟨Or.inl rfl,Or.inl rfl⟩|trivial|assumption|omega|(symm;assumption)|((repeat' apply And.intro)<;>first|rfl|omega|trivial|exact .inl rfl|exact .inr ⟨rfl,rfl⟩|exact .inr rfl|(right;symm;assumption)|(symm;assumption)|assumption)) ?_
 rintro i ⟨hi,hp⟩
 simp only [go_sem]
 (repeat (with_reducible first|refine W_seq fun K hK=>?_|refine J_region ?_ |refine J_c ?_|(refine Kont.go (by assumption) ?_)|(simp (config:={ maxSteps:=3000000 }) (disch:=omega) only [go_sem])))
 refine Jc_if (fun hlt=>?_) (fun hlt=>?_)<;>try simp only [decide_eq_true_eq,decide_eq_false_iff_not] at hlt
 ·have hx:=map_get I l hlt
  have g3:l.getD i 0=l[i]:=lget_lt l 0 hlt
  have hc:=hg l[i] (List.getElem_mem _)
  (repeat (with_reducible first|refine W_seq fun K hK=>?_|refine J_block ?_|refine J_skip ?_|refine J_region ?_ |(refine Kont.go (by assumption) ?_)|(simp (config:={ maxSteps:=3000000 }) (disch:=omega) only [go_sem,↓reduceIte,hx])))
  refine call_f hc (by simp) ?_
  (repeat (with_reducible first|refine J_c ?_|(refine Kont.go (by assumption) ?_)|(simp (config:={ maxSteps:=3000000 }) (disch:=omega) only [go_sem])))
  refine Jc_if (fun hpi=>?_) (fun hpi=>?_)<;>try simp only [decide_eq_true_eq,decide_eq_false_iff_not,Bool.not_eq_true',Bool.not_eq_false',Bool.not_true,Bool.not_false,Int.ofNat_lt,Int.ofNat_le,Int.natCast_inj,Classical.not_not] at hpi
  ·have e:frsI (fun i=>p (l.getD i 0)) l.length=i:=frsI_some hlt (by rw [g3];exact hpi) hp
   (repeat (with_reducible first|refine W_seq fun K hK=>?_|refine J_ret ?_|refine J_region ?_ |(refine Kont.go (by assumption) ?_)|(simp (config:={ maxSteps:=3000000 }) (disch:=omega) only [go_sem])))
   rw [e]
   exact Frz.f _
  ·have hpf:p l[i]=false:=by simpa using hpi
   (repeat (with_reducible first|refine J_skip ?_|refine J_region ?_ |(refine Kont.go (by assumption) ?_)|(simp (config:={ maxSteps:=3000000 }) (disch:=omega) only [go_sem])))
   refine ⟨i+1,⟨by omega,upto_next (p:=fun j=>p (l.getD j 0)=false) hp (by rw [g3];exact hpf)⟩,by omega,weak_of ?_ ?_⟩<;>(try simp (disch:=omega) only [go_sem])<;>(try first|done|omega|rfl|exact ⟨rfl,rfl⟩|trivial)
 ·have he:i=l.length:=by omega
  subst he
  have e:frsI (fun i=>p (l.getD i 0)) l.length=-1:=frsI_none hp
  (repeat (with_reducible first|refine W_seq fun K hK=>?_|refine J_exit ?_|refine J_ret ?_|refine J_region ?_ |(refine Kont.go (by assumption) ?_)|(simp (config:={ maxSteps:=3000000 }) (disch:=omega) only [go_sem,↓reduceIte,Int.reduceNeg])))
  rw [e]
  exact Frz.f _
theorem aClear_go {T:TI} {H:AH} {r n off:Nat} {k:AH→Prop} (z:Value) (o:AO) (h1:T.size=1) (hn:0<n) (hz:T.zero=some (.v z)) (hzc:z.cells=#[z]) (hzo:z.oneCell'=true) (ho:H[r]?=some (some o)) (hos:o.sz=1) (hle:off+n≤o.es.length)
  (hk:k (H.set r (some ⟨o.e,1,o.es.take off++(List.replicate n (.f (.v z))++o.es.drop (off+n))⟩))):aClear T H (.own r 1 off n) k:=⟨h1,rfl,hn,z,hz,hzc,hzo,o,ho,hos,hle,hk⟩
def kepT (p:Int→Bool) (l:List Int):List Int:=l.filter fun v=>!p v
def delL (p:Int→Bool) (l:List Int):List Int:=kepT p l++List.replicate (l.length-(kepT p l).length) 0
theorem kepT_all {p:Int→Bool} {l:List Int} (h:∀j,j<l.length→p (l.getD j 0)=false):kepT p l=l:=List.filter_eq_self.2 fun v hv=>by
 obtain ⟨j,hj,rfl⟩:=List.getElem_of_mem hv
 have:=h j hj
 rw [lget_lt l 0 hj] at this
 rw [this];rfl
theorem kepT_next {p:Int→Bool} {l:List Int} {j:Nat} (h:j<l.length):kepT p (l.take (j+1))=kepT p (l.take j)++if p l[j]=true then [] else [l[j]]:=by
 unfold kepT
 rw [List.take_add_one,List.getElem?_eq_getElem h,List.filter_append]
 congr 1
 cases e:p l[j]<;>simp [e]
theorem first_or (p:Nat→Bool) (n:Nat):(∀j,j<n→p j=false)∨∃i,i<n∧p i=true∧∀j,j<i→p j=false:=by
 induction n with
 | zero=>exact .inl fun j h=>by omega
 | succ n ih =>
  rcases ih with h|⟨i,h1,h2,h3⟩
  ·cases hn:p n with
   | true=>exact .inr ⟨n,by omega,hn,h⟩
   | false=>exact .inl fun j hj=>(Nat.lt_or_eq_of_le (Nat.le_of_lt_succ hj)).elim (h j) fun e=>by rw [e];exact hn
  ·exact .inr ⟨i,by omega,h2,h3⟩
set_option maxRecDepth 100000 in
set_option maxHeartbeats 4000000 in
theorem deleteFunc_u {H:AH} {q:Nat} {l:List Int} {g:FuncId} {cs:List FV} {xf:AV} {p:Int→Bool} (hl:l.length≤1000) (hq:H[q]?=some (some ⟨3,1,(l.map I).map .f⟩)) (hx:Frz (H.set q none) xf (.fn g [] cs))
  (hg:∀v∈l,Good Tryz.prog g ([]++[I v]++cs) (Bo (p v))) :
  CallU Tryz.prog 41 [.own q 1 0 l.length,xf] H (fun u G=>u=.own H.length 1 0 (kepT p l).length∧G=H.set q none++[some ⟨3,1,((delL p l).map I).map .f⟩]):=by
 refine callU_MO (zs:=[.own 0 1 0 l.length,.f (.fn g [] cs)]) (es0:=l.map I) (e:=3) (sz:=1) (k:=(kepT p l).length) (es:=(delL p l).map I) Tryz.func41 rfl (by kernel_rfl) (fun x hx=>by
  obtain ⟨z,_,rfl⟩:=List.mem_map.1 hx;exact .v _) (fun X hrd=>?_) hq rfl (fun j x z hxj hzj=>?_)
 ·have hif:=indexFuncZ_w hl hg
  have hfz:Frz [some (⟨3,1,(l.map I).map AV.f⟩:AO)] (.own 0 1 0 l.length) (ints l):=Frz.own0 rfl (by rw [List.length_map])
  rw [Tryz.ntmps41,Tryz.results41];simp only [ast0M,List.map_cons,List.map_nil,List.length_cons,List.length_nil,Nat.reduceAdd,Nat.reduceSub,List.replicate_succ,List.replicate_zero,List.cons_append,List.nil_append]
  rcases first_or (fun i=>p (l.getD i 0)) l.length with hno|⟨i,hil,hpi,hlo⟩
  ·rw [frsI_none hno] at hif
   have hk:=kepT_all hno
   have hd:delL p l=l:=by unfold delL;rw [hk,Nat.sub_self];simp
   rw [hd,hk]
   (repeat (with_reducible first|refine W_seq fun K hK=>?_|refine J_region ?_ |(refine Kont.go (by assumption) ?_)|(simp (config:={ maxSteps:=3000000 }) (disch:=omega) only [go_sem])))
   refine call_fl hif (.v _) (FrzL.cons hfz (FrzL.cons (.f _) (FrzL.nil _))) ?_
   (repeat (with_reducible first|refine W_seq fun K hK=>?_|refine J_ret ?_|refine J_region ?_ |refine J_c ?_|refine Jc_true ?_|(refine Kont.go (by assumption) ?_)|(simp (config:={ maxSteps:=3000000 }) (disch:=omega) only [go_sem,Int.reduceNeg])))
   exact ⟨0,rfl,rfl⟩
  ·rw [frsI_some hil hpi hlo] at hif
   have hi0:¬(i:Int)=-1:=by omega
   (repeat (with_reducible first|refine W_seq fun K hK=>?_|refine J_region ?_ |(refine Kont.go (by assumption) ?_)|(simp (config:={ maxSteps:=3000000 }) (disch:=omega) only [go_sem])))
   refine call_fl hif (.v _) (FrzL.cons hfz (FrzL.cons (.f _) (FrzL.nil _))) ?_
   (repeat (with_reducible first|refine W_seq fun K hK=>?_|refine J_block ?_|refine J_skip ?_|refine J_region ?_ |refine J_c ?_|refine Jc_false ?_|(refine Kont.go (by assumption) ?_)|(simp (config:={ maxSteps:=3000000 }) (disch:=omega) only [go_sem,Int.reduceNeg,hi0])))
   have hkt:kepT p (l.take i)=l.take i:=by
    refine (kepT_all fun j hj=>?_).trans rfl
    rw [List.length_take] at hj
    have:=hlo j (by omega)
    rw [List.getD_eq_getElem?_getD,List.getElem?_take,if_pos (by omega),←List.getD_eq_getElem?_getD];exact this
   have g3:l.getD i 0=l[i]:=lget_lt l 0 hil
   rw [g3] at hpi
   have hk1:kepT p (l.take (i+1))=l.take i:=by rw [kepT_next hil,if_pos hpi,List.append_nil,hkt]
   have hE0:l=kepT p (l.take (i+1))++([l[i]]++l.drop (i+1)):=by
    rw [hk1]
    have:=List.take_append_drop i l
    rw [List.drop_eq_getElem_cons hil] at this
    exact this.symm
   have hI0:I (i:Int)=I ((kepT p (l.take (i+1))).length:Nat):=by rw [hk1,List.length_take,Nat.min_eq_left (by omega)]
   have hI1:(((kepT p (l.take (i+1))).length:Nat):Int)=(i:Int):=by rw [hk1,List.length_take,Nat.min_eq_left (by omega)]
   have hO0:(l.map I).map AV.f=((kepT p (l.take (i+1))++([l[i]]++l.drop (i+1))).map I).map AV.f:=by rw [←hE0]
   refine W_loop [5,6,7,16,17,18,19,20,21,22,23,24,25,26,27,28,29,30,31,32,33,34,35] (fun x:Nat × List Int=>[(5,.f (I ((kepT p (l.take x.1)).length:Nat))),(6,.f (I (x.1:Nat)))]) (fun x:Nat × List Int=>[some ⟨3,1,((kepT p (l.take x.1)++(x.2++l.drop x.1)).map I).map .f⟩]) (fun x:Nat × List Int=>x.1≤l.length∧0<x.2.length∧(kepT p (l.take x.1)).length+x.2.length=x.1) (fun x:Nat × List Int=>l.length-x.1) ((i+1,[l[i]])) (⟨by show i+1≤_;omega,by simp,by rw [hk1,List.length_take];show min i l.length+1=i+1;omega⟩) (by refine weak_of ?_ ?_<;>simp (disch:=omega) only [go_sem]<;>first|rfl|exact ⟨rfl,rfl⟩|exact Or.inl rfl|exact ⟨Or.inl rfl,Or.inl rfl⟩|trivial|assumption|omega|(symm;assumption)|((repeat' apply And.intro)<;>first|rfl|omega|trivial|exact .inl rfl|exact .inr ⟨rfl,rfl⟩|exact .inr rfl|(right;symm;assumption)|(symm;assumption)|assumption)) ?_
   rintro ⟨j,junk⟩ ⟨h1,h2,h3⟩
   replace h1:j≤l.length:=h1
   replace h2:0<junk.length:=h2
   replace h3:(kepT p (l.take j)).length+junk.length=j:=h3
   obtain ⟨K0,hK0⟩:∃K0,K0=kepT p (l.take j):=⟨_,rfl⟩
   have hEl:((K0++(junk++l.drop j)).map I).length=l.length:=by rw [List.length_map,List.length_append,List.length_append,List.length_drop];rw [←hK0] at h3;omega
   simp only [go_sem]
   rw [←hK0] at h3 ⊢
   (repeat (with_reducible first|refine W_seq fun K hK=>?_|refine J_region ?_ |refine J_c ?_|(refine Kont.go (by assumption) ?_)|(simp (config:={ maxSteps:=3000000 }) (disch:=omega) only [go_sem])))
   refine Jc_if (fun hjl=>?_) (fun hjl=>?_)<;>try simp only [decide_eq_true_eq,decide_eq_false_iff_not] at hjl
   ·have hkn:=kepT_next (p:=p) hjl
    rw [←hK0] at hkn
    have hdr:l.drop j=l[j]::l.drop (j+1):=List.drop_eq_getElem_cons hjl
    have gj:(((K0++(junk++l.drop j)).map I).map AV.f)[j]?=some (.f (I l[j])):=by
     rw [List.getElem?_map,List.getElem?_map,List.getElem?_append_right (by omega),List.getElem?_append_right (by omega),show j-K0.length-junk.length=0 by omega,hdr];rfl
    have hc:=hg l[j] (List.getElem_mem _)
    (repeat (first|(with_reducible first|refine W_seq fun K hK=>?_|refine J_block ?_|refine J_skip ?_|refine J_region ?_ |(refine Kont.go (by assumption) ?_)|(simp (config:={ maxSteps:=3000000 }) (disch:=omega) only [go_sem,↓reduceIte,gj]))|refine And.intro (by omega) ?_))
    refine call_f hc (by simp) ?_
    cases hp:p l[j] with
    | true =>
     rw [if_pos hp,List.append_nil] at hkn
     have hEn:K0++(junk++l.drop j)=kepT p (l.take (j+1))++((junk++[l[j]])++l.drop (j+1)):=by rw [hkn,hdr];simp
     have hIn:I (K0.length:Nat)=I ((kepT p (l.take (j+1))).length:Nat):=by rw [hkn]
     (repeat (with_reducible first|refine J_skip ?_|refine J_region ?_ |refine J_c ?_|refine Jc_false ?_|(refine Kont.go (by assumption) ?_)|(simp (config:={ maxSteps:=3000000 }) (disch:=omega) only [go_sem])))
     rw [hEn]
     refine ⟨(j+1,junk++[l[j]]),⟨by show j+1≤_;omega,by simp,by rw [hkn,List.length_append];show _+(junk.length+1)=j+1;omega⟩,by show l.length-(j+1)<l.length-j;omega,weak_of ?_ ?_⟩<;>(try simp (disch:=omega) only [go_sem,hIn])<;>(try first|done|omega|rfl|exact ⟨rfl,rfl⟩|trivial)
    | false =>
     rw [if_neg (by rw [hp];decide)] at hkn
     obtain ⟨x0,junk',rfl⟩:∃x0 junk',junk=x0::junk':=by
      cases junk with
      | nil=>simp at h2
      | cons x0 junk'=>exact ⟨_,_,rfl⟩
     have hKl:K0.length<l.length:=by simp only [List.length_cons] at h3;omega
     have hset:(((K0++x0::(junk'++l.drop j)).map I).map AV.f).set K0.length (.f (I l[j]))=((kepT p (l.take (j+1))++((junk'++[l[j]])++l.drop (j+1))).map I).map AV.f:=by
      rw [←List.map_set,←List.map_set,hkn,hdr]
      congr 2
      rw [List.set_append_right _ _ (Nat.le_refl _),Nat.sub_self]
      simp
     have gk:∀y,(((K0++x0::(junk'++l.drop j)).map I).map AV.f)[K0.length]?=some y→True:=fun _ _=>trivial
     have gK:(((K0++x0::(junk'++l.drop j)).map I).map AV.f)[K0.length]?=some (.f (I x0)):=by
      rw [List.getElem?_map,List.getElem?_map,List.getElem?_append_right (Nat.le_refl _),Nat.sub_self];rfl
     have hIn:I ((K0.length:Int)+1)=I ((kepT p (l.take (j+1))).length:Nat):=by rw [hkn,List.length_append];rfl
     (repeat (with_reducible first|refine W_seq fun K hK=>?_|refine J_region ?_ |refine J_c ?_|refine Jc_true ?_|(refine Kont.go (by assumption) ?_)|(simp (config:={ maxSteps:=3000000 }) (disch:=omega) only [go_sem,↓reduceIte,gK,hset,hKl])))
     refine ⟨(j+1,junk'++[l[j]]),⟨by show j+1≤_;omega,by simp,by rw [hkn,List.length_append,List.length_append];simp only [List.length_cons] at h3;show K0.length+1+(junk'.length+1)=j+1;omega⟩,by show l.length-(j+1)<l.length-j;omega,weak_of ?_ ?_⟩<;>(try simp (disch:=omega) only [go_sem,hIn])<;>(try first|done|omega|rfl|exact ⟨rfl,rfl⟩|trivial)
   ·have he:j=l.length:=by omega
    have hKe:K0=kepT p l:=by rw [hK0,he,List.take_length]
    have hdn:l.drop j=[]:=by rw [he];exact List.drop_length
    have hKl:K0.length<l.length:=by omega
    rw [hdn,List.append_nil] at hEl ⊢
    rw [←hKe]
    (repeat (first|(with_reducible first|refine W_seq fun K hK=>?_|refine J_exit ?_|refine J_region ?_ |(refine Kont.go (by assumption) ?_)|(simp (config:={ maxSteps:=3000000 }) (disch:=omega) only [go_sem,↓reduceIte,hKl]))|refine And.intro (by omega) ?_))
    refine aClear_go (.int .i64 0) _ rfl (by omega) rfl rfl rfl rfl rfl (by simp only [List.length_map,List.length_append];omega) ?_
    have hfin:(((K0++junk).map I).map AV.f).take K0.length++(List.replicate (l.length-K0.length) (AV.f (.v (.int .i64 0)))++(((K0++junk).map I).map AV.f).drop (K0.length+(l.length-K0.length)))=((delL p l).map I).map AV.f:=by
     unfold delL
     rw [←hKe,List.drop_eq_nil_of_le (by simp only [List.length_map,List.length_append];omega),List.append_nil,List.map_append,List.map_append,List.take_append_of_le_length (by simp),List.take_of_length_le (by simp)]
     simp
    have hsub:((l.length:Int)-(K0.length:Int)).toNat=l.length-K0.length:=by omega
    have hsub2:((K0.length:Int)-0).toNat=K0.length:=by omega
    (repeat (first|(with_reducible first|refine W_seq fun K hK=>?_|refine J_ret ?_|refine J_region ?_ |(refine Kont.go (by assumption) ?_)|(simp (config:={ maxSteps:=3000000 }) (disch:=omega) only [go_sem,↓reduceIte,Int.reduceLE,hsub,hsub2,hfin]))|refine And.intro (by omega) ?_))
    exact ⟨0,by rw [←hKe];rfl,rfl⟩
 ·cases j with
  | zero=>cases hxj;cases hzj;exact .inl ⟨rfl,rfl⟩
  | succ j =>
   cases j with
   | zero=>cases hxj;cases hzj;exact .inr ⟨_,rfl,hx⟩
   | succ j=>simp at hxj
end Go.Proofs.YtmcgeppgfjlclaaGreatDoor
set_option linter.unusedVariables false
set_option linter.unusedSimpArgs false
namespace Go.Proofs.YtmcgeppgfjlclaaGreatDoor
open Go Go.RowKit
theorem flatF_take {l:List FV} {k j:Nat} {c:FV} (h:(flatF (l.take k))[j]?=some c):(flatF l)[j]?=some c:=by
 have e:flatF l=flatF (l.take k)++flatF (l.drop k):=by
  conv=>lhs;rw [←List.take_append_drop k l]
  unfold flatF;rw [List.flatMap_append]
 rw [e,List.getElem?_append_left (List.getElem?_eq_some_iff.1 h).1];exact h
theorem RelF.slice_frozenP {X:Cx} {F:Nat→Prop} {loc:Nat→Nat × Nat} {s:AS} {a:Act} {w:World} (R:RelF X F loc s a w) {j r sz k:Nat} {e:TypeId} {l:List FV} (hj:s.t[j]?=some (.own r sz 0 k)) (hk:k≤l.length) (hr:s.H[r]?=some (some ⟨e,sz,l.map .f⟩)) :
  ∃F',RelF X F' loc ⟨(s.t.map (AV.kill r)).set j (.f (.fz sz (l.take k))),(s.H.map (killO r)).set r none⟩ a w:=by
 have R1:=R.freeze hr
 have R2:=R1.kills r
 have e1:(List.map (killO r) (s.H.set r none)).set r none=(s.H.map (killO r)).set r none:=by
  apply List.ext_getElem?
  intro i
  by_cases e:i=r
  ·subst e;rw [List.getElem?_set_self (by simpa using hlt hr),List.getElem?_set_self (by simpa using hlt hr)]
  ·rw [List.getElem?_set_ne (Ne.symm e),List.getElem?_set_ne (Ne.symm e),List.getElem?_map,List.getElem?_map,List.getElem?_set_ne (Ne.symm e)]
 have R3:RelF X (fun b=>F b∨b=(loc r).1) loc ⟨s.t.map (AV.kill r),(s.H.map (killO r)).set r none⟩ a w:=by rw [←e1];exact R2
 refine ⟨_,⟨R3.hF,R3.hG,R3.hN,R3.below,R3.defers,by simpa using R3.len,fun i x hi=>?_,fun q p h=>by have:=R3.obj q p h;exact this,R3.new,R3.nF,R3.inj⟩⟩
 replace hi:((s.t.map (AV.kill r)).set j (.f (.fz sz (l.take k))))[i]?=some x:=hi
 by_cases e:i=j
 ·subst e
  rw [List.getElem?_set_self (by simpa using glt hj)] at hi
  cases hi
  have hx:=R.tmps i _ hj
  obtain ⟨hu,vs,hvs,hvz,hc⟩:=R.obj r _ hr
  have hlk:(l.take k).length=k:=by rw [List.length_take];omega
  generalize a.tmps.getD i undef=v at hx ⊢
  cases hx with
  | own _ _ _ _ cap hr' hkc hm hs =>
   refine .f _ _ ?_
   rw [Nat.zero_mul]
   have h0:k=(l.take k).length:=hlk.symm
   obtain ⟨L,hL⟩:∃L,L=l.take k:=⟨_,rfl⟩
   rw [←hL] at h0 ⊢
   rw [h0]
   refine .fz sz L (loc r).1 0 cap (.inr rfl) (by omega) hm (fun x hx=>uni_f.1 hu x (by rw [hL] at hx;exact List.mem_of_mem_take hx)) (fun j=>vs.getD j undef) (fun j c hj=>?_) fun j c hj=>?_
   ·rw [hL] at hj
    obtain ⟨u,h1,h2⟩:=hc j (.f c) (by
     show (flat (l.map AV.f))[j]?=_
     rw [flat_f,List.getElem?_map,flatF_take hj];rfl)
    unfold World.cell?
    rw [show w.heap[(loc r).1]?=_ from hvs]
    have:vs.getD j undef=u:=by rw [Array.getD_eq_getD_getElem?,h1];rfl
    simp only [Nat.zero_add,this,h1]
    simp
   ·rw [hL] at hj
    obtain ⟨u,h1,h2⟩:=hc j (.f c) (by
     show (flat (l.map AV.f))[j]?=_
     rw [flat_f,List.getElem?_map,flatF_take hj];rfl)
    have:vs.getD j undef=u:=by rw [Array.getD_eq_getD_getElem?,h1];rfl
    rw [this]
    cases h2 with|f _ _ h2=>exact h2.mono (fun _ h=>.inl h) (fun _ _ _ _ h=>h)
 ·rw [List.getElem?_set_ne (Ne.symm e)] at hi
  exact R3.tmps i x hi
theorem J_freezeP {X:Cx} {P:Program} {Q:Exit→AS→Prop} {s:AS} {j r sz k:Nat} {e:TypeId} {l:List FV} (hj:s.t[j]?=some (.own r sz 0 k)) (hk0:k≤l.length) (hr:s.H[r]?=some (some ⟨e,sz,l.map .f⟩)) {c:Code} (h:J X P c Q ⟨(s.t.map (AV.kill r)).set j (.f (.fz sz (l.take k))),(s.H.map (killO r)).set r none⟩):J X P c Q s :=
 fun hk a w ⟨F,loc,R⟩=>by obtain ⟨F',R'⟩:=R.slice_frozenP hj hk0 hr;exact h hk a w ⟨F',loc,R'⟩
end Go.Proofs.YtmcgeppgfjlclaaGreatDoor
set_option linter.unusedVariables false
set_option linter.unusedSimpArgs false
namespace Go.Proofs.YtmcgeppgfjlclaaGreatDoor
open Go Go.RowKit
def AV.sim:AV→Bool
 | .f _|.own ..|.ptr ..=>true
 | _=>false
section
variable {P : Program}
theorem Rep.shift {w:World} {F:Nat→Prop} {loc loc':Nat→Nat × Nat} {M N N':Nat} {x:AV} {y:Value} (h:Rep w F loc M x y) (hsim:x.sim=true) (hN:N+M≤N') (hl:∀r,r<M→loc' (N+r)=loc r):Rep w F loc' N' (x.ren (N+·)) y:=by
 cases h with
 | any=>cases hsim
 | one=>cases hsim
 | f x y h=>exact .f x y h
 | agg=>cases hsim
 | tup=>cases hsim
 | own r sz off k cap hr hk hm hs =>
  have:=Rep.own (w:=w) (F:=F) (loc:=loc') (N:=N') (N+r) sz off k cap (by omega) hk hm (by rw [hl r hr];exact hs)
  rwa [hl r hr] at this
 | ptr r sz i j hr =>
  have:=Rep.ptr (w:=w) (F:=F) (loc:=loc') (N:=N') (N+r) sz i j (by omega)
  rwa [hl r hr] at this
 | fn=>cases hsim
end
end Go.Proofs.YtmcgeppgfjlclaaGreatDoor
set_option linter.unusedVariables false
set_option linter.unusedSimpArgs false
namespace Go.Proofs.YtmcgeppgfjlclaaGreatDoor
open Go Go.RowKit
theorem Frz.grow {H H':List (Option AO)} (hH:∀(r:Nat) o,H[r]?=some (some o)→H'[r]?=some (some o)) {x:AV} {y:FV} (h:Frz H x y):Frz H' x y:=by
 induction h with
 | f x=>exact .f x
 | nil sz=>exact .nil sz
 | agg cs ds hl _ ih=>exact .agg cs ds hl ih
 | tup cs ds hl _ ih=>exact .tup cs ds hl ih
 | own r sz off k o ds ho hs hk hl _ ih=>exact .own r sz off k o ds (hH r o ho) hs hk hl ih
 | ptr r sz i j o e d ho hs he _ ih=>exact .ptr r sz i j o e d (hH r o ho) hs he ih
 | fn f a b a' b' h1 _ h3 _ ih1 ih2=>exact .fn f a b a' b' h1 ih1 h3 ih2
section
variable {w : World} {F : Nat → Prop} {loc loc' : Nat → Nat × Nat} {N N' M : Nat} {x : AV} {y : Value} {q : Nat → Bool}
end
def rvG (e:TypeId) (sz:Nat) (l:List FV):RV:=if l=[] then .f (.v (.slice none 0 0)) else .own e sz l
theorem rvG_rep {w0 w:World} {e:TypeId} {sz:Nat} {l:List FV} {v:Value} (hr:RepR w0 w (rvG e sz l) v):RepF w (fun b=>w0.heap.size≤b∧b<w.heap.size) (.fz sz l) v:=by
 unfold rvG at hr
 split at hr
 ·rename_i hl
  subst hl
  cases hr with
  | f _ _ hf h=>cases h;exact .fz0 _ _ _ (by unfold maxLen;omega)
 ·cases hr with
  | own _ _ _ g cap hbg hk hm hf hu vs hv hs hc =>
   have hg:=(Array.getElem?_eq_some_iff.1 (show w.heap[g]?=some _ from hv)).1
   refine .fz sz l g 0 cap ⟨hbg,hg⟩ hk hm hu (fun j=>vs.getD j undef) (fun j c hj=>?_) (fun j c hj=>?_)
   ·obtain ⟨u,h1,_⟩:=hc j c hj
    show w.cell? ⟨g,0+j,none⟩=some (vs.getD j undef)
    rw [Nat.zero_add]
    unfold World.cell?
    rw [show w.heap[(⟨g,j,none⟩:Addr).block]?=_ from hv]
    simp only [Option.isSome_none,Bool.false_eq_true,if_false]
    rw [h1,Array.getD_eq_getD_getElem?,h1];rfl
   ·obtain ⟨u,h1,h2⟩:=hc j c hj
    show RepF w _ c (vs.getD j undef)
    rw [Array.getD_eq_getD_getElem?,h1]
    exact h2.mono (fun _ h=>h.elim) (fun _ _ _ h=>h.elim)
theorem freshO {P:Program} {f:FuncId} {xs:List FV} {e:TypeId} {sz:Nat} {l:List FV} (h:GoodO P f xs (rvG e sz l)):Fresh P f xs (.fz sz l):=fun w G ys h1 h2 h3 =>
 (h.2 w G ys h1 h2 h3).mono fun e w' ⟨v,he,hb,hr⟩=>⟨v,he,hb,rvG_rep hr⟩
theorem Fresh.good {P:Program} {f:FuncId} {xs:List FV} {r:FV} (h:Fresh P f xs r) (hok:enterOk P f=true):Good P f xs r:=⟨hok,fun w G ys h1 h2 h3 =>
 (h w G ys h1 h2 h3).mono fun e w' ⟨v,he,hb,hr⟩=>⟨v,he,hb,hr.mono (fun _ h=>.inr h) fun _ _ _ _ h=>h⟩⟩
theorem rvG_end {H:AH} {r:Nat} {e:TypeId} {sz:Nat} {l:List FV} (h:H[r]?=some (ob e sz l)) (hf:∀x∈l,FlatF x):ownR H (sl r sz l) (rvG e sz l):=by
 unfold rvG
 by_cases e0:l=[]
 ·rw [if_pos e0,e0];exact ⟨rfl,.v _⟩
 ·rw [if_neg e0]
  rw [ob_pos e0] at h
  exact ⟨r,sl_pos e0,h,hf⟩
section
variable {P : Program}
end
end Go.Proofs.YtmcgeppgfjlclaaGreatDoor
set_option linter.unusedVariables false
set_option linter.unusedSimpArgs false
namespace Go.Proofs.YtmcgeppgfjlclaaGreatDoor
open Go Go.RowKit
abbrev tabV (l:List Nat) (xs:List FV):FV:=.agg [.fz 1 (Ns l),.fz 3 xs]
abbrev oT (x:FV):Option AO:=some ⟨27,2,[.f x]⟩
structure TbOk (k : Nat) (Z l : List Nat) (xs : List FV) (qs : List Rat) : Prop where
  ok : OkT Z l
  fr : Frs k xs qs
  len : qs.length = cntS (szT Z) l
set_option maxRecDepth 100000 in
theorem tcheck_w {k:Nat} {Z l:List Nat} {xs:List FV} {qs:List Rat} (h:TbOk k Z l xs qs):Good Tryz.prog 18 [.fz 1 (Ns Z),tabV l xs] (I 0):=by
 have hc:=tcountT_w h.ok
 have hcl:=h.ok.cnt
 have hxl:xs.length=cntS (szT Z) l:=by rw [h.fr.len,h.len]
 refine good_of Tryz.func18 rfl (by kernel_rfl) fun X hO hrd=>?_;rw [Tryz.ntmps18,Tryz.results18];simp only [ast0,List.map_cons,List.map_nil,List.length_cons,List.length_nil,Nat.reduceAdd,Nat.reduceSub,List.replicate_succ,List.replicate_zero,List.cons_append,List.nil_append]
 (repeat (with_reducible first|refine W_seq fun K hK=>?_|refine J_region ?_ |(refine Kont.go (by assumption) ?_)|(simp (config:={ maxSteps:=3000000 }) (disch:=omega) only [go_sem,↓reduceIte,Nat.reduceAdd])))
 (first|refine call_f (hc) rfl ?_|refine callQ_f (hc) rfl ?_|refine callHK_f (hc) rfl ?_|refine callH_f (hc) rfl ?_)
 (repeat (with_reducible first|refine W_seq fun K hK=>?_|refine J_skip ?_|refine J_ret ?_|refine J_region ?_ |refine J_c ?_|refine Jc_false ?_|exact Frz.f _|(refine Kont.go (by assumption) ?_)|(simp (config:={ maxSteps:=3000000 }) (disch:=omega) only [go_sem,↓reduceIte,hxl])))
set_option maxRecDepth 100000 in
theorem rtcheck_w {k:Nat} {Z l:List Nat} {xs:List FV} {qs:List Rat} (h:TbOk k Z l xs qs):Good Tryz.prog 19 [.fz 1 (Ns Z),tabV l xs] (I 0):=by
 have hc:=rcountT_w h.ok
 have hcl:=h.ok.cnt
 have hxl:xs.length=cntS (szT Z) l:=by rw [h.fr.len,h.len]
 refine good_of Tryz.func19 rfl (by kernel_rfl) fun X hO hrd=>?_;rw [Tryz.ntmps19,Tryz.results19];simp only [ast0,List.map_cons,List.map_nil,List.length_cons,List.length_nil,Nat.reduceAdd,Nat.reduceSub,List.replicate_succ,List.replicate_zero,List.cons_append,List.nil_append]
 (repeat (with_reducible first|refine W_seq fun K hK=>?_|refine J_region ?_ |(refine Kont.go (by assumption) ?_)|(simp (config:={ maxSteps:=3000000 }) (disch:=omega) only [go_sem,↓reduceIte,Nat.reduceAdd])))
 (first|refine call_f (hc) rfl ?_|refine callQ_f (hc) rfl ?_|refine callHK_f (hc) rfl ?_|refine callH_f (hc) rfl ?_)
 (repeat (with_reducible first|refine W_seq fun K hK=>?_|refine J_skip ?_|refine J_ret ?_|refine J_region ?_ |refine J_c ?_|refine Jc_false ?_|exact Frz.f _|(refine Kont.go (by assumption) ?_)|(simp (config:={ maxSteps:=3000000 }) (disch:=omega) only [go_sem,↓reduceIte,hxl])))
set_option maxRecDepth 100000 in
theorem outJ_w {x y:FV} {a b:Rat} {k j:Nat} (hx:IsFr x a k) (hy:IsFr y b j) (hk:k≤34359738368) (hj:j≤34359738368):Good Tryz.prog 39 [x,y] (if a<b then y else x):=by
 obtain ⟨g1,n1,d1,rfl,hx'⟩:=hx
 obtain ⟨g2,n2,d2,rfl,hy'⟩:=hy
 have hc:=cmp_w ⟨_,_,_,rfl,hx'⟩ ⟨_,_,_,rfl,hy'⟩ hk hj
 refine good_of Tryz.func39 rfl (by kernel_rfl) fun X hO hrd=>?_;rw [Tryz.ntmps39,Tryz.results39];simp only [ast0,List.map_cons,List.map_nil,List.length_cons,List.length_nil,Nat.reduceAdd,Nat.reduceSub,List.replicate_succ,List.replicate_zero,List.cons_append,List.nil_append]
 (repeat (with_reducible first|refine W_seq fun K hK=>?_|refine J_region ?_ |(refine Kont.go (by assumption) ?_)|(simp (config:={ maxSteps:=3000000 }) (disch:=omega) only [go_sem,↓reduceIte,Nat.reduceAdd])))
 (first|refine call_f (hc) rfl ?_|refine callQ_f (hc) rfl ?_|refine callHK_f (hc) rfl ?_|refine callH_f (hc) rfl ?_)
 by_cases h:a<b
 ·have h1:=cmpR_lt.2 h
  (repeat (with_reducible first|refine W_seq fun K hK=>?_|refine J_ret ?_|refine J_region ?_ |refine J_c ?_|refine Jc_true ?_|(refine Kont.go (by assumption) ?_)|(simp (config:={ maxSteps:=3000000 }) (disch:=omega) only [go_sem,↓reduceIte,Nat.reduceAdd,h1])))
  rw [if_pos h]
  exact Frz.f _
 ·have h1:¬cmpR a b<0:=fun hh=>h (cmpR_lt.1 hh)
  (repeat (with_reducible first|refine W_seq fun K hK=>?_|refine J_skip ?_|refine J_ret ?_|refine J_region ?_ |refine J_c ?_|refine Jc_false ?_|(refine Kont.go (by assumption) ?_)|(simp (config:={ maxSteps:=3000000 }) (disch:=omega) only [go_sem,↓reduceIte,Nat.reduceAdd,h1])))
  rw [if_neg h]
  exact Frz.f _
set_option maxRecDepth 100000 in
theorem outD_w (x v:Int):Good Tryz.prog 43 [I x,.fp (I v) 0] (Bo (decide (x=v))):=by
 refine good_of Tryz.func43 rfl (by kernel_rfl) fun X hO hrd=>?_;rw [Tryz.ntmps43,Tryz.results43];simp only [ast0,List.map_cons,List.map_nil,List.length_cons,List.length_nil,Nat.reduceAdd,Nat.reduceSub,List.replicate_succ,List.replicate_zero,List.cons_append,List.nil_append]
 (repeat (with_reducible first|refine W_seq fun K hK=>?_|refine J_ret ?_|refine J_region ?_ |exact Frz.f _|(refine Kont.go (by assumption) ?_)|(simp (config:={ maxSteps:=3000000 }) (disch:=omega) only [go_sem,↓reduceIte])))
theorem gaR_fz {op:Rat→Rat→Rat} {z:Rat} {tw:Nat→Nat} {qs:List Rat} {K:Nat} (hz:Fz z 8) (hq:Row K qs) (hop:∀a b s,Fz a s→Fz b K→Fz (op a b) (s+K+1)) (i:Nat):∀k,k≤qs.length→Fz (gaR op z tw qs k i) (8+k*(K+1)):=by
 intro k
 induction k with
 | zero=>intro _;exact hz.up (by omega)
 | succ k ih =>
  intro hk
  have h1:=ih (by omega)
  have e1:qs.getD k 0=qs[k]:=lget_lt qs 0 (by omega)
  have hk1:Fz (qs.getD k 0) K:=by rw [e1];exact hq.get (by omega)
  have hm:(k+1)*(K+1)=k*(K+1)+(K+1):=by rw [Nat.add_mul];omega
  rw [gaR_next]
  split
  ·split
   ·exact hk1.up (by omega)
   ·exact (hop _ _ _ h1 hk1).up (by omega)
  ·exact h1.up (by omega)
theorem gather_eq {op:Rat→Rat→Rat} {k:Nat} {Z l:List Nat} {xs:List FV} {qs:List Rat} {v:Nat} (h:TbOk k Z l xs qs) (hv:v∈l) :
  (List.range (cntS (szT Z) (lessT l v))).map (gaR op 0 (fun k=>idxS (szT Z) (asgS (szT Z) l k) (lessT l v)) qs qs.length)=outT op Z l v qs:=by
 unfold outT tblS
 refine List.map_congr_left fun i hi=>?_
 have hi:=List.mem_range.1 hi
 have hsp:=h.ok.szp (h.ok.lt v hv)
 have hg:=gather_out (op:=op) (F:=tblG Z l qs) (n:=szT Z v-1) (dep_tblG fun w hw=>hw) h.ok.nd (h.ok.less (v:=v)).nd hv (fun u=>mem_lessT) h.ok.pos hi (by omega) (f:=fun k=>qs.getD k 0) fun k hk=>by
  unfold tblG;rw [idxS_asg h.ok.nd h.ok.pos hk]
 unfold gaR
 rw [h.len,hg]
 rfl
theorem kepT_less {l:List Nat} {v:Nat}:kepT (fun x=>decide (x=(v:Int))) (l.map Int.ofNat)=(lessT l v).map Int.ofNat:=by
 unfold kepT lessT
 rw [List.filter_map]
 congr 1
 refine List.filter_congr fun x _=>?_
 show (!decide ((x:Int)=(v:Int)))=decide (x≠v)
 by_cases e:x=v
 ·subst e;simp
 ·have:¬(x:Int)=(v:Int):=by omega
  simp [this,e]
def opT (most:Bool):Rat→Rat→Rat:=if most then gtrS else fun a b=>a+b
set_option maxRecDepth 100000 in
set_option maxHeartbeats 8000000 in
theorem out_w {k:Nat} {Z l:List Nat} {xs:List FV} {qs:List Rat} (h:TbOk k Z l xs qs) (h1:1≤k) (hk:k≤100000) {v:Nat} (hv:v∈l) (most:Bool) :
  Good Tryz.prog 11 [.fz 1 (Ns Z),tabV l xs,I (v:Int),Bo most] (.tup [tabV (lessT l v) ((outT (opT most) Z l v qs).map fr),I 0]):=by
 have hl8:=h.ok.len
 have hc:=h.ok.cnt
 have hml:=h.ok.less (v:=v)
 have hck:=tcheck_w h
 have hct:=contT_w (l:=l) (k:=v) (by omega)
 rw [decide_eq_true hv] at hct
 have hcn:=tcount_w hml
 have hcan:=canonL_w h.fr (by rw [h.len];exact hc) (by omega)
 have hpl:=place_w (Ns Z) (Ns l) (Ns (lessT l v))
 have hrow:=h.fr.row h1
 have hof:=of_good (n:=0) (by omega) (by omega)
 obtain ⟨z0,l',hle⟩:∃z0 l',l=z0::l':=by
  cases l with
  | nil=>exact absurd hv (by simp)
  | cons a b=>exact ⟨_,_,rfl⟩
 have hclo:=cloneZ_w (z0:Int) (l'.map Int.ofNat) (by rw [List.length_map];rw [hle] at hl8;simp only [List.length_cons] at hl8;omega)
 have ecl:(z0:Int)::l'.map Int.ofNat=l.map Int.ofNat:=by rw [hle];rfl
 rw [ecl,ints_Ns] at hclo
 obtain ⟨L,hL⟩:∃L,L=l.map Int.ofNat:=⟨_,rfl⟩
 have hLl:L.length=l.length:=by rw [hL,List.length_map]
 rw [←hL] at hclo
 have hin:∀x∈L,Good Tryz.prog 43 ([]++[I x]++[.fp (I (v:Int)) 0]) (Bo (decide (x=(v:Int)))):=fun x _=>outD_w x v
 have hke:kepT (fun x=>decide (x=(v:Int))) L=(lessT l v).map Int.ofNat:=by rw [hL,kepT_less]
 have hkl:(kepT (fun x=>decide (x=(v:Int))) L).length=(lessT l v).length:=by rw [hke,List.length_map]
 have hkd:(kepT (fun x=>decide (x=(v:Int))) L).length≤((delL (fun x=>decide (x=(v:Int))) L).map I).length:=by
  rw [List.length_map];unfold delL;rw [List.length_append];omega
 have hfzz:((delL (fun x=>decide (x=(v:Int))) L).map I).take (kepT (fun x=>decide (x=(v:Int))) L).length=Ns (lessT l v):=by
  unfold delL
  rw [List.map_append,List.take_append_of_le_length (by rw [List.length_map];exact Nat.le_refl _),List.take_of_length_le (by rw [List.length_map];exact Nat.le_refl _),hke]
  unfold Ns;rw [List.map_map];rfl
 have hzz:((0:Int):Rat)=0:=rfl
 have hgj:∀(op:Rat→Rat→Rat) (jf:FuncId),(∀a b s,Fz a s→Fz b k→Fz (op a b) (s+k+1))→(∀a b s,Fz a s→Fz b k→s≤10000000000→Good Tryz.prog jf [fr a,fr b] (fr (op a b))) →
   Good Tryz.prog 44 [ringV 0 jf,I (cntS (szT Z) (lessT l v):Nat),frs qs,.fn 82 [] [.fp (.fz 1 (Ns Z)) 0,.fp (.fz 1 (Ns l)) 0,.fp (.fz 1 (Ns (lessT l v))) 0]] (frs (outT op Z l v qs)):=fun op jf h2 h3=>by
  rw [←gather_eq h hv]
  refine gather_w hml.cnt1 hml.cnt (by rw [h.len];exact hc) (fun i hi=>?_) fun i hi _=>?_
  ·rw [h.len] at hi
   exact ⟨place1_w h.ok hml (fun w hw=>(mem_lessT.1 hw).1) hi,idxS_lt fun w hw=>asgS_lt h.ok.nd h.ok.pos hi (mem_lessT.1 hw).1⟩
  ·have f1:=gaR_fz (tw:=fun k=>idxS (szT Z) (asgS (szT Z) l k) (lessT l v)) (z:=0) ((Fz.int (n:=0) (by decide)).up (by omega)) hrow h2 (idxS (szT Z) (asgS (szT Z) l i) (lessT l v)) i (by omega)
   have f2:Fz (qs.getD i 0) k:=by rw [lget_lt qs 0 hi];exact hrow.get hi
   rw [h.len] at hi
   have:=Nat.mul_le_mul (show i≤65536 by omega) (show k+1≤100001 by omega)
   exact h3 _ _ _ f1 f2 (by omega)
 cases most with
 | false =>
  have hg:=hgj (fun a b=>a+b) 38 (fun a b s ha hb=>ha.add hb) (fun a b s ha hb hs=>add_w (.c ha) (.c hb) (by omega) (by omega))
  refine good_of Tryz.func11 rfl (by kernel_rfl) fun X hO hrd=>?_;rw [Tryz.ntmps11,Tryz.results11];simp only [ast0,List.map_cons,List.map_nil,List.length_cons,List.length_nil,Nat.reduceAdd,Nat.reduceSub,List.replicate_succ,List.replicate_zero,List.cons_append,List.nil_append]
  (repeat (with_reducible first|refine W_seq fun K hK=>?_|refine J_region ?_ |(refine Kont.go (by assumption) ?_)|(simp (config:={ maxSteps:=3000000 }) (disch:=omega) only [go_sem,↓reduceIte,Nat.reduceAdd])))
  (first|refine call_f (hck) rfl ?_|refine callQ_f (hck) rfl ?_|refine callHK_f (hck) rfl ?_|refine callH_f (hck) rfl ?_)
  (repeat (with_reducible first|refine W_seq fun K hK=>?_|refine J_skip ?_|refine J_region ?_ |refine J_c ?_|refine Jc_false ?_|(refine Kont.go (by assumption) ?_)|(simp (config:={ maxSteps:=3000000 }) (disch:=omega) only [go_sem,↓reduceIte])))
  (first|refine call_f (hct) rfl ?_|refine callQ_f (hct) rfl ?_|refine callHK_f (hct) rfl ?_|refine callH_f (hct) rfl ?_)
  (repeat (first|(with_reducible first|refine W_seq fun K hK=>?_|refine J_skip ?_|refine J_region ?_ |refine J_c ?_|refine Jc_false ?_|(refine Kont.go (by assumption) ?_)|(simp (config:={ maxSteps:=3000000 }) (disch:=omega) only [go_sem,Nat.reduceEqDiff,↓reduceIte,Nat.reduceAdd,Nat.reduceLeDiff,hzz]))|refine call_f (of_good (by omega) (by omega)) rfl ?_))
  refine call_o hclo (FrzL.fs [_]) ?_
  (repeat (with_reducible first|(simp (config:={ maxSteps:=3000000 }) (disch:=omega) only [go_sem,Nat.reduceAdd,List.length_map])))
  refine call_u (deleteFunc_u (l:=L) (p:=fun x=>decide (x=(v:Int))) (by omega) rfl (Frz.fn _ _ _ _ _ rfl (fun j c d h=>by simp at h) rfl fun j cc d h h'=>by
   cases j with
   | zero=>cases h;cases h';exact Frz.ptr0 rfl rfl
   | succ j=>simp at h) hin) ?_
  (repeat (with_reducible first|refine W_seq fun K hK=>?_|(refine Kont.go (by assumption) ?_)|(simp (config:={ maxSteps:=3000000 }) (disch:=omega) only [go_sem,Nat.reduceAdd])))
  refine J_freezeP (j:=12) (r:=5) rfl hkd rfl ?_
  simp only [go_sem,Nat.reduceEqDiff,hfzz]
  (repeat (with_reducible first|refine J_drawn mixed (by kernel_rfl) ?_|(simp (config:={ maxSteps:=3000000 }) (disch:=omega) only [go_sem,Nat.reduceEqDiff,↓reduceIte,Nat.reduceAdd,Nat.reduceLeDiff])))
  refine callQ_f hcn rfl ?_
  (skip)
  refine callQ_f hcan rfl ?_
  (skip)
  refine callQ_f hpl rfl ?_
  (skip)
  refine callQ_f hg rfl ?_
  (repeat (with_reducible first|refine J_ret ?_|(refine Kont.go (by assumption) ?_)|(simp (config:={ maxSteps:=3000000 }) (disch:=omega) only [go_sem,↓reduceIte,Nat.reduceAdd,Nat.reduceLeDiff])))
  exact ⟨_,rfl,FrzL.fs [_,_]⟩
 | true =>
  have hg:=hgj gtrS 39 (fun a b s ha hb=>by unfold gtrS;split;exact hb.up (by omega);exact ha.up (by omega)) (fun a b s ha hb hs=>by
   have:=outJ_w (.c ha) (.c hb) (by omega) (by omega)
   have e:fr (gtrS a b)=if a<b then fr b else fr a:=by unfold gtrS;split<;>rfl
   rw [e];exact this)
  refine good_of Tryz.func11 rfl (by kernel_rfl) fun X hO hrd=>?_;rw [Tryz.ntmps11,Tryz.results11];simp only [ast0,List.map_cons,List.map_nil,List.length_cons,List.length_nil,Nat.reduceAdd,Nat.reduceSub,List.replicate_succ,List.replicate_zero,List.cons_append,List.nil_append]
  (repeat (with_reducible first|refine W_seq fun K hK=>?_|refine J_region ?_ |(refine Kont.go (by assumption) ?_)|(simp (config:={ maxSteps:=3000000 }) (disch:=omega) only [go_sem,↓reduceIte,Nat.reduceAdd])))
  (first|refine call_f (hck) rfl ?_|refine callQ_f (hck) rfl ?_|refine callHK_f (hck) rfl ?_|refine callH_f (hck) rfl ?_)
  (repeat (with_reducible first|refine W_seq fun K hK=>?_|refine J_skip ?_|refine J_region ?_ |refine J_c ?_|refine Jc_false ?_|(refine Kont.go (by assumption) ?_)|(simp (config:={ maxSteps:=3000000 }) (disch:=omega) only [go_sem,↓reduceIte])))
  (first|refine call_f (hct) rfl ?_|refine callQ_f (hct) rfl ?_|refine callHK_f (hct) rfl ?_|refine callH_f (hct) rfl ?_)
  (repeat (first|(with_reducible first|refine W_seq fun K hK=>?_|refine J_skip ?_|refine J_region ?_ |refine J_c ?_|refine Jc_true ?_|refine Jc_false ?_|(refine Kont.go (by assumption) ?_)|(simp (config:={ maxSteps:=3000000 }) (disch:=omega) only [go_sem,Nat.reduceEqDiff,↓reduceIte,Nat.reduceAdd,Nat.reduceLeDiff,hzz]))|refine call_f (of_good (by omega) (by omega)) rfl ?_))
  refine call_o hclo (FrzL.fs [_]) ?_
  (repeat (with_reducible first|(simp (config:={ maxSteps:=3000000 }) (disch:=omega) only [go_sem,Nat.reduceAdd,List.length_map])))
  refine call_u (deleteFunc_u (l:=L) (p:=fun x=>decide (x=(v:Int))) (by omega) rfl (Frz.fn _ _ _ _ _ rfl (fun j c d h=>by simp at h) rfl fun j cc d h h'=>by
   cases j with
   | zero=>cases h;cases h';exact Frz.ptr0 rfl rfl
   | succ j=>simp at h) hin) ?_
  (repeat (with_reducible first|refine W_seq fun K hK=>?_|(refine Kont.go (by assumption) ?_)|(simp (config:={ maxSteps:=3000000 }) (disch:=omega) only [go_sem,Nat.reduceAdd])))
  refine J_freezeP (j:=12) (r:=5) rfl hkd rfl ?_
  simp only [go_sem,Nat.reduceEqDiff,hfzz]
  (repeat (with_reducible first|refine J_drawn mixed (by kernel_rfl) ?_|(simp (config:={ maxSteps:=3000000 }) (disch:=omega) only [go_sem,Nat.reduceEqDiff,↓reduceIte,Nat.reduceAdd,Nat.reduceLeDiff])))
  refine callQ_f hcn rfl ?_
  (skip)
  refine callQ_f hcan rfl ?_
  (skip)
  refine callQ_f hpl rfl ?_
  (skip)
  refine callQ_f hg rfl ?_
  (repeat (with_reducible first|refine J_ret ?_|(refine Kont.go (by assumption) ?_)|(simp (config:={ maxSteps:=3000000 }) (disch:=omega) only [go_sem,↓reduceIte,Nat.reduceAdd,Nat.reduceLeDiff])))
  exact ⟨_,rfl,FrzL.fs [_,_]⟩
abbrev tab0:FV:=.agg [.v (.slice none 0 0),.v (.slice none 0 0)]
set_option maxRecDepth 100000 in
set_option maxHeartbeats 8000000 in
theorem out0_w {k:Nat} {Z l:List Nat} {xs:List FV} {qs:List Rat} (h:TbOk k Z l xs qs) {v:Int} (hv:v∉l.map Int.ofNat) (most:Bool) :
  Good Tryz.prog 11 [.fz 1 (Ns Z),tabV l xs,I v,Bo most] (.tup [tab0,I 11]):=by
 have hl8:=h.ok.len
 have hck:=tcheck_w h
 have hct:=contZ_w (l:=l.map Int.ofNat) (k:=v) (by rw [List.length_map];omega)
 rw [decide_eq_false hv,ints_Ns] at hct
 refine good_of Tryz.func11 rfl (by kernel_rfl) fun X hO hrd=>?_;rw [Tryz.ntmps11,Tryz.results11];simp only [ast0,List.map_cons,List.map_nil,List.length_cons,List.length_nil,Nat.reduceAdd,Nat.reduceSub,List.replicate_succ,List.replicate_zero,List.cons_append,List.nil_append]
 (repeat (with_reducible first|refine W_seq fun K hK=>?_|refine J_region ?_ |(refine Kont.go (by assumption) ?_)|(simp (config:={ maxSteps:=3000000 }) (disch:=omega) only [go_sem,↓reduceIte,Nat.reduceAdd])))
 (first|refine call_f (hck) rfl ?_|refine callQ_f (hck) rfl ?_|refine callHK_f (hck) rfl ?_|refine callH_f (hck) rfl ?_)
 (repeat (with_reducible first|refine W_seq fun K hK=>?_|refine J_skip ?_|refine J_region ?_ |refine J_c ?_|refine Jc_false ?_|(refine Kont.go (by assumption) ?_)|(simp (config:={ maxSteps:=3000000 }) (disch:=omega) only [go_sem,↓reduceIte])))
 (first|refine call_f (hct) rfl ?_|refine callQ_f (hct) rfl ?_|refine callHK_f (hct) rfl ?_|refine callH_f (hct) rfl ?_)
 (repeat (with_reducible first|refine W_seq fun K hK=>?_|refine J_ret ?_|refine J_region ?_ |refine J_c ?_|refine Jc_true ?_|(refine Kont.go (by assumption) ?_)|(simp (config:={ maxSteps:=3000000 }) (disch:=omega) only [go_sem,↓reduceIte,Nat.reduceAdd])))
 exact ⟨_,rfl,FrzL.fs [_,_]⟩
end Go.Proofs.YtmcgeppgfjlclaaGreatDoor
