/- Tables: the program's where and place: walked. Conditions: what may be. -/
import Derived.Test.YtmcgeppgfjlclaaGreatDoorYB11
import Derived.Test.YtmcgeppgfjlclaaGreatDoorYB12
set_option linter.unusedVariables false
set_option linter.unusedSimpArgs false
namespace Go.Proofs.YtmcgeppgfjlclaaGreatDoor
open Go Go.RowKit
theorem contT_w {l:List Nat} {k:Nat} (hl:l.length≤1000):Good Tryz.prog 36 [.fz 1 (Ns l),I (k:Int)] (Bo (decide (k∈l))):=by
 have h:=contZ_w (l:=l.map Int.ofNat) (k:=(k:Int)) (by rw [List.length_map];omega)
 have e:decide ((k:Int)∈l.map Int.ofNat)=decide (k∈l):=decide_eq_decide.2 ⟨fun h=>by
  obtain ⟨a,ha,e⟩:=List.mem_map.1 h
  have e:(a:Int)=(k:Int):=e
  have:a=k:=by omega
  rw [←this];exact ha,fun h=>List.mem_map.2 ⟨k,h,rfl⟩⟩
 rw [ints_Ns,e] at h
 exact h
def whA (Z l:List Nat) (k i:Nat):List Nat:=(List.range l.length).map fun j=>if l.length≤j+i then asgS (szT Z) l k (l.getD j 0) else 0
section
variable {Z l m : List Nat} {k i : Nat}
theorem whA_len:(whA Z l k i).length=l.length:=by simp [whA]
theorem whA_zero:whA Z l k 0=List.replicate l.length 0:=by
 unfold whA
 rw [List.eq_replicate_iff]
 refine ⟨by simp,fun x hx=>?_⟩
 obtain ⟨j,hj,rfl⟩:=List.mem_map.1 hx
 have:=List.mem_range.1 hj
 rw [if_neg (by omega)]
theorem whA_end:whA Z l k l.length=asgL Z l k:=by
 unfold whA asgL
 apply List.ext_getElem (by simp)
 intro j h1 h2
 have hj:j<l.length:=by simpa using h1
 rw [List.getElem_map,List.getElem_map,List.getElem_range,if_pos (by omega),lget_lt l 0 hj]
theorem whA_step (hi:i<l.length):(whA Z l k i).set (l.length-1-i) (asgS (szT Z) l k (l.getD (l.length-1-i) 0))=whA Z l k (i+1):=by
 unfold whA
 rw [range_set (by omega)]
 refine List.map_congr_left fun j hj=>?_
 have:=List.mem_range.1 hj
 by_cases e:j=l.length-1-i
 ·rw [if_pos e,if_pos (by omega),e]
 ·rw [if_neg e]
  by_cases h:l.length≤j+i
  ·rw [if_pos h,if_pos (by omega)]
  ·rw [if_neg h,if_neg (by omega)]
theorem whA_dig (h:OkT Z l) (hk:k<cntS (szT Z) l) (hi:i<l.length):k/cntS (szT Z) (l.drop (l.length-i))%szT Z (l.getD (l.length-1-i) 0)=asgS (szT Z) l k (l.getD (l.length-1-i) 0):=by
 have hj:l.length-1-i<l.length:=by omega
 rw [lget_lt l 0 hj,dig_eq hj h.nd h.pos hk]
 rw [show l.length-1-i+1=l.length-i by omega]
theorem whA_div (hi:i<l.length):k/cntS (szT Z) (l.drop (l.length-i))/szT Z (l.getD (l.length-1-i) 0)=k/cntS (szT Z) (l.drop (l.length-(i+1))):=by
 have hj:l.length-1-i<l.length:=by omega
 have:=div_drop (S:=szT Z) (k:=k) hj
 rw [←lget_lt l 0 hj,show l.length-1-i+1=l.length-i by omega] at this
 rw [this,show l.length-(i+1)=l.length-1-i by omega]
theorem bk_at {x:Int × Int} (h:(bkL (l.map Int.ofNat))[i]?=some x):i<l.length∧x=(((l.length-1-i:Nat):Int),((l.getD (l.length-1-i) 0:Nat):Int)):=by
 have hi:i<l.length:=by
  have:=(List.getElem?_eq_some_iff.1 h).1
  rwa [bkL_len,List.length_map] at this
 rw [bkL_get (by rw [List.length_map];exact hi)] at h
 cases h
 refine ⟨hi,?_⟩
 rw [List.length_map]
 congr 1
 have hj:l.length-1-i<l.length:=by omega
 rw [lget_lt _ 0 (by rw [List.length_map];exact hj),List.getElem_map,lget_lt l 0 hj]
 rfl
theorem Ns_set {l:List Nat} {i x:Nat}:(Ns l).set i (I (x:Int))=Ns (l.set i x):=by unfold Ns;rw [List.map_set]
theorem wrN {n:Nat} (h:n≤65536):IntKind.i64.wrap (n:Int)=(n:Int):=by rw [IntKind.wrap_i64];omega
theorem tm_nat {a b:Nat}:(a:Int).tmod (b:Int)=((a%b:Nat):Int):=rfl
theorem td_nat {a b:Nat}:(a:Int).tdiv (b:Int)=((a/b:Nat):Int):=rfl
end
set_option maxRecDepth 100000 in
set_option maxHeartbeats 4000000 in
theorem where_w {Z l:List Nat} {k:Nat} (h:OkT Z l) (hk:k<cntS (szT Z) l):Good Tryz.prog 56 [.fz 1 (Ns Z),.fz 1 (Ns l),I (k:Int)] (.fz 1 (Ns (asgL Z l k))):=by
 have hl8:=h.len
 have hz8:=h.z8
 have hc:=h.cnt
 have hit:=back_iter (l.map Int.ofNat) (by rw [List.length_map];omega)
 have e0:(l.map Int.ofNat).map I=Ns l:=by unfold Ns;rw [List.map_map];rfl
 rw [e0] at hit
 have hbk:=backward_w (Ns l)
 have hok:enterOk Tryz.prog 114=true:=by kernel_rfl
 have hz:List.replicate l.length (AV.f (FV.v (.int .i64 0)))=(Ns (whA Z l k 0)).map AV.f:=by rw [whA_zero];unfold Ns;rw [List.map_replicate,List.map_replicate];rfl
 have hk0:I (k:Int)=I ((k/cntS (szT Z) (l.drop (l.length-0)):Nat):Int):=by rw [Nat.sub_zero,List.drop_length];show _=I ((k/1:Nat):Int);rw [Nat.div_one]
 have hby:(8:Int)*(l.length:Int)≤281474976710656:=by omega
 refine good_of Tryz.func56 rfl (by kernel_rfl) fun X hO hrd=>?_;rw [Tryz.ntmps56,Tryz.results56];simp only [ast0,List.map_cons,List.map_nil,List.length_cons,List.length_nil,Nat.reduceAdd,Nat.reduceSub,List.replicate_succ,List.replicate_zero,List.cons_append,List.nil_append]
 (repeat (first|(with_reducible first|refine W_seq fun K hK=>?_|refine J_region ?_ |(refine Kont.go (by assumption) ?_)|(simp (config:={ maxSteps:=3000000 }) (disch:=omega) only [go_sem,↓reduceIte,Nat.reduceAdd,Ns_len,hz]))|refine And.intro (by omega) ?_))
 (first|refine call_f (hbk) rfl ?_|refine callQ_f (hbk) rfl ?_|refine callHK_f (hbk) rfl ?_|refine callH_f (hbk) rfl ?_)
 (repeat (with_reducible first|refine J_block ?_|(refine Kont.go (by assumption) ?_)|(simp (config:={ maxSteps:=3000000 }) (disch:=omega) only [go_sem])))
 rw [hk0]
 refine J_rangeDW hrd [8,9,15,16,17,18,19,20,21,22,23,24,25,26,27,28,29,30,31] (fun i=>[some ⟨22,1,[.f (.fz 1 (Ns Z))]⟩,some ⟨3,1,[.f (I ((k/cntS (szT Z) (l.drop (l.length-i)):Nat):Int))]⟩,some ⟨3,1,(Ns (whA Z l k i)).map .f⟩,some ⟨22,1,[.own 2 1 0 l.length]⟩]) rfl (hit) (by kernel_rfl) (by refine weak_of ?_ ?_<;>simp (disch:=omega) only [go_sem,Nat.reduceAdd]<;>first|rfl|exact ⟨rfl,rfl⟩|trivial|((repeat' apply And.intro)<;>first|rfl|trivial|exact .inl rfl|exact .inr ⟨rfl,rfl⟩|exact .inr rfl)) (by decide) (by decide) (by decide) (by kernel_rfl) (by kernel_rfl) ?_ ?_
 ·rintro i y hy X1 hX1 K hK
  obtain ⟨hi,rfl⟩:=bk_at hy
  have hj:l.length-1-i<l.length:=by omega
  obtain ⟨j,hje⟩:∃j,j=l.length-1-i:=⟨_,rfl⟩
  have d1:=whA_dig h hk hi
  have d2:=whA_div (Z:=Z) (k:=k) hi
  have d3:=whA_step (Z:=Z) (k:=k) hi
  rw [←hje] at hj d1 d2 d3 ⊢
  have hgl:=h.get hj
  have g2:=Ns_get (l:=Z) hgl
  have hsp:=h.szp hgl
  obtain ⟨z,hze⟩:∃z,z=szT Z (l.getD j 0):=⟨_,rfl⟩
  rw [←hze] at d1 d2 hsp
  rw [show Z.getD (l.getD j 0) 0=z from hze.symm] at g2
  obtain ⟨q,hq⟩:∃q,q=k/cntS (szT Z) (l.drop (l.length-i)):=⟨_,rfl⟩
  have hql:q≤65536:=by have:=Nat.div_le_self k (cntS (szT Z) (l.drop (l.length-i)));omega
  rw [←hq] at d1 d2 ⊢
  have hz0:¬(z:Int)=0:=by omega
  have e1:(q:Int).tmod (z:Int)=((asgS (szT Z) l k (l.getD j 0):Nat):Int):=by rw [tm_nat,d1]
  have e2:(q:Int).tdiv (z:Int)=((k/cntS (szT Z) (l.drop (l.length-(i+1))):Nat):Int):=by rw [td_nat,d2]
  have hq2:k/cntS (szT Z) (l.drop (l.length-(i+1)))≤65536:=by rw [←d2];have:=Nat.div_le_self q z;omega
  have hset:((Ns (whA Z l k i)).map AV.f).set j (.f (I ((asgS (szT Z) l k (l.getD j 0):Nat):Int)))=(Ns (whA Z l k (i+1))).map AV.f:=by rw [←List.map_set,Ns_set,d3]
  have hwl:((Ns (whA Z l k i)).map AV.f).length=l.length:=by rw [List.length_map,Ns_len,whA_len]
  have hgw:((Ns (whA Z l k i)).map AV.f)[j]?=some (.f (I ((whA Z l k i).getD j 0:Nat))):=by rw [List.getElem?_map,Ns_get (by rw [whA_len];exact hj)];rfl
  simp only [go_sem]
  (repeat (with_reducible first|refine W_seq fun K hK=>?_|refine J_region ?_ |(refine Kont.go (by assumption) ?_)|(simp (config:={ maxSteps:=3000000 }) (disch:=omega) only [go_sem])))
  intro X2 hX2
  have hwr:IntKind.i64.wrap ((k/cntS (szT Z) (l.drop (l.length-(i+1))):Nat):Int)=((k/cntS (szT Z) (l.drop (l.length-(i+1))):Nat):Int):=wrN hq2
  (repeat (first|(with_reducible first|refine W_seq fun K hK=>?_|refine J_block ?_|refine J_drawn mixed (by kernel_rfl) ?_|(refine Kont.go (by assumption) ?_)|(simp (config:={ maxSteps:=3000000 }) (disch:=omega) only [go_sem,↓reduceIte,g2,e1,e2,hset,hgw,hz0,hwr]))|refine And.intro (by omega) ?_))
  refine rpost_n (weak_of ?_ ?_)<;>(try simp (disch:=omega) only [go_sem,Nat.reduceAdd])<;>(try first|done|omega|rfl|exact ⟨rfl,rfl⟩|trivial)
 ·have hel:(bkL (l.map Int.ofNat)).length=l.length:=by rw [bkL_len,List.length_map]
  rw [hel,whA_end]
  simp only [go_sem]
  (repeat (with_reducible first|refine W_seq fun K hK=>?_|refine J_ret ?_|refine J_region ?_ |(refine Kont.go (by assumption) ?_)|(simp (config:={ maxSteps:=3000000 }) (disch:=omega) only [go_sem,↓reduceIte])))
  exact Frz.own0 rfl (by rw [Ns_len,asgL_len])
end Go.Proofs.YtmcgeppgfjlclaaGreatDoor
set_option linter.unusedVariables false
set_option linter.unusedSimpArgs false
namespace Go.Proofs.YtmcgeppgfjlclaaGreatDoor
open Go Go.RowKit
def plT (Z l m:List Nat) (k x:Nat):Nat:=idxS (szT Z) (asgS (szT Z) l k) ((l.take x).filter fun v=>decide (v∈m))
section
variable {Z l m : List Nat} {k x : Nat}
theorem plT_next (hx:x<l.length):plT Z l m k (x+1)=if l.getD x 0∈m then plT Z l m k x*szT Z (l.getD x 0)+asgS (szT Z) l k (l.getD x 0) else plT Z l m k x:=by
 unfold plT
 rw [List.take_add_one,List.getElem?_eq_getElem hx,List.filter_append,lget_lt l 0 hx]
 by_cases h:l[x]∈m
 ·rw [if_pos h,show List.filter (fun v=>decide (v∈m)) (some l[x]).toList=[l[x]] from by simp [h],idxS_snoc]
 ·rw [if_neg h,show List.filter (fun v=>decide (v∈m)) (some l[x]).toList=[] from by simp [h],List.append_nil]
theorem plT_end (h:OkT Z l) (hm:OkT Z m) (hml:∀v∈m,v∈l):plT Z l m k l.length=idxS (szT Z) (asgS (szT Z) l k) m:=by
 unfold plT
 rw [List.take_length]
 congr 1
 exact sorted_ext (List.Pairwise.filter _ h.ris) hm.ris fun x=>by
  rw [List.mem_filter,decide_eq_true_iff]
  exact ⟨fun h=>h.2,fun h=>⟨hml x h,h⟩⟩
theorem plT_lt (h:OkT Z l) (hk:k<cntS (szT Z) l):plT Z l m k x<65536+1:=by
 have hs:∀v∈(l.take x).filter (fun v=>decide (v∈m)),v∈l:=fun v hv=>List.mem_of_mem_take (List.mem_filter.1 hv).1
 have h2:OkT Z ((l.take x).filter fun v=>decide (v∈m)):=h.sub (List.Pairwise.filter _ (h.ris.sublist (List.take_sublist _ _))) fun v hv=>h.lt v (hs v hv)
 have:=idxS_lt (S:=szT Z) (a:=asgS (szT Z) l k) (l:=(l.take x).filter fun v=>decide (v∈m)) fun v hv=>asgS_lt h.nd h.pos hk (hs v hv)
 have:=h2.cnt
 unfold plT
 omega
end
set_option maxRecDepth 100000 in
set_option maxHeartbeats 4000000 in
theorem place1_w {Z l m:List Nat} {k:Nat} (h:OkT Z l) (hm:OkT Z m) (hml:∀v∈m,v∈l) (hk:k<cntS (szT Z) l) :
  Good Tryz.prog 82 [I (k:Int),.fp (.fz 1 (Ns Z)) 0,.fp (.fz 1 (Ns l)) 0,.fp (.fz 1 (Ns m)) 0] (I (idxS (szT Z) (asgS (szT Z) l k) m:Nat)):=by
 have hl8:=h.len
 have hw:=where_w h hk
 rw [←plT_end h hm hml]
 refine good_of Tryz.func82 rfl (by kernel_rfl) fun X hO hrd=>?_;rw [Tryz.ntmps82,Tryz.results82];simp only [ast0,List.map_cons,List.map_nil,List.length_cons,List.length_nil,Nat.reduceAdd,Nat.reduceSub,List.replicate_succ,List.replicate_zero,List.cons_append,List.nil_append]
 (repeat (with_reducible first|refine W_seq fun K hK=>?_|refine J_region ?_ |(refine Kont.go (by assumption) ?_)|(simp (config:={ maxSteps:=3000000 }) (disch:=omega) only [go_sem,↓reduceIte])))
 (first|refine call_f (hw) rfl ?_|refine callQ_f (hw) rfl ?_|refine callHK_f (hw) rfl ?_|refine callH_f (hw) rfl ?_)
 (repeat (with_reducible first|refine W_seq fun K hK=>?_|refine J_block ?_|refine J_region ?_ |(refine Kont.go (by assumption) ?_)|(simp (config:={ maxSteps:=3000000 }) (disch:=omega) only [go_sem,↓reduceIte,Ns_len])))
 refine W_loop [7,8,9,16,17,18,19,20,21,22,23,24,25,26,27,28,29,30,31,32,33,34,35] (fun x:Nat=>[(7,.f (I (plT Z l m k x:Nat))),(16,.f (I x))]) (fun x:Nat=>[]) (fun x:Nat=>x≤l.length) (fun x:Nat=>l.length-x) (0) (Nat.zero_le _) (by refine weak_of ?_ ?_<;>simp (disch:=omega) only [go_sem]<;>first|rfl|exact ⟨rfl,rfl⟩|exact Or.inl rfl|exact ⟨Or.inl rfl,Or.inl rfl⟩|trivial|assumption|omega|(symm;assumption)|((repeat' apply And.intro)<;>first|rfl|omega|trivial|exact .inl rfl|exact .inr ⟨rfl,rfl⟩|exact .inr rfl|(right;symm;assumption)|(symm;assumption)|assumption)) ?_
 rintro x hx
 simp only [go_sem]
 (repeat (with_reducible first|refine W_seq fun K hK=>?_|refine J_region ?_ |refine J_c ?_|(refine Kont.go (by assumption) ?_)|(simp (config:={ maxSteps:=3000000 }) (disch:=omega) only [go_sem])))
 refine Jc_if (fun hxl=>?_) (fun hxl=>?_)<;>try simp only [decide_eq_true_eq,decide_eq_false_iff_not] at hxl
 ·have g1:=Ns_get hxl
  have g2:=Ns_get (l:=Z) (h.get hxl)
  have g3:=Ns_get (l:=asgL Z l k) (i:=x) (by rw [asgL_len];exact hxl)
  rw [asgL_get hxl] at g3
  have hgl:=h.get hxl
  have hz4:=h.sz4 hgl
  have hct:=contT_w (l:=m) (k:=l.getD x 0) (by have:=hm.len;omega)
  have hn:=plT_next (Z:=Z) (m:=m) (k:=k) hxl
  (repeat (with_reducible first|refine W_seq fun K hK=>?_|refine J_block ?_|refine J_skip ?_|refine J_region ?_ |(refine Kont.go (by assumption) ?_)|(simp (config:={ maxSteps:=3000000 }) (disch:=omega) only [go_sem,↓reduceIte,g1])))
  (first|refine call_f (hct) rfl ?_|refine callQ_f (hct) rfl ?_|refine callHK_f (hct) rfl ?_|refine callH_f (hct) rfl ?_)
  by_cases hv:l.getD x 0∈m
  ·rw [if_pos hv] at hn
   have hlt:=plT_lt (x:=x) (m:=m) h hk
   have hlt2:=plT_lt (x:=x+1) (m:=m) h hk
   have hmx:plT Z l m k x*szT Z (l.getD x 0)≤300000:=Nat.le_trans (Nat.mul_le_mul (Nat.le_of_lt_succ hlt) hz4) (by omega)
   have e0:((plT Z l m k x:Nat):Int)*((Z.getD (l.getD x 0) 0:Nat):Int)=((plT Z l m k x*szT Z (l.getD x 0):Nat):Int):=by rw [Int.natCast_mul];rfl
   have e1:((plT Z l m k x*szT Z (l.getD x 0):Nat):Int)+((asgS (szT Z) l k (l.getD x 0):Nat):Int)=((plT Z l m k (x+1):Nat):Int):=by rw [hn,Int.natCast_add]
   rw [decide_eq_true hv]
   (repeat (with_reducible first|refine J_region ?_ |refine J_drawn mixed (by kernel_rfl) ?_|refine J_c ?_|refine Jc_true ?_|(refine Kont.go (by assumption) ?_)|(simp (config:={ maxSteps:=3000000 }) (disch:=omega) only [go_sem,↓reduceIte,g2,g3,e0,e1])))
   refine ⟨x+1,by omega,by omega,weak_of ?_ ?_⟩<;>(try simp (disch:=omega) only [go_sem])<;>(try first|done|omega|rfl|exact ⟨rfl,rfl⟩|trivial)
  ·rw [if_neg hv] at hn
   rw [decide_eq_false hv,←hn]
   (repeat (with_reducible first|refine J_skip ?_|refine J_region ?_ |refine J_c ?_|refine Jc_false ?_|(refine Kont.go (by assumption) ?_)|(simp (config:={ maxSteps:=3000000 }) (disch:=omega) only [go_sem])))
   refine ⟨x+1,by omega,by omega,weak_of ?_ ?_⟩<;>(try simp (disch:=omega) only [go_sem])<;>(try first|done|omega|rfl|exact ⟨rfl,rfl⟩|trivial)
 ·have he:x=l.length:=by omega
  subst he
  (repeat (with_reducible first|refine W_seq fun K hK=>?_|refine J_exit ?_|refine J_ret ?_|refine J_region ?_ |exact Frz.f _|(refine Kont.go (by assumption) ?_)|(simp (config:={ maxSteps:=3000000 }) (disch:=omega) only [go_sem,↓reduceIte])))
set_option maxRecDepth 100000 in
theorem place_w (a b c:List FV):Good Tryz.prog 47 [.fz 1 a,.fz 1 b,.fz 1 c] (.fn 82 [] [.fp (.fz 1 a) 0,.fp (.fz 1 b) 0,.fp (.fz 1 c) 0]):=by
 refine good_of Tryz.func47 rfl (by kernel_rfl) fun X hO hrd=>?_;rw [Tryz.ntmps47,Tryz.results47];simp only [ast0,List.map_cons,List.map_nil,List.length_cons,List.length_nil,Nat.reduceAdd,Nat.reduceSub,List.replicate_succ,List.replicate_zero,List.cons_append,List.nil_append]
 (repeat (with_reducible first|refine W_seq fun K hK=>?_|refine J_ret ?_|refine J_region ?_ |(refine Kont.go (by assumption) ?_)|(simp (config:={ maxSteps:=3000000 }) (disch:=omega) only [go_sem,Nat.reduceAdd])))
 exact Frz.fn _ _ _ _ _ rfl (fun j c d h=>by simp at h) rfl fun j cc d h h'=>by
  match j with
  | 0=>cases h;cases h';exact Frz.ptr0 rfl rfl
  | 1=>cases h;cases h';exact Frz.ptr0 rfl rfl
  | 2=>cases h;cases h';exact Frz.ptr0 rfl rfl
  | j+3=>simp at h
end Go.Proofs.YtmcgeppgfjlclaaGreatDoor
