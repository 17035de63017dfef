/- Tables: Index and Where, the program's and the document's: walked; faults of Check. Conditions: what slices may hold. -/
import Derived.Test.YtmcgeppgfjlclaaGreatDoorYB19
import Derived.Test.YtmcgeppgfjlclaaGreatDoorYB17
set_option linter.unusedVariables false
set_option linter.unusedSimpArgs false
namespace Go.Proofs.YtmcgeppgfjlclaaGreatDoor
open Go Go.RowKit
def atB (Z l:List Nat) (at_:List Int):Bool:=(List.range l.length).all fun i=>decide (0≤at_.getD i 0∧at_.getD i 0<((szT Z (l.getD i 0):Nat):Int))
theorem atB_iff {Z l:List Nat} {at_:List Int}:atB Z l at_=true↔∀i,i<l.length→0≤at_.getD i 0∧at_.getD i 0<((szT Z (l.getD i 0):Nat):Int):=by
 unfold atB
 rw [List.all_eq_true]
 exact ⟨fun h i hi=>of_decide_eq_true (h i (List.mem_range.2 hi)),fun h i hi=>decide_eq_true (h i (List.mem_range.1 hi))⟩
theorem trisT_w {Z l:List Nat} (h:OkT Z l):Good Tryz.prog 53 [.fz 1 (Ns Z),.fz 1 (Ns l)] (Bo true):=by
 have hl8:=h.len
 have hz8:=h.z8
 have hr:=trising_w (Z.map Int.ofNat) (l.map Int.ofNat) (by rw [List.length_map];omega) (fun x hx=>by obtain ⟨n,hn,rfl⟩:=List.mem_map.1 hx;have:=h.lt n hn;show _≤(n:Int)∧(n:Int)≤_;omega) (by rw [List.length_map];omega)
 rw [ints_Ns,ints_Ns,okB_of h] at hr
 exact hr
set_option maxRecDepth 100000 in
set_option maxHeartbeats 8000000 in
theorem index_w {Z l:List Nat} (at_:List Int) (h:OkT Z l) (hal:at_.length≤140737488355328):Good Tryz.prog 20 [.fz 1 (Ns Z),.fz 1 (Ns l),ints at_] (if at_.length≠l.length then .tup [I 0,I 8] else if atB Z l at_=true then .tup [I (horT Z l at_ l.length:Nat),I 0] else .tup [I 0,I 12]):=by
 have hl8:=h.len
 have hz8:=h.z8
 have hr:=trisT_w h
 by_cases hlen:at_.length=l.length
 case neg =>
  have hlen':¬((at_.length:Nat):Int)=(l.length:Int):=by omega
  rw [if_pos hlen]
  refine good_of Tryz.func20 rfl (by kernel_rfl) fun X hO hrd=>?_;rw [Tryz.ntmps20,Tryz.results20];simp only [ast0,List.map_cons,List.map_nil,List.length_cons,List.length_nil,Nat.reduceAdd,Nat.reduceSub,List.replicate_succ,List.replicate_zero,List.cons_append,List.nil_append]
  (repeat (with_reducible first|refine W_seq fun K hK=>?_|refine J_block ?_|refine J_region ?_ |(refine Kont.go (by assumption) ?_)|(simp (config:={ maxSteps:=3000000 }) (disch:=omega) only [go_sem])))
  (first|refine call_f (hr) rfl ?_|refine callQ_f (hr) rfl ?_|refine callHK_f (hr) rfl ?_|refine callH_f (hr) rfl ?_)
  (repeat (with_reducible first|refine W_seq fun K hK=>?_|refine J_ret ?_|refine J_region ?_ |refine J_c ?_|refine Jc_true ?_|refine Jc_false ?_|(refine Kont.go (by assumption) ?_)|(simp (config:={ maxSteps:=3000000 }) (disch:=omega) only [go_sem,List.length_map,Ns_len,hlen'])))
  exact ⟨_,rfl,FrzL.fs [_,_]⟩
 have hlen':((at_.length:Nat):Int)=(l.length:Int):=by omega
 have hno:∀x,x<l.length→¬(0≤at_.getD x 0∧at_.getD x 0<((szT Z (l.getD x 0):Nat):Int))→atB Z l at_=false:=fun x hx hn=>by
  cases hb:atB Z l at_ with
  | false=>rfl
  | true=>exact absurd (atB_iff.1 hb x hx) hn
 obtain ⟨R,hR⟩:∃R,R=(if at_.length≠l.length then FV.tup [I 0,I 8] else if atB Z l at_=true then .tup [I (horT Z l at_ l.length:Nat),I 0] else .tup [I 0,I 12]):=⟨_,rfl⟩
 have R1:atB Z l at_=true→R=.tup [I (horT Z l at_ l.length:Nat),I 0]:=fun e=>by rw [hR,if_neg (by simp [hlen]),if_pos e]
 have R2:atB Z l at_=false→R=.tup [I 0,I 12]:=fun e=>by rw [hR,if_neg (by simp [hlen]),if_neg (by rw [e];decide)]
 rw [←hR]
 refine good_of Tryz.func20 rfl (by kernel_rfl) fun X hO hrd=>?_;rw [Tryz.ntmps20,Tryz.results20];simp only [ast0,List.map_cons,List.map_nil,List.length_cons,List.length_nil,Nat.reduceAdd,Nat.reduceSub,List.replicate_succ,List.replicate_zero,List.cons_append,List.nil_append]
 (repeat (with_reducible first|refine W_seq fun K hK=>?_|refine J_block ?_|refine J_region ?_ |(refine Kont.go (by assumption) ?_)|(simp (config:={ maxSteps:=3000000 }) (disch:=omega) only [go_sem])))
 (first|refine call_f (hr) rfl ?_|refine callQ_f (hr) rfl ?_|refine callHK_f (hr) rfl ?_|refine callH_f (hr) rfl ?_)
 (repeat (with_reducible first|refine W_seq fun K hK=>?_|refine J_block ?_|refine J_skip ?_|refine J_region ?_ |refine J_c ?_|refine Jc_false ?_|(refine Kont.go (by assumption) ?_)|(simp (config:={ maxSteps:=3000000 }) (disch:=omega) only [go_sem,List.length_map,Ns_len,hlen,decide_true])))
 refine W_loop [6,7,8,9,10,24,25,26,27,28,29,30,31,32,33,34,35,36,37,38,39,40,41,42,43,44,45,46,47,48,49,50,51,52,53,54,55,56] (fun x:Nat=>[(8,.f (I (horT Z l at_ x:Nat))),(24,.f (I x))]) (fun x:Nat=>[]) (fun x:Nat=>x≤l.length∧∀i,i<x→0≤at_.getD i 0∧at_.getD i 0<((szT Z (l.getD i 0):Nat):Int)) (fun x:Nat=>l.length-x) (0) (⟨Nat.zero_le _,fun j h=>by omega⟩) (by refine weak_of ?_ ?_<;>simp (disch:=omega) only [go_sem]<;>first|rfl|exact ⟨rfl,rfl⟩|exact Or.inl rfl|exact ⟨Or.inl rfl,Or.inl rfl⟩|trivial|assumption|omega|(symm;assumption)|((repeat' apply And.intro)<;>first|rfl|omega|trivial|exact .inl rfl|exact .inr ⟨rfl,rfl⟩|exact .inr rfl|(right;symm;assumption)|(symm;assumption)|assumption)) ?_
 ·rintro x ⟨hx,hp⟩
  simp only [go_sem]
  (repeat (with_reducible first|refine W_seq fun K hK=>?_|refine J_region ?_ |refine J_c ?_|(refine Kont.go (by assumption) ?_)|(simp (config:={ maxSteps:=3000000 }) (disch:=omega) only [go_sem])))
  refine Jc_if (fun hxl=>?_) (fun hxl=>?_)<;>try simp only [decide_eq_true_eq,decide_eq_false_iff_not] at hxl
  ·have g1:=Ns_get hxl
   have hgl:=h.get hxl
   have g2:=Ns_get (l:=Z) hgl
   have hxa:x<at_.length:=by omega
   have g3:=map_get I at_ hxa
   have e3:at_.getD x 0=at_[x]:=lget_lt at_ 0 hxa
   have hgz:((Z.getD (l.getD x 0) 0:Nat):Int)=((szT Z (l.getD x 0):Nat):Int):=rfl
   rw [hgz] at g2
   have hz4:=h.sz4 hgl
   by_cases c1:at_[x]<0
   ·have hb:=hno x hxl fun hh=>by omega
    (repeat (with_reducible first|refine W_seq fun K hK=>?_|refine J_block ?_|refine J_skip ?_|refine J_ret ?_|refine J_region ?_ |refine J_drawn mixed (by kernel_rfl) ?_|refine J_c ?_|refine Jc_true ?_|(refine Kont.go (by assumption) ?_)|(simp (config:={ maxSteps:=3000000 }) (disch:=omega) only [go_sem,↓reduceIte,g1,g3,c1])))
    rw [R2 hb]
    exact ⟨_,rfl,FrzL.fs [_,_]⟩
   ·by_cases c2:((szT Z (l.getD x 0):Nat):Int)≤at_[x]
    ·have hb:=hno x hxl fun hh=>by omega
     (repeat (with_reducible first|refine W_seq fun K hK=>?_|refine J_block ?_|refine J_skip ?_|refine J_ret ?_|refine J_region ?_ |refine J_drawn mixed (by kernel_rfl) ?_|refine J_c ?_|refine Jc_true ?_|(refine Kont.go (by assumption) ?_)|(simp (config:={ maxSteps:=3000000 }) (disch:=omega) only [go_sem,↓reduceIte,g1,g2,g3,c1,c2])))
     rw [R2 hb]
     exact ⟨_,rfl,FrzL.fs [_,_]⟩
    ·have hlt:=horT_lt (at_:=at_) h (i:=x) hx fun j hj=>by have:=hp j hj;omega
     have hc:=(h.ztake x).cnt
     have hmx:horT Z l at_ x*szT Z (l.getD x 0)≤300000:=Nat.le_trans (Nat.mul_le_mul (show horT Z l at_ x≤65536 by omega) hz4) (by omega)
     have hn:horT Z l at_ (x+1)=horT Z l at_ x*szT Z (l.getD x 0)+(at_.getD x 0).toNat:=rfl
     have e0:((horT Z l at_ x:Nat):Int)*((szT Z (l.getD x 0):Nat):Int)=((horT Z l at_ x*szT Z (l.getD x 0):Nat):Int):=(Int.natCast_mul _ _).symm
     have e1:((horT Z l at_ x*szT Z (l.getD x 0):Nat):Int)+at_[x]=((horT Z l at_ (x+1):Nat):Int):=by rw [hn];omega
     have hup:((horT Z l at_ (x+1):Nat):Int)≤300000+10:=by rw [←e1];omega
     (repeat (with_reducible first|refine W_seq fun K hK=>?_|refine J_block ?_|refine J_skip ?_|refine J_region ?_ |refine J_drawn mixed (by kernel_rfl) ?_|refine J_c ?_|refine Jc_false ?_|(refine Kont.go (by assumption) ?_)|(simp (config:={ maxSteps:=3000000 }) (disch:=omega) only [go_sem,↓reduceIte,g1,g2,g3,c1,c2,e0,e1])))
     refine ⟨x+1,⟨by omega,upto_next (p:=fun i=>0≤at_.getD i 0∧at_.getD i 0<((szT Z (l.getD i 0):Nat):Int)) hp ⟨by omega,by omega⟩⟩,by omega,weak_of ?_ ?_⟩<;>(try simp (disch:=omega) only [go_sem])<;>(try first|done|omega|rfl|exact ⟨rfl,rfl⟩|trivial)
  ·have he:x=l.length:=by omega
   subst he
   have hb:=atB_iff.2 hp
   (repeat (with_reducible first|refine W_seq fun K hK=>?_|refine J_exit ?_|refine J_ret ?_|refine J_region ?_ |(refine Kont.go (by assumption) ?_)|(simp (config:={ maxSteps:=3000000 }) (disch:=omega) only [go_sem,↓reduceIte])))
   rw [R1 hb]
   exact ⟨_,rfl,FrzL.fs [_,_]⟩
set_option maxRecDepth 100000 in
set_option maxHeartbeats 8000000 in
theorem rindex_w {Z l:List Nat} (at_:List Int) (h:OkT Z l) (hal:at_.length≤140737488355328):Good Tryz.prog 21 [.fz 1 (Ns Z),.fz 1 (Ns l),ints at_] (if at_.length≠l.length then .tup [I 0,I 8] else if atB Z l at_=true then .tup [I (horT Z l at_ l.length:Nat),I 0] else .tup [I 0,I 12]):=by
 have hl8:=h.len
 have hz8:=h.z8
 have hr:=rcountT_w h
 by_cases hlen:at_.length=l.length
 case neg =>
  have hlen':¬((at_.length:Nat):Int)=(l.length:Int):=by omega
  rw [if_pos hlen]
  refine good_of Tryz.func21 rfl (by kernel_rfl) fun X hO hrd=>?_;rw [Tryz.ntmps21,Tryz.results21];simp only [ast0,List.map_cons,List.map_nil,List.length_cons,List.length_nil,Nat.reduceAdd,Nat.reduceSub,List.replicate_succ,List.replicate_zero,List.cons_append,List.nil_append]
  (repeat (with_reducible first|refine W_seq fun K hK=>?_|refine J_region ?_ |(refine Kont.go (by assumption) ?_)|(simp (config:={ maxSteps:=3000000 }) (disch:=omega) only [go_sem])))
  (first|refine call_f (hr) rfl ?_|refine callQ_f (hr) rfl ?_|refine callHK_f (hr) rfl ?_|refine callH_f (hr) rfl ?_)
  (repeat (with_reducible first|refine W_seq fun K hK=>?_|refine J_skip ?_|refine J_ret ?_|refine J_region ?_ |refine J_c ?_|refine Jc_true ?_|refine Jc_false ?_|(refine Kont.go (by assumption) ?_)|(simp (config:={ maxSteps:=3000000 }) (disch:=omega) only [go_sem,List.length_map,Ns_len,hlen'])))
  exact ⟨_,rfl,FrzL.fs [_,_]⟩
 have hlen':((at_.length:Nat):Int)=(l.length:Int):=by omega
 have hno:∀x,x<l.length→¬(0≤at_.getD x 0∧at_.getD x 0<((szT Z (l.getD x 0):Nat):Int))→atB Z l at_=false:=fun x hx hn=>by
  cases hb:atB Z l at_ with
  | false=>rfl
  | true=>exact absurd (atB_iff.1 hb x hx) hn
 obtain ⟨R,hR⟩:∃R,R=(if at_.length≠l.length then FV.tup [I 0,I 8] else if atB Z l at_=true then .tup [I (horT Z l at_ l.length:Nat),I 0] else .tup [I 0,I 12]):=⟨_,rfl⟩
 have R1:atB Z l at_=true→R=.tup [I (horT Z l at_ l.length:Nat),I 0]:=fun e=>by rw [hR,if_neg (by simp [hlen]),if_pos e]
 have R2:atB Z l at_=false→R=.tup [I 0,I 12]:=fun e=>by rw [hR,if_neg (by simp [hlen]),if_neg (by rw [e];decide)]
 rw [←hR]
 refine good_of Tryz.func21 rfl (by kernel_rfl) fun X hO hrd=>?_;rw [Tryz.ntmps21,Tryz.results21];simp only [ast0,List.map_cons,List.map_nil,List.length_cons,List.length_nil,Nat.reduceAdd,Nat.reduceSub,List.replicate_succ,List.replicate_zero,List.cons_append,List.nil_append]
 (repeat (with_reducible first|refine W_seq fun K hK=>?_|refine J_region ?_ |(refine Kont.go (by assumption) ?_)|(simp (config:={ maxSteps:=3000000 }) (disch:=omega) only [go_sem])))
 (first|refine call_f (hr) rfl ?_|refine callQ_f (hr) rfl ?_|refine callHK_f (hr) rfl ?_|refine callH_f (hr) rfl ?_)
 (repeat (with_reducible first|refine W_seq fun K hK=>?_|refine J_block ?_|refine J_skip ?_|refine J_region ?_ |refine J_c ?_|refine Jc_false ?_|(refine Kont.go (by assumption) ?_)|(simp (config:={ maxSteps:=3000000 }) (disch:=omega) only [go_sem,List.length_map,Ns_len,hlen,decide_true])))
 refine W_loop [6,7,10,11,26,27,28,29,30,31,32,33,34,35,36,37,38,39,40,41,42,43,44,45,46,47,48,49,50,51,52,53,54,55,56,57,58,59,60,61,62,63,64] (fun x:Nat=>[(10,.f (I (horT Z l at_ x:Nat))),(11,.f (I x))]) (fun x:Nat=>[]) (fun x:Nat=>x≤l.length∧∀i,i<x→0≤at_.getD i 0∧at_.getD i 0<((szT Z (l.getD i 0):Nat):Int)) (fun x:Nat=>l.length-x) (0) (⟨Nat.zero_le _,fun j h=>by omega⟩) (by refine weak_of ?_ ?_<;>simp (disch:=omega) only [go_sem]<;>first|rfl|exact ⟨rfl,rfl⟩|exact Or.inl rfl|exact ⟨Or.inl rfl,Or.inl rfl⟩|trivial|assumption|omega|(symm;assumption)|((repeat' apply And.intro)<;>first|rfl|omega|trivial|exact .inl rfl|exact .inr ⟨rfl,rfl⟩|exact .inr rfl|(right;symm;assumption)|(symm;assumption)|assumption)) ?_
 ·rintro x ⟨hx,hp⟩
  simp only [go_sem]
  (repeat (with_reducible first|refine W_seq fun K hK=>?_|refine J_region ?_ |refine J_c ?_|(refine Kont.go (by assumption) ?_)|(simp (config:={ maxSteps:=3000000 }) (disch:=omega) only [go_sem,Ns_len])))
  refine Jc_if (fun hxl=>?_) (fun hxl=>?_)<;>try simp only [decide_eq_true_eq,decide_eq_false_iff_not] at hxl
  ·have g1:=Ns_get hxl
   have hgl:=h.get hxl
   have g2:=Ns_get (l:=Z) hgl
   have hxa:x<at_.length:=by omega
   have g3:=map_get I at_ hxa
   have e3:at_.getD x 0=at_[x]:=lget_lt at_ 0 hxa
   have hgz:((Z.getD (l.getD x 0) 0:Nat):Int)=((szT Z (l.getD x 0):Nat):Int):=rfl
   rw [hgz] at g2
   have hz4:=h.sz4 hgl
   by_cases c1:at_[x]<0
   ·have hb:=hno x hxl fun hh=>by omega
    (repeat (with_reducible first|refine W_seq fun K hK=>?_|refine J_block ?_|refine J_skip ?_|refine J_ret ?_|refine J_region ?_ |refine J_drawn mixed (by kernel_rfl) ?_|refine J_c ?_|refine Jc_true ?_|(refine Kont.go (by assumption) ?_)|(simp (config:={ maxSteps:=3000000 }) (disch:=omega) only [go_sem,↓reduceIte,g3,c1])))
    rw [R2 hb]
    exact ⟨_,rfl,FrzL.fs [_,_]⟩
   ·by_cases c2:((szT Z (l.getD x 0):Nat):Int)≤at_[x]
    ·have hb:=hno x hxl fun hh=>by omega
     (repeat (with_reducible first|refine W_seq fun K hK=>?_|refine J_block ?_|refine J_skip ?_|refine J_ret ?_|refine J_region ?_ |refine J_drawn mixed (by kernel_rfl) ?_|refine J_c ?_|refine Jc_true ?_|(refine Kont.go (by assumption) ?_)|(simp (config:={ maxSteps:=3000000 }) (disch:=omega) only [go_sem,↓reduceIte,g1,g2,g3,c1,c2])))
     rw [R2 hb]
     exact ⟨_,rfl,FrzL.fs [_,_]⟩
    ·have hlt:=horT_lt (at_:=at_) h (i:=x) hx fun j hj=>by have:=hp j hj;omega
     have hc:=(h.ztake x).cnt
     have hmx:horT Z l at_ x*szT Z (l.getD x 0)≤300000:=Nat.le_trans (Nat.mul_le_mul (show horT Z l at_ x≤65536 by omega) hz4) (by omega)
     have hn:horT Z l at_ (x+1)=horT Z l at_ x*szT Z (l.getD x 0)+(at_.getD x 0).toNat:=rfl
     have e0:((horT Z l at_ x:Nat):Int)*((szT Z (l.getD x 0):Nat):Int)=((horT Z l at_ x*szT Z (l.getD x 0):Nat):Int):=(Int.natCast_mul _ _).symm
     have e1:((horT Z l at_ x*szT Z (l.getD x 0):Nat):Int)+at_[x]=((horT Z l at_ (x+1):Nat):Int):=by rw [hn];omega
     have hup:((horT Z l at_ (x+1):Nat):Int)≤300000+10:=by rw [←e1];omega
     (repeat (with_reducible first|refine W_seq fun K hK=>?_|refine J_block ?_|refine J_skip ?_|refine J_region ?_ |refine J_drawn mixed (by kernel_rfl) ?_|refine J_c ?_|refine Jc_false ?_|(refine Kont.go (by assumption) ?_)|(simp (config:={ maxSteps:=3000000 }) (disch:=omega) only [go_sem,↓reduceIte,g1,g2,g3,c1,c2,e0,e1])))
     refine ⟨x+1,⟨by omega,upto_next (p:=fun i=>0≤at_.getD i 0∧at_.getD i 0<((szT Z (l.getD i 0):Nat):Int)) hp ⟨by omega,by omega⟩⟩,by omega,weak_of ?_ ?_⟩<;>(try simp (disch:=omega) only [go_sem])<;>(try first|done|omega|rfl|exact ⟨rfl,rfl⟩|trivial)
  ·have he:x=l.length:=by omega
   subst he
   have hb:=atB_iff.2 hp
   (repeat (with_reducible first|refine W_seq fun K hK=>?_|refine J_exit ?_|refine J_ret ?_|refine J_region ?_ |(refine Kont.go (by assumption) ?_)|(simp (config:={ maxSteps:=3000000 }) (disch:=omega) only [go_sem,↓reduceIte])))
   rw [R1 hb]
   exact ⟨_,rfl,FrzL.fs [_,_]⟩
theorem trisF_w (s l:List Int) (hs:s.length≤1000000) (hw:∀x∈l,-9223372036854775808≤x∧x≤9223372036854775807) (hl:l.length≤140737488355328) (h:okB s l=false):Good Tryz.prog 53 [ints s,ints l] (Bo false):=by
 have hr:=trising_w s l (by omega) hw hl
 rw [h] at hr;exact hr
theorem tcount0L_w (s l:List Int) (hs:s.length≤1000000) (hw:∀x∈l,-9223372036854775808≤x∧x≤9223372036854775807) (hl:l.length≤140737488355328) (h:okB s l=false):Good Tryz.prog 16 [ints s,ints l] (.tup [I 0,I 11]):=tcount0_w s l (by omega) hw hl h
set_option maxRecDepth 100000 in
theorem index0_w (s l at_:List Int) (hs:s.length≤1000000) (hw:∀x∈l,-9223372036854775808≤x∧x≤9223372036854775807) (hl:l.length≤140737488355328) (h:okB s l=false):Good Tryz.prog 20 [ints s,ints l,ints at_] (.tup [I 0,I 11]):=by
 have hr:=trisF_w s l hs hw hl h
 refine good_of Tryz.func20 rfl (by kernel_rfl) fun X hO hrd=>?_;rw [Tryz.ntmps20,Tryz.results20];simp only [ast0,List.map_cons,List.map_nil,List.length_cons,List.length_nil,Nat.reduceAdd,Nat.reduceSub,List.replicate_succ,List.replicate_zero,List.cons_append,List.nil_append]
 (repeat (with_reducible first|refine W_seq fun K hK=>?_|refine J_block ?_|refine J_region ?_ |(refine Kont.go (by assumption) ?_)|(simp (config:={ maxSteps:=3000000 }) (disch:=omega) only [go_sem])))
 (first|refine call_f (hr) rfl ?_|refine callQ_f (hr) rfl ?_|refine callHK_f (hr) rfl ?_|refine callH_f (hr) rfl ?_)
 (repeat (with_reducible first|refine W_seq fun K hK=>?_|refine J_ret ?_|refine J_region ?_ |refine J_c ?_|refine Jc_true ?_|(refine Kont.go (by assumption) ?_)|(simp (config:={ maxSteps:=3000000 }) (disch:=omega) only [go_sem])))
 exact ⟨_,rfl,FrzL.fs [_,_]⟩
set_option maxRecDepth 100000 in
theorem rindex0_w (s l at_:List Int) (hs:s.length≤1000000) (hw:∀x∈l,-9223372036854775808≤x∧x≤9223372036854775807) (hl:l.length≤140737488355328) (h:okB s l=false):Good Tryz.prog 21 [ints s,ints l,ints at_] (.tup [I 0,I 11]):=by
 have hr:=rcount0_w s l hs hw hl h
 refine good_of Tryz.func21 rfl (by kernel_rfl) fun X hO hrd=>?_;rw [Tryz.ntmps21,Tryz.results21];simp only [ast0,List.map_cons,List.map_nil,List.length_cons,List.length_nil,Nat.reduceAdd,Nat.reduceSub,List.replicate_succ,List.replicate_zero,List.cons_append,List.nil_append]
 (repeat (with_reducible first|refine W_seq fun K hK=>?_|refine J_region ?_ |(refine Kont.go (by assumption) ?_)|(simp (config:={ maxSteps:=3000000 }) (disch:=omega) only [go_sem])))
 (first|refine call_f (hr) rfl ?_|refine callQ_f (hr) rfl ?_|refine callHK_f (hr) rfl ?_|refine callH_f (hr) rfl ?_)
 (repeat (with_reducible first|refine W_seq fun K hK=>?_|refine J_ret ?_|refine J_region ?_ |refine J_c ?_|refine Jc_true ?_|(refine Kont.go (by assumption) ?_)|(simp (config:={ maxSteps:=3000000 }) (disch:=omega) only [go_sem,Int.reduceEq])))
 exact ⟨_,rfl,FrzL.fs [_,_]⟩
set_option maxRecDepth 100000 in
theorem where0_w (s l:List Int) (k:Int) (hs:s.length≤1000000) (hw:∀x∈l,-9223372036854775808≤x∧x≤9223372036854775807) (hl:l.length≤140737488355328) (h:okB s l=false):Good Tryz.prog 22 [ints s,ints l,I k] (.tup [.v (.slice none 0 0),I 11]):=by
 have hr:=tcount0L_w s l hs hw hl h
 refine good_of Tryz.func22 rfl (by kernel_rfl) fun X hO hrd=>?_;rw [Tryz.ntmps22,Tryz.results22];simp only [ast0,List.map_cons,List.map_nil,List.length_cons,List.length_nil,Nat.reduceAdd,Nat.reduceSub,List.replicate_succ,List.replicate_zero,List.cons_append,List.nil_append]
 (repeat (with_reducible first|refine W_seq fun K hK=>?_|refine J_region ?_ |(refine Kont.go (by assumption) ?_)|(simp (config:={ maxSteps:=3000000 }) (disch:=omega) only [go_sem])))
 (first|refine call_f (hr) rfl ?_|refine callQ_f (hr) rfl ?_|refine callHK_f (hr) rfl ?_|refine callH_f (hr) rfl ?_)
 (repeat (with_reducible first|refine W_seq fun K hK=>?_|refine J_block ?_|refine J_ret ?_|refine J_region ?_ |refine J_c ?_|refine Jc_true ?_|(refine Kont.go (by assumption) ?_)|(simp (config:={ maxSteps:=3000000 }) (disch:=omega) only [go_sem,Int.reduceEq])))
 exact ⟨_,rfl,FrzL.fs [_,_]⟩
set_option maxRecDepth 100000 in
theorem rwhere0_w (s l:List Int) (k:Int) (hs:s.length≤1000000) (hw:∀x∈l,-9223372036854775808≤x∧x≤9223372036854775807) (hl:l.length≤140737488355328) (h:okB s l=false):Good Tryz.prog 23 [ints s,ints l,I k] (.tup [.v (.slice none 0 0),I 11]):=by
 have hr:=rcount0_w s l hs hw hl h
 refine good_of Tryz.func23 rfl (by kernel_rfl) fun X hO hrd=>?_;rw [Tryz.ntmps23,Tryz.results23];simp only [ast0,List.map_cons,List.map_nil,List.length_cons,List.length_nil,Nat.reduceAdd,Nat.reduceSub,List.replicate_succ,List.replicate_zero,List.cons_append,List.nil_append]
 (repeat (with_reducible first|refine W_seq fun K hK=>?_|refine J_region ?_ |(refine Kont.go (by assumption) ?_)|(simp (config:={ maxSteps:=3000000 }) (disch:=omega) only [go_sem])))
 (first|refine call_f (hr) rfl ?_|refine callQ_f (hr) rfl ?_|refine callHK_f (hr) rfl ?_|refine callH_f (hr) rfl ?_)
 (repeat (with_reducible first|refine W_seq fun K hK=>?_|refine J_ret ?_|refine J_region ?_ |refine J_c ?_|refine Jc_true ?_|(refine Kont.go (by assumption) ?_)|(simp (config:={ maxSteps:=3000000 }) (disch:=omega) only [go_sem,Int.reduceEq])))
 exact ⟨_,rfl,FrzL.fs [_,_]⟩
set_option maxRecDepth 100000 in
theorem where15_w {Z l:List Nat} {k:Int} (h:OkT Z l) (hk:k<0∨((cntS (szT Z) l:Nat):Int)≤k):Good Tryz.prog 22 [.fz 1 (Ns Z),.fz 1 (Ns l),I k] (.tup [.v (.slice none 0 0),I 15]):=by
 have hr:=tcountT_w h
 refine good_of Tryz.func22 rfl (by kernel_rfl) fun X hO hrd=>?_;rw [Tryz.ntmps22,Tryz.results22];simp only [ast0,List.map_cons,List.map_nil,List.length_cons,List.length_nil,Nat.reduceAdd,Nat.reduceSub,List.replicate_succ,List.replicate_zero,List.cons_append,List.nil_append]
 (repeat (with_reducible first|refine W_seq fun K hK=>?_|refine J_region ?_ |(refine Kont.go (by assumption) ?_)|(simp (config:={ maxSteps:=3000000 }) (disch:=omega) only [go_sem])))
 (first|refine call_f (hr) rfl ?_|refine callQ_f (hr) rfl ?_|refine callHK_f (hr) rfl ?_|refine callH_f (hr) rfl ?_)
 by_cases c0:k<0
 ·(repeat (with_reducible first|refine W_seq fun K hK=>?_|refine J_block ?_|refine J_ret ?_|refine J_region ?_ |refine J_c ?_|refine Jc_true ?_|refine Jc_false ?_|(refine Kont.go (by assumption) ?_)|(simp (config:={ maxSteps:=3000000 }) (disch:=omega) only [go_sem,c0])))
  exact ⟨_,rfl,FrzL.fs [_,_]⟩
 ·have c1:=hk.resolve_left c0
  (repeat (with_reducible first|refine W_seq fun K hK=>?_|refine J_block ?_|refine J_ret ?_|refine J_region ?_ |refine J_c ?_|refine Jc_true ?_|refine Jc_false ?_|(refine Kont.go (by assumption) ?_)|(simp (config:={ maxSteps:=3000000 }) (disch:=omega) only [go_sem,c0,c1])))
  exact ⟨_,rfl,FrzL.fs [_,_]⟩
set_option maxRecDepth 100000 in
theorem rwhere15_w {Z l:List Nat} {k:Int} (h:OkT Z l) (hk:k<0∨((cntS (szT Z) l:Nat):Int)≤k):Good Tryz.prog 23 [.fz 1 (Ns Z),.fz 1 (Ns l),I k] (.tup [.v (.slice none 0 0),I 15]):=by
 have hr:=rcountT_w h
 refine good_of Tryz.func23 rfl (by kernel_rfl) fun X hO hrd=>?_;rw [Tryz.ntmps23,Tryz.results23];simp only [ast0,List.map_cons,List.map_nil,List.length_cons,List.length_nil,Nat.reduceAdd,Nat.reduceSub,List.replicate_succ,List.replicate_zero,List.cons_append,List.nil_append]
 (repeat (with_reducible first|refine W_seq fun K hK=>?_|refine J_region ?_ |(refine Kont.go (by assumption) ?_)|(simp (config:={ maxSteps:=3000000 }) (disch:=omega) only [go_sem])))
 (first|refine call_f (hr) rfl ?_|refine callQ_f (hr) rfl ?_|refine callHK_f (hr) rfl ?_|refine callH_f (hr) rfl ?_)
 by_cases c0:k<0
 ·(repeat (with_reducible first|refine W_seq fun K hK=>?_|refine J_skip ?_|refine J_ret ?_|refine J_region ?_ |refine J_c ?_|refine Jc_true ?_|refine Jc_false ?_|(refine Kont.go (by assumption) ?_)|(simp (config:={ maxSteps:=3000000 }) (disch:=omega) only [go_sem,c0])))
  exact ⟨_,rfl,FrzL.fs [_,_]⟩
 ·have c1:=hk.resolve_left c0
  (repeat (with_reducible first|refine W_seq fun K hK=>?_|refine J_skip ?_|refine J_ret ?_|refine J_region ?_ |refine J_c ?_|refine Jc_true ?_|refine Jc_false ?_|(refine Kont.go (by assumption) ?_)|(simp (config:={ maxSteps:=3000000 }) (disch:=omega) only [go_sem,c0,c1])))
  exact ⟨_,rfl,FrzL.fs [_,_]⟩
set_option maxRecDepth 100000 in
theorem whereT_w {Z l:List Nat} {k:Nat} (h:OkT Z l) (hk:k<cntS (szT Z) l):Good Tryz.prog 22 [.fz 1 (Ns Z),.fz 1 (Ns l),I (k:Int)] (.tup [.fz 1 (Ns (asgL Z l k)),I 0]):=by
 have hr:=tcountT_w h
 have hw:=where_w h hk
 have c0:¬(k:Int)<0:=by omega
 have c1:¬((cntS (szT Z) l:Nat):Int)≤(k:Int):=by omega
 refine good_of Tryz.func22 rfl (by kernel_rfl) fun X hO hrd=>?_;rw [Tryz.ntmps22,Tryz.results22];simp only [ast0,List.map_cons,List.map_nil,List.length_cons,List.length_nil,Nat.reduceAdd,Nat.reduceSub,List.replicate_succ,List.replicate_zero,List.cons_append,List.nil_append]
 (repeat (with_reducible first|refine W_seq fun K hK=>?_|refine J_region ?_ |(refine Kont.go (by assumption) ?_)|(simp (config:={ maxSteps:=3000000 }) (disch:=omega) only [go_sem])))
 (first|refine call_f (hr) rfl ?_|refine callQ_f (hr) rfl ?_|refine callHK_f (hr) rfl ?_|refine callH_f (hr) rfl ?_)
 (repeat (with_reducible first|refine W_seq fun K hK=>?_|refine J_block ?_|refine J_skip ?_|refine J_region ?_ |refine J_c ?_|refine Jc_false ?_|(refine Kont.go (by assumption) ?_)|(simp (config:={ maxSteps:=3000000 }) (disch:=omega) only [go_sem,c0,c1])))
 (first|refine call_f (hw) rfl ?_|refine callQ_f (hw) rfl ?_|refine callHK_f (hw) rfl ?_|refine callH_f (hw) rfl ?_)
 (repeat (with_reducible first|refine J_ret ?_|(refine Kont.go (by assumption) ?_)|(simp (config:={ maxSteps:=3000000 }) (disch:=omega) only [go_sem])))
 exact ⟨_,rfl,FrzL.fs [_,_]⟩
def ckE (s l:List Int) (n:Nat):Int:=if okB s l=true then (if cntS (szT (s.map Int.toNat)) (l.map Int.toNat)=n then 0 else 8) else 11
abbrev tabI (l:List Int) (xs:List FV):FV:=.agg [ints l,.fz 3 xs]
theorem tabI_Ns {m:List Nat} {xs:List FV}:tabI (m.map Int.ofNat) xs=tabV m xs:=by show FV.agg [ints _,_]=_;rw [ints_Ns]
theorem toNat_map {Z:List Nat}:(Z.map Int.ofNat).map Int.toNat=Z:=by
 rw [List.map_map]
 conv=>rhs;rw [←List.map_id Z]
 exact List.map_congr_left fun x _=>rfl
set_option maxRecDepth 100000 in
theorem check_w (s l:List Int) (xs:List FV) (hs:s.length≤1000000) (hw:∀x∈l,-9223372036854775808≤x∧x≤9223372036854775807) (hl:l.length≤140737488355328) (hx:xs.length≤140737488355328):Good Tryz.prog 18 [ints s,tabI l xs] (I (ckE s l xs.length)):=by
 cases h:okB s l with
 | false =>
  have hr:=tcount0L_w s l hs hw hl h
  have e:ckE s l xs.length=11:=by unfold ckE;rw [h];rfl
  rw [e]
  refine good_of Tryz.func18 rfl (by kernel_rfl) fun X hO hrd=>?_;rw [Tryz.ntmps18,Tryz.results18];simp only [ast0,List.map_cons,List.map_nil,List.length_cons,List.length_nil,Nat.reduceAdd,Nat.reduceSub,List.replicate_succ,List.replicate_zero,List.cons_append,List.nil_append]
  (repeat (with_reducible first|refine W_seq fun K hK=>?_|refine J_region ?_ |(refine Kont.go (by assumption) ?_)|(simp (config:={ maxSteps:=3000000 }) (disch:=omega) only [go_sem,↓reduceIte,Nat.reduceAdd])))
  (first|refine call_f (hr) rfl ?_|refine callQ_f (hr) rfl ?_|refine callHK_f (hr) rfl ?_|refine callH_f (hr) rfl ?_)
  (repeat (with_reducible first|refine W_seq fun K hK=>?_|refine J_skip ?_|refine J_ret ?_|refine J_region ?_ |refine J_c ?_|refine Jc_false ?_|exact Frz.f _|(refine Kont.go (by assumption) ?_)|(simp (config:={ maxSteps:=3000000 }) (disch:=omega) only [go_sem,Int.reduceEq])))
 | true =>
  obtain ⟨Z,m,rfl,rfl,hz⟩:=okB_nat h
  have hr:=tcountT_w hz
  have hc:=hz.cnt
  have e:ckE (Z.map Int.ofNat) (m.map Int.ofNat) xs.length=if cntS (szT Z) m=xs.length then 0 else 8:=by unfold ckE;rw [if_pos h,toNat_map,toNat_map]
  rw [e,ints_Ns,tabI_Ns]
  by_cases hn:cntS (szT Z) m=xs.length
  ·have hn':((cntS (szT Z) m:Nat):Int)=(xs.length:Int):=by omega
   rw [if_pos hn]
   refine good_of Tryz.func18 rfl (by kernel_rfl) fun X hO hrd=>?_;rw [Tryz.ntmps18,Tryz.results18];simp only [ast0,List.map_cons,List.map_nil,List.length_cons,List.length_nil,Nat.reduceAdd,Nat.reduceSub,List.replicate_succ,List.replicate_zero,List.cons_append,List.nil_append]
   (repeat (with_reducible first|refine W_seq fun K hK=>?_|refine J_region ?_ |(refine Kont.go (by assumption) ?_)|(simp (config:={ maxSteps:=3000000 }) (disch:=omega) only [go_sem,↓reduceIte,Nat.reduceAdd])))
   (first|refine call_f (hr) rfl ?_|refine callQ_f (hr) rfl ?_|refine callHK_f (hr) rfl ?_|refine callH_f (hr) rfl ?_)
   (repeat (with_reducible first|refine W_seq fun K hK=>?_|refine J_skip ?_|refine J_ret ?_|refine J_region ?_ |refine J_c ?_|refine Jc_false ?_|exact Frz.f _|(refine Kont.go (by assumption) ?_)|(simp (config:={ maxSteps:=3000000 }) (disch:=omega) only [go_sem,↓reduceIte,hn'])))
  ·have hn':¬((cntS (szT Z) m:Nat):Int)=(xs.length:Int):=by omega
   rw [if_neg hn]
   refine good_of Tryz.func18 rfl (by kernel_rfl) fun X hO hrd=>?_;rw [Tryz.ntmps18,Tryz.results18];simp only [ast0,List.map_cons,List.map_nil,List.length_cons,List.length_nil,Nat.reduceAdd,Nat.reduceSub,List.replicate_succ,List.replicate_zero,List.cons_append,List.nil_append]
   (repeat (with_reducible first|refine W_seq fun K hK=>?_|refine J_region ?_ |(refine Kont.go (by assumption) ?_)|(simp (config:={ maxSteps:=3000000 }) (disch:=omega) only [go_sem,↓reduceIte,Nat.reduceAdd])))
   (first|refine call_f (hr) rfl ?_|refine callQ_f (hr) rfl ?_|refine callHK_f (hr) rfl ?_|refine callH_f (hr) rfl ?_)
   (repeat (with_reducible first|refine W_seq fun K hK=>?_|refine J_ret ?_|refine J_region ?_ |refine J_c ?_|refine Jc_true ?_|exact Frz.f _|(refine Kont.go (by assumption) ?_)|(simp (config:={ maxSteps:=3000000 }) (disch:=omega) only [go_sem,↓reduceIte,hn'])))
set_option maxRecDepth 100000 in
theorem rcheck_w (s l:List Int) (xs:List FV) (hs:s.length≤1000000) (hw:∀x∈l,-9223372036854775808≤x∧x≤9223372036854775807) (hl:l.length≤140737488355328) (hx:xs.length≤140737488355328):Good Tryz.prog 19 [ints s,tabI l xs] (I (ckE s l xs.length)):=by
 cases h:okB s l with
 | false =>
  have hr:=rcount0_w s l hs hw hl h
  have e:ckE s l xs.length=11:=by unfold ckE;rw [h];rfl
  rw [e]
  refine good_of Tryz.func19 rfl (by kernel_rfl) fun X hO hrd=>?_;rw [Tryz.ntmps19,Tryz.results19];simp only [ast0,List.map_cons,List.map_nil,List.length_cons,List.length_nil,Nat.reduceAdd,Nat.reduceSub,List.replicate_succ,List.replicate_zero,List.cons_append,List.nil_append]
  (repeat (with_reducible first|refine W_seq fun K hK=>?_|refine J_region ?_ |(refine Kont.go (by assumption) ?_)|(simp (config:={ maxSteps:=3000000 }) (disch:=omega) only [go_sem,↓reduceIte,Nat.reduceAdd])))
  (first|refine call_f (hr) rfl ?_|refine callQ_f (hr) rfl ?_|refine callHK_f (hr) rfl ?_|refine callH_f (hr) rfl ?_)
  (repeat (with_reducible first|refine W_seq fun K hK=>?_|refine J_skip ?_|refine J_ret ?_|refine J_region ?_ |refine J_c ?_|refine Jc_false ?_|exact Frz.f _|(refine Kont.go (by assumption) ?_)|(simp (config:={ maxSteps:=3000000 }) (disch:=omega) only [go_sem,Int.reduceEq])))
 | true =>
  obtain ⟨Z,m,rfl,rfl,hz⟩:=okB_nat h
  have hr:=rcountT_w hz
  have hc:=hz.cnt
  have e:ckE (Z.map Int.ofNat) (m.map Int.ofNat) xs.length=if cntS (szT Z) m=xs.length then 0 else 8:=by unfold ckE;rw [if_pos h,toNat_map,toNat_map]
  rw [e,ints_Ns,tabI_Ns]
  by_cases hn:cntS (szT Z) m=xs.length
  ·have hn':((cntS (szT Z) m:Nat):Int)=(xs.length:Int):=by omega
   rw [if_pos hn]
   refine good_of Tryz.func19 rfl (by kernel_rfl) fun X hO hrd=>?_;rw [Tryz.ntmps19,Tryz.results19];simp only [ast0,List.map_cons,List.map_nil,List.length_cons,List.length_nil,Nat.reduceAdd,Nat.reduceSub,List.replicate_succ,List.replicate_zero,List.cons_append,List.nil_append]
   (repeat (with_reducible first|refine W_seq fun K hK=>?_|refine J_region ?_ |(refine Kont.go (by assumption) ?_)|(simp (config:={ maxSteps:=3000000 }) (disch:=omega) only [go_sem,↓reduceIte,Nat.reduceAdd])))
   (first|refine call_f (hr) rfl ?_|refine callQ_f (hr) rfl ?_|refine callHK_f (hr) rfl ?_|refine callH_f (hr) rfl ?_)
   (repeat (with_reducible first|refine W_seq fun K hK=>?_|refine J_skip ?_|refine J_ret ?_|refine J_region ?_ |refine J_c ?_|refine Jc_false ?_|exact Frz.f _|(refine Kont.go (by assumption) ?_)|(simp (config:={ maxSteps:=3000000 }) (disch:=omega) only [go_sem,↓reduceIte,hn'])))
  ·have hn':¬((cntS (szT Z) m:Nat):Int)=(xs.length:Int):=by omega
   rw [if_neg hn]
   refine good_of Tryz.func19 rfl (by kernel_rfl) fun X hO hrd=>?_;rw [Tryz.ntmps19,Tryz.results19];simp only [ast0,List.map_cons,List.map_nil,List.length_cons,List.length_nil,Nat.reduceAdd,Nat.reduceSub,List.replicate_succ,List.replicate_zero,List.cons_append,List.nil_append]
   (repeat (with_reducible first|refine W_seq fun K hK=>?_|refine J_region ?_ |(refine Kont.go (by assumption) ?_)|(simp (config:={ maxSteps:=3000000 }) (disch:=omega) only [go_sem,↓reduceIte,Nat.reduceAdd])))
   (first|refine call_f (hr) rfl ?_|refine callQ_f (hr) rfl ?_|refine callHK_f (hr) rfl ?_|refine callH_f (hr) rfl ?_)
   (repeat (with_reducible first|refine W_seq fun K hK=>?_|refine J_ret ?_|refine J_region ?_ |refine J_c ?_|refine Jc_true ?_|exact Frz.f _|(refine Kont.go (by assumption) ?_)|(simp (config:={ maxSteps:=3000000 }) (disch:=omega) only [go_sem,↓reduceIte,hn'])))
end Go.Proofs.YtmcgeppgfjlclaaGreatDoor
