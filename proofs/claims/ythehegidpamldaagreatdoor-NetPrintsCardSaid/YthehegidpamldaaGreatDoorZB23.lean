/- Tables: the program's where and place: walked. Conditions: what may be. -/
import Derived.Test.YthehegidpamldaaGreatDoorZB15
import Derived.Test.YthehegidpamldaaGreatDoorZB22
import Derived.Test.YthehegidpamldaaGreatDoorZB12
import Derived.Test.YthehegidpamldaaGreatDoorZB10
import Derived.Test.YthehegidpamldaaGreatDoorZB11
import Derived.Test.YthehegidpamldaaGreatDoorZB13
import Derived.Test.YthehegidpamldaaGreatDoorZB08
import Derived.Shelf.Spec.SlicesGrow
import Derived.Laws.AppendOwn
import Derived.Test.YthehegidpamldaaGreatDoorZB20
import Derived.Test.YthehegidpamldaaGreatDoorZB16
import Derived.Test.YthehegidpamldaaGreatDoorZB21
set_option linter.unusedVariables false
set_option linter.unusedSimpArgs false
namespace Go.Proofs.YthehegidpamldaaGreatDoor
open Go Go.RowKit
def whA (Z l:List Nat) (k i:Nat):List Nat:=(List.range l.length).map fun j=>if l.length≤j+i then asgS (szT Z) l k (l.getD j 0) else 0
section
variable {Z l m : List Nat} {k i : Nat}
theorem whA_len:(whA Z l k i).length=l.length:=by simp [whA]
theorem whA_zero:whA Z l k 0=List.replicate l.length 0:=by
 unfold whA
 rw [List.eq_replicate_iff]
 refine ⟨by simp,fun x hx=>?_⟩
 obtain ⟨j,hj,rfl⟩:=List.mem_map.1 hx
 have:=List.mem_range.1 hj
 rw [if_neg (by omega)]
theorem whA_end:whA Z l k l.length=asgL Z l k:=by
 unfold whA asgL
 apply List.ext_getElem (by simp)
 intro j h1 h2
 have hj:j<l.length:=by simpa using h1
 rw [List.getElem_map,List.getElem_map,List.getElem_range,if_pos (by omega),lget_lt l 0 hj]
theorem whA_step (hi:i<l.length):(whA Z l k i).set (l.length-1-i) (asgS (szT Z) l k (l.getD (l.length-1-i) 0))=whA Z l k (i+1):=by
 unfold whA
 rw [range_set (by omega)]
 refine List.map_congr_left fun j hj=>?_
 have:=List.mem_range.1 hj
 by_cases e:j=l.length-1-i
 ·rw [if_pos e,if_pos (by omega),e]
 ·rw [if_neg e]
  by_cases h:l.length≤j+i
  ·rw [if_pos h,if_pos (by omega)]
  ·rw [if_neg h,if_neg (by omega)]
theorem whA_dig (h:OkT Z l) (hk:k<cntS (szT Z) l) (hi:i<l.length):k/cntS (szT Z) (l.drop (l.length-i))%szT Z (l.getD (l.length-1-i) 0)=asgS (szT Z) l k (l.getD (l.length-1-i) 0):=by
 have hj:l.length-1-i<l.length:=by omega
 rw [lget_lt l 0 hj,dig_eq hj h.nd h.pos hk]
 rw [show l.length-1-i+1=l.length-i by omega]
theorem whA_div (hi:i<l.length):k/cntS (szT Z) (l.drop (l.length-i))/szT Z (l.getD (l.length-1-i) 0)=k/cntS (szT Z) (l.drop (l.length-(i+1))):=by
 have hj:l.length-1-i<l.length:=by omega
 have:=div_drop (S:=szT Z) (k:=k) hj
 rw [←lget_lt l 0 hj,show l.length-1-i+1=l.length-i by omega] at this
 rw [this,show l.length-(i+1)=l.length-1-i by omega]
theorem bk_at {x:Int × Int} (h:(bkL (l.map Int.ofNat))[i]?=some x):i<l.length∧x=(((l.length-1-i:Nat):Int),((l.getD (l.length-1-i) 0:Nat):Int)):=by
 have hi:i<l.length:=by
  have:=(List.getElem?_eq_some_iff.1 h).1
  rwa [bkL_len,List.length_map] at this
 rw [bkL_get (by rw [List.length_map];exact hi)] at h
 cases h
 refine ⟨hi,?_⟩
 rw [List.length_map]
 congr 1
 have hj:l.length-1-i<l.length:=by omega
 rw [lget_lt _ 0 (by rw [List.length_map];exact hj),List.getElem_map,lget_lt l 0 hj]
 rfl
theorem Ns_set {l:List Nat} {i x:Nat}:(Ns l).set i (I (x:Int))=Ns (l.set i x):=by unfold Ns;rw [List.map_set]
theorem wrN {n:Nat} (h:n≤65536):IntKind.i64.wrap (n:Int)=(n:Int):=by rw [IntKind.wrap_i64];omega
theorem tm_nat {a b:Nat}:(a:Int).tmod (b:Int)=((a%b:Nat):Int):=rfl
theorem td_nat {a b:Nat}:(a:Int).tdiv (b:Int)=((a/b:Nat):Int):=rfl
end
set_option maxRecDepth 100000 in
set_option maxHeartbeats 4000000 in
theorem where_w {Z l:List Nat} {k:Nat} (h:OkT Z l) (hk:k<cntS (szT Z) l):Good Tryz.prog 76 [.fz 1 (Ns Z),.fz 1 (Ns l),I (k:Int)] (.fz 1 (Ns (asgL Z l k))):=by
 have hl8:=h.len
 have hz8:=h.z8
 have hc:=h.cnt
 have hit:=back_iter (l.map Int.ofNat) (by rw [List.length_map];omega)
 have e0:(l.map Int.ofNat).map I=Ns l:=by unfold Ns;rw [List.map_map];rfl
 rw [e0] at hit
 have hbk:=backward_w (Ns l)
 have hok:enterOk Tryz.prog 141=true:=by kernel_rfl
 have hz:List.replicate l.length (AV.f (FV.v (.int .i64 0)))=(Ns (whA Z l k 0)).map AV.f:=by rw [whA_zero];unfold Ns;rw [List.map_replicate,List.map_replicate];rfl
 have hk0:I (k:Int)=I ((k/cntS (szT Z) (l.drop (l.length-0)):Nat):Int):=by rw [Nat.sub_zero,List.drop_length];show _=I ((k/1:Nat):Int);rw [Nat.div_one]
 have hby:(8:Int)*(l.length:Int)≤281474976710656:=by omega
 refine good_of Tryz.func76 rfl (by kernel_rfl) fun X hO hrd=>?_;rw [Tryz.ntmps76,Tryz.results76];simp only [ast0,List.map_cons,List.map_nil,List.length_cons,List.length_nil,Nat.reduceAdd,Nat.reduceSub,List.replicate_succ,List.replicate_zero,List.cons_append,List.nil_append]
 (repeat (first|(with_reducible first|refine W_seq fun K hK=>?_|refine J_region ?_ |(refine Kont.go (by assumption) ?_)|(simp (config:={ maxSteps:=3000000 }) (disch:=omega) only [go_sem,↓reduceIte,Nat.reduceAdd,Ns_len,hz]))|refine And.intro (by omega) ?_))
 (first|refine call_f (hbk) rfl ?_|refine callQ_f (hbk) rfl ?_|refine callHK_f (hbk) rfl ?_|refine callH_f (hbk) rfl ?_)
 (repeat (with_reducible first|refine J_block ?_|(refine Kont.go (by assumption) ?_)|(simp (config:={ maxSteps:=3000000 }) (disch:=omega) only [go_sem])))
 rw [hk0]
 refine J_rangeDW hrd [8,9,15,16,17,18,19,20,21,22,23,24,25,26,27,28,29,30,31] (fun i=>[some ⟨31,1,[.f (.fz 1 (Ns Z))]⟩,some ⟨3,1,[.f (I ((k/cntS (szT Z) (l.drop (l.length-i)):Nat):Int))]⟩,some ⟨3,1,(Ns (whA Z l k i)).map .f⟩,some ⟨31,1,[.own 2 1 0 l.length]⟩]) rfl (hit) (by kernel_rfl) (by refine weak_of ?_ ?_<;>simp (disch:=omega) only [go_sem,Nat.reduceAdd]<;>first|rfl|exact ⟨rfl,rfl⟩|trivial|((repeat' apply And.intro)<;>first|rfl|trivial|exact .inl rfl|exact .inr ⟨rfl,rfl⟩|exact .inr rfl)) (by decide) (by decide) (by decide) (by kernel_rfl) (by kernel_rfl) ?_ ?_
 ·rintro i y hy X1 hX1 K hK
  obtain ⟨hi,rfl⟩:=bk_at hy
  have hj:l.length-1-i<l.length:=by omega
  obtain ⟨j,hje⟩:∃j,j=l.length-1-i:=⟨_,rfl⟩
  have d1:=whA_dig h hk hi
  have d2:=whA_div (Z:=Z) (k:=k) hi
  have d3:=whA_step (Z:=Z) (k:=k) hi
  rw [←hje] at hj d1 d2 d3 ⊢
  have hgl:=h.get hj
  have g2:=Ns_get (l:=Z) hgl
  have hsp:=h.szp hgl
  obtain ⟨z,hze⟩:∃z,z=szT Z (l.getD j 0):=⟨_,rfl⟩
  rw [←hze] at d1 d2 hsp
  rw [show Z.getD (l.getD j 0) 0=z from hze.symm] at g2
  obtain ⟨q,hq⟩:∃q,q=k/cntS (szT Z) (l.drop (l.length-i)):=⟨_,rfl⟩
  have hql:q≤65536:=by have:=Nat.div_le_self k (cntS (szT Z) (l.drop (l.length-i)));omega
  rw [←hq] at d1 d2 ⊢
  have hz0:¬(z:Int)=0:=by omega
  have e1:(q:Int).tmod (z:Int)=((asgS (szT Z) l k (l.getD j 0):Nat):Int):=by rw [tm_nat,d1]
  have e2:(q:Int).tdiv (z:Int)=((k/cntS (szT Z) (l.drop (l.length-(i+1))):Nat):Int):=by rw [td_nat,d2]
  have hq2:k/cntS (szT Z) (l.drop (l.length-(i+1)))≤65536:=by rw [←d2];have:=Nat.div_le_self q z;omega
  have hset:((Ns (whA Z l k i)).map AV.f).set j (.f (I ((asgS (szT Z) l k (l.getD j 0):Nat):Int)))=(Ns (whA Z l k (i+1))).map AV.f:=by rw [←List.map_set,Ns_set,d3]
  have hwl:((Ns (whA Z l k i)).map AV.f).length=l.length:=by rw [List.length_map,Ns_len,whA_len]
  have hgw:((Ns (whA Z l k i)).map AV.f)[j]?=some (.f (I ((whA Z l k i).getD j 0:Nat))):=by rw [List.getElem?_map,Ns_get (by rw [whA_len];exact hj)];rfl
  simp only [go_sem]
  (repeat (with_reducible first|refine W_seq fun K hK=>?_|refine J_region ?_ |(refine Kont.go (by assumption) ?_)|(simp (config:={ maxSteps:=3000000 }) (disch:=omega) only [go_sem])))
  intro X2 hX2
  have hwr:IntKind.i64.wrap ((k/cntS (szT Z) (l.drop (l.length-(i+1))):Nat):Int)=((k/cntS (szT Z) (l.drop (l.length-(i+1))):Nat):Int):=wrN hq2
  (repeat (first|(with_reducible first|refine W_seq fun K hK=>?_|refine J_block ?_|refine J_drawn mixed (by kernel_rfl) ?_|(refine Kont.go (by assumption) ?_)|(simp (config:={ maxSteps:=3000000 }) (disch:=omega) only [go_sem,↓reduceIte,g2,e1,e2,hset,hgw,hz0,hwr]))|refine And.intro (by omega) ?_))
  refine rpost_n (weak_of ?_ ?_)<;>(try simp (disch:=omega) only [go_sem,Nat.reduceAdd])<;>(try first|done|omega|rfl|exact ⟨rfl,rfl⟩|trivial)
 ·have hel:(bkL (l.map Int.ofNat)).length=l.length:=by rw [bkL_len,List.length_map]
  rw [hel,whA_end]
  simp only [go_sem]
  (repeat (with_reducible first|refine W_seq fun K hK=>?_|refine J_ret ?_|refine J_region ?_ |(refine Kont.go (by assumption) ?_)|(simp (config:={ maxSteps:=3000000 }) (disch:=omega) only [go_sem,↓reduceIte])))
  exact Frz.own0 rfl (by rw [Ns_len,asgL_len])
end Go.Proofs.YthehegidpamldaaGreatDoor
set_option linter.unusedVariables false
set_option linter.unusedSimpArgs false
namespace Go.Proofs.YthehegidpamldaaGreatDoor
open Go Go.RowKit
section
variable {Z l m : List Nat} {k x : Nat}
end
end Go.Proofs.YthehegidpamldaaGreatDoor
set_option linter.unusedVariables false
set_option linter.unusedSimpArgs false
namespace Go.Proofs.YthehegidpamldaaGreatDoor
open Go Go.RowKit
theorem J_mask {X:Cx} {P:Program} (ws:List Nat) {c:Code} {Q:Exit→AS→Prop} {t:List AV} {H:AH} (hw:Weak ⟨t,H⟩ ⟨msk ws t,H⟩) (hJ:J X P c Q ⟨msk ws t,H⟩):J X P c Q ⟨t,H⟩:=J_weak hw hJ
end Go.Proofs.YthehegidpamldaaGreatDoor
set_option linter.unusedVariables false
set_option linter.unusedSimpArgs false
namespace Go.Proofs.YthehegidpamldaaGreatDoor
open Go Go.RowKit
end Go.Proofs.YthehegidpamldaaGreatDoor
set_option linter.unusedVariables false
set_option linter.unusedSimpArgs false
namespace Go.Proofs.YthehegidpamldaaGreatDoor
open Go Go.RowKit
@[go_sem] theorem oc_fn {f:FuncId} {a b:List FV}:(FV.fn f a b).oc=true:=rfl
@[go_sem] theorem oc_nf:(FV.v Value.nilFunc).oc=true:=rfl
@[go_sem] theorem ti_jf:tI Tryz.prog 58=some ⟨false,1,8,some (.v .nilFunc),[],false,[]⟩:=by kernel_rfl
@[go_sem] theorem ts_jf:tS Tryz.prog 58=none:=by kernel_rfl
section
variable {op : Rat → Rat → Rat} {z : Rat} {tw : Nat → Nat} {qs : List Rat} {k i n : Nat}
end
end Go.Proofs.YthehegidpamldaaGreatDoor
set_option linter.unusedVariables false
set_option linter.unusedSimpArgs false
namespace Go.Proofs.YthehegidpamldaaGreatDoor
open Go Go.RowKit
end Go.Proofs.YthehegidpamldaaGreatDoor
set_option linter.unusedVariables false
set_option linter.unusedSimpArgs false
namespace Go.Proofs.YthehegidpamldaaGreatDoor
open Go Go.RowKit
end Go.Proofs.YthehegidpamldaaGreatDoor
set_option linter.unusedVariables false
set_option linter.unusedSimpArgs false
namespace Go.Proofs.YthehegidpamldaaGreatDoor
open Go Go.RowKit
end Go.Proofs.YthehegidpamldaaGreatDoor
set_option linter.unusedVariables false
set_option linter.unusedSimpArgs false
namespace Go.Proofs.YthehegidpamldaaGreatDoor
open Go Go.RowKit
structure TbOk (k : Nat) (Z l : List Nat) (xs : List FV) (qs : List Rat) : Prop where
  ok : OkT Z l
  fr : Frs k xs qs
  len : qs.length = cntS (szT Z) l
end Go.Proofs.YthehegidpamldaaGreatDoor
set_option linter.unusedVariables false
set_option linter.unusedSimpArgs false
namespace Go.Proofs.YthehegidpamldaaGreatDoor
open Go Go.RowKit Go.Shelf
end Go.Proofs.YthehegidpamldaaGreatDoor
set_option linter.unusedVariables false
set_option linter.unusedSimpArgs false
namespace Go.Proofs.YthehegidpamldaaGreatDoor
open Go Go.RowKit
end Go.Proofs.YthehegidpamldaaGreatDoor
set_option linter.unusedVariables false
set_option linter.unusedSimpArgs false
namespace Go.Proofs.YthehegidpamldaaGreatDoor
open Go Go.RowKit
end Go.Proofs.YthehegidpamldaaGreatDoor
set_option linter.unusedVariables false
set_option linter.unusedSimpArgs false
namespace Go.Proofs.YthehegidpamldaaGreatDoor
open Go Go.RowKit
end Go.Proofs.YthehegidpamldaaGreatDoor
set_option linter.unusedVariables false
set_option linter.unusedSimpArgs false
namespace Go.Proofs.YthehegidpamldaaGreatDoor
open Go Go.RowKit
end Go.Proofs.YthehegidpamldaaGreatDoor
set_option linter.unusedVariables false
set_option linter.unusedSimpArgs false
namespace Go.Proofs.YthehegidpamldaaGreatDoor
open Go Go.RowKit
section
variable {l : List Int} {n v x : Nat}
end
end Go.Proofs.YthehegidpamldaaGreatDoor
set_option linter.unusedVariables false
set_option linter.unusedSimpArgs false
namespace Go.Proofs.YthehegidpamldaaGreatDoor
open Go Go.RowKit
end Go.Proofs.YthehegidpamldaaGreatDoor
set_option linter.unusedVariables false
set_option linter.unusedSimpArgs false
namespace Go.Proofs.YthehegidpamldaaGreatDoor
open Go Go.RowKit
def CellLe (c c':AV):Prop:=∀(w:World) (F:Nat→Prop) (loc:Nat→Nat × Nat) (N:Nat) (u:Value),Rep w F loc N c u→Rep w F loc N c' u
theorem CellLe.refl (c:AV):CellLe c c:=fun _ _ _ _ _ h=>h
theorem CellLe.nil (sz:Nat):CellLe (.f (.v (.slice none 0 0))) (.f (.fz sz [])):=fun w F loc N u h=>by
 cases h with
 | f _ _ h =>
  cases h with
  | v=>exact .f _ _ (.fz0 _ _ _ (by unfold maxLen;omega))
end Go.Proofs.YthehegidpamldaaGreatDoor
set_option linter.unusedVariables false
set_option linter.unusedSimpArgs false
namespace Go.Proofs.YthehegidpamldaaGreatDoor
open Go Go.RowKit
def rwA (Z l:List Nat) (k i:Nat):List Nat:=(List.range l.length).map fun j=>if j<i then asgS (szT Z) l k (l.getD j 0) else 0
section
variable {Z l : List Nat} {k i : Nat}
theorem rwA_len:(rwA Z l k i).length=l.length:=by simp [rwA]
theorem rwA_zero:rwA Z l k 0=List.replicate l.length 0:=by
 unfold rwA
 rw [List.eq_replicate_iff]
 refine ⟨by simp,fun x hx=>?_⟩
 obtain ⟨j,hj,rfl⟩:=List.mem_map.1 hx
 rw [if_neg (by omega)]
theorem rwA_end:rwA Z l k l.length=asgL Z l k:=by
 unfold rwA asgL
 apply List.ext_getElem (by simp)
 intro j h1 h2
 have hj:j<l.length:=by simpa using h1
 rw [List.getElem_map,List.getElem_map,List.getElem_range,if_pos hj,lget_lt l 0 hj]
theorem rwA_step (hi:i<l.length):(rwA Z l k i).set i (asgS (szT Z) l k (l.getD i 0))=rwA Z l k (i+1):=by
 unfold rwA
 rw [range_set hi]
 refine List.map_congr_left fun j hj=>?_
 by_cases e:j=i
 ·rw [if_pos e,if_pos (by omega),e]
 ·rw [if_neg e]
  by_cases h:j<i
  ·rw [if_pos h,if_pos (by omega)]
  ·rw [if_neg h,if_neg (by omega)]
theorem rw_step (h:OkT Z l) (hk:k<cntS (szT Z) l) (hi:i<l.length) :
  cntS (szT Z) (l.drop i)/szT Z (l.getD i 0)=cntS (szT Z) (l.drop (i+1))∧k%cntS (szT Z) (l.drop i)/cntS (szT Z) (l.drop (i+1))=asgS (szT Z) l k (l.getD i 0)∧k%cntS (szT Z) (l.drop i)%cntS (szT Z) (l.drop (i+1))=k%cntS (szT Z) (l.drop (i+1)):=by
 have hc:=cnt_drop (S:=szT Z) hi
 have hp:=(h.zdrop (i+1)).cnt1
 have hs:=h.szp (h.get hi)
 rw [lget_lt l 0 hi] at hs ⊢
 refine ⟨?_,?_,?_⟩
 ·rw [hc];exact Nat.mul_div_cancel_left _ hs
 ·rw [dig_eq hi h.nd h.pos hk,hc,Nat.mul_comm,Nat.mod_mul_right_div_self]
 ·rw [hc,Nat.mul_comm,Nat.mod_mul_right_mod]
end
set_option maxRecDepth 100000 in
set_option maxHeartbeats 4000000 in
theorem rwhere_w {Z l:List Nat} {k:Nat} (h:OkT Z l) (hk:k<cntS (szT Z) l):Good Tryz.prog 24 [.fz 1 (Ns Z),.fz 1 (Ns l),I (k:Int)] (.tup [.fz 1 (Ns (asgL Z l k)),I 0]):=by
 have hl8:=h.len
 have hz8:=h.z8
 have hc:=h.cnt
 have hrc:=rcountT_w h
 have hz:List.replicate l.length (AV.f (FV.v (.int .i64 0)))=(Ns (rwA Z l k 0)).map AV.f:=by rw [rwA_zero];unfold Ns;rw [List.map_replicate,List.map_replicate];rfl
 have hby:(8:Int)*(l.length:Int)≤281474976710656:=by omega
 have hk2:¬((cntS (szT Z) l:Nat):Int)≤(k:Int):=by omega
 have hk3:¬(k:Int)<0:=by omega
 have e0:I (k:Int)=I ((k%cntS (szT Z) (l.drop 0):Nat):Int):=by rw [List.drop_zero,Nat.mod_eq_of_lt hk]
 have e1:I ((cntS (szT Z) l:Nat):Int)=I ((cntS (szT Z) (l.drop 0):Nat):Int):=by rw [List.drop_zero]
 refine good_of Tryz.func24 rfl (by kernel_rfl) fun X hO hrd=>?_;rw [Tryz.ntmps24,Tryz.results24];simp only [ast0,List.map_cons,List.map_nil,List.length_cons,List.length_nil,Nat.reduceAdd,Nat.reduceSub,List.replicate_succ,List.replicate_zero,List.cons_append,List.nil_append]
 (repeat (with_reducible first|refine W_seq fun K hK=>?_|refine J_region ?_ |(refine Kont.go (by assumption) ?_)|(simp (config:={ maxSteps:=3000000 }) (disch:=omega) only [go_sem])))
 (first|refine call_f (hrc) rfl ?_|refine callQ_f (hrc) rfl ?_|refine callHK_f (hrc) rfl ?_|refine callH_f (hrc) rfl ?_)
 (repeat (first|(with_reducible first|refine W_seq fun K hK=>?_|refine J_block ?_|refine J_skip ?_|refine J_region ?_ |refine J_c ?_|refine Jc_false ?_|(refine Kont.go (by assumption) ?_)|(simp (config:={ maxSteps:=3000000 }) (disch:=omega) only [go_sem,hk2,hk3,hz,Ns_len]))|refine And.intro (by omega) ?_))
 rw [e0,e1]
 refine W_loop [2,8,11,31,32,33,34,35,36,37,38,39,40,41,42,43,44,45,46,47,48,49,50,51,52,53,54] (fun x:Nat=>[(2,.f (I ((k%cntS (szT Z) (l.drop x):Nat):Int))),(8,.f (I ((cntS (szT Z) (l.drop x):Nat):Int))),(11,.f (I x))]) (fun x:Nat=>[some ⟨3,1,(Ns (rwA Z l k x)).map .f⟩]) (fun x:Nat=>x≤l.length) (fun x:Nat=>l.length-x) (0) (Nat.zero_le _) (by refine weak_of ?_ ?_<;>simp (disch:=omega) only [go_sem]<;>first|rfl|exact ⟨rfl,rfl⟩|exact Or.inl rfl|exact ⟨Or.inl rfl,Or.inl rfl⟩|trivial|assumption|omega|(symm;assumption)|((repeat' apply And.intro)<;>first|rfl|omega|trivial|exact .inl rfl|exact .inr ⟨rfl,rfl⟩|exact .inr rfl|(right;symm;assumption)|(symm;assumption)|assumption)) ?_
 rintro x hx
 simp only [go_sem]
 (repeat (with_reducible first|refine W_seq fun K hK=>?_|refine J_region ?_ |refine J_c ?_|(refine Kont.go (by assumption) ?_)|(simp (config:={ maxSteps:=3000000 }) (disch:=omega) only [go_sem,Ns_len])))
 refine Jc_if (fun hxl=>?_) (fun hxl=>?_)<;>try simp only [decide_eq_true_eq,decide_eq_false_iff_not] at hxl
 ·have g1:=Ns_get hxl
  have hgl:=h.get hxl
  have g2:=Ns_get (l:=Z) hgl
  obtain ⟨s1,s2,s3⟩:=rw_step h hk hxl
  have hsp:=h.szp hgl
  have hp:=(h.zdrop (x+1)).cnt1
  have hp2:=(h.zdrop (x+1)).cnt
  have hp3:=(h.zdrop x).cnt
  have hp4:=(h.zdrop x).cnt1
  have d1:((cntS (szT Z) (l.drop x):Nat):Int).tdiv ((Z.getD (l.getD x 0) 0:Nat):Int)=((cntS (szT Z) (l.drop (x+1)):Nat):Int):=by rw [td_nat];exact congrArg _ s1
  obtain ⟨A,hA⟩:∃A,A=k%cntS (szT Z) (l.drop x):=⟨_,rfl⟩
  obtain ⟨B,hB⟩:∃B,B=cntS (szT Z) (l.drop (x+1)):=⟨_,rfl⟩
  obtain ⟨C,hC⟩:∃C,C=asgS (szT Z) l k (l.getD x 0):=⟨_,rfl⟩
  obtain ⟨D,hD⟩:∃D,D=k%cntS (szT Z) (l.drop (x+1)):=⟨_,rfl⟩
  have hAl:A≤65536:=by rw [hA];have:=Nat.mod_lt k hp4;omega
  have hset:=rwA_step (Z:=Z) (k:=k) hxl
  rw [←hB] at d1 s2 s3 hp hp2 hD
  rw [←hA] at s2 s3 ⊢
  rw [←hC] at s2 hset
  rw [←hD] at s3
  have d2:(A:Int).tdiv (B:Int)=(C:Int):=by rw [td_nat];exact congrArg _ s2
  have d3:(A:Int).tmod (B:Int)=(D:Int):=by rw [tm_nat];exact congrArg _ s3
  have hCl:C≤65536:=by rw [←s2];have:=Nat.div_le_self A B;omega
  have hz0:¬((Z.getD (l.getD x 0) 0:Nat):Int)=0:=by unfold szT at hsp;omega
  have hB0:¬(B:Int)=0:=by omega
  have w1:=wrN hp2
  have w2:=wrN hCl
  have hst:((Ns (rwA Z l k x)).map AV.f).set x (.f (I (C:Int)))=(Ns (rwA Z l k (x+1))).map AV.f:=by rw [←List.map_set,Ns_set,hset]
  have hwl:((Ns (rwA Z l k x)).map AV.f).length=l.length:=by rw [List.length_map,Ns_len,rwA_len]
  have hgw:((Ns (rwA Z l k x)).map AV.f)[x]?=some (.f (I ((rwA Z l k x).getD x 0:Nat))):=by rw [List.getElem?_map,Ns_get (by rw [rwA_len];exact hxl)];rfl
  (repeat (first|(with_reducible first|refine W_seq fun K hK=>?_|refine J_block ?_|refine J_skip ?_|refine J_region ?_ |(refine Kont.go (by assumption) ?_)|(simp (config:={ maxSteps:=3000000 }) (disch:=omega) only [go_sem,↓reduceIte,g1,g2,d1,d2,d3,hz0,hB0,w1,w2,hst,hgw]))|refine And.intro (by omega) ?_))
  rw [hD,hB]
  refine ⟨x+1,by omega,by omega,weak_of ?_ ?_⟩<;>(try simp (disch:=omega) only [go_sem])<;>(try first|done|omega|rfl|exact ⟨rfl,rfl⟩|trivial)
 ·have he:x=l.length:=by omega
  subst he
  rw [rwA_end]
  (repeat (with_reducible first|refine W_seq fun K hK=>?_|refine J_exit ?_|refine J_ret ?_|refine J_region ?_ |(refine Kont.go (by assumption) ?_)|(simp (config:={ maxSteps:=3000000 }) (disch:=omega) only [go_sem,↓reduceIte])))
  exact ⟨_,rfl,FrzL.cons (Frz.own0 rfl (by rw [Ns_len,asgL_len])) (FrzL.cons (.f _) (FrzL.nil _))⟩
section
variable {Z l : List Nat} {k i : Nat}
end
end Go.Proofs.YthehegidpamldaaGreatDoor
set_option linter.unusedVariables false
set_option linter.unusedSimpArgs false
namespace Go.Proofs.YthehegidpamldaaGreatDoor
open Go Go.RowKit
set_option maxRecDepth 100000 in
theorem whereT_w {Z l:List Nat} {k:Nat} (h:OkT Z l) (hk:k<cntS (szT Z) l):Good Tryz.prog 32 [.fz 1 (Ns Z),.fz 1 (Ns l),I (k:Int)] (.tup [.fz 1 (Ns (asgL Z l k)),I 0]):=by
 have hr:=tcountT_w h
 have hw:=where_w h hk
 have c0:¬(k:Int)<0:=by omega
 have c1:¬((cntS (szT Z) l:Nat):Int)≤(k:Int):=by omega
 refine good_of Tryz.func32 rfl (by kernel_rfl) fun X hO hrd=>?_;rw [Tryz.ntmps32,Tryz.results32];simp only [ast0,List.map_cons,List.map_nil,List.length_cons,List.length_nil,Nat.reduceAdd,Nat.reduceSub,List.replicate_succ,List.replicate_zero,List.cons_append,List.nil_append]
 (repeat (with_reducible first|refine W_seq fun K hK=>?_|refine J_region ?_ |(refine Kont.go (by assumption) ?_)|(simp (config:={ maxSteps:=3000000 }) (disch:=omega) only [go_sem])))
 (first|refine call_f (hr) rfl ?_|refine callQ_f (hr) rfl ?_|refine callHK_f (hr) rfl ?_|refine callH_f (hr) rfl ?_)
 (repeat (with_reducible first|refine W_seq fun K hK=>?_|refine J_block ?_|refine J_skip ?_|refine J_region ?_ |refine J_c ?_|refine Jc_false ?_|(refine Kont.go (by assumption) ?_)|(simp (config:={ maxSteps:=3000000 }) (disch:=omega) only [go_sem,c0,c1])))
 (first|refine call_f (hw) rfl ?_|refine callQ_f (hw) rfl ?_|refine callHK_f (hw) rfl ?_|refine callH_f (hw) rfl ?_)
 (repeat (with_reducible first|refine J_ret ?_|(refine Kont.go (by assumption) ?_)|(simp (config:={ maxSteps:=3000000 }) (disch:=omega) only [go_sem])))
 exact ⟨_,rfl,FrzL.fs [_,_]⟩
end Go.Proofs.YthehegidpamldaaGreatDoor
set_option linter.unusedVariables false
set_option linter.unusedSimpArgs false
namespace Go.Proofs.YthehegidpamldaaGreatDoor
open Go Go.RowKit
section
variable {Z pa l : List Nat} {a : Nat → Nat} {v : Nat}
end
end Go.Proofs.YthehegidpamldaaGreatDoor
set_option linter.unusedVariables false
set_option linter.unusedSimpArgs false
namespace Go.Proofs.YthehegidpamldaaGreatDoor
open Go Go.RowKit
section
variable {k : Nat} {V : List VarD} {P : List (List Int)} {RR : List FV} {M : List (List Rat)} {at_ : List Int}
theorem net_okR (he:netE (ordE P) V P M=0):OkT (szN V) (List.range (szN V).length):=by
 obtain ⟨⟨hP,_⟩,hE,_,_,_⟩:=netE_zero he
 obtain ⟨⟨h1,_⟩,_⟩:=listsB_iff.1 (ordE_lists hE)
 have hT:=(netG he (v:=0) (by omega)).ok
 exact hT.sub List.pairwise_lt_range fun v hv=>List.mem_range.1 hv
end
end Go.Proofs.YthehegidpamldaaGreatDoor
set_option linter.unusedVariables false
set_option linter.unusedSimpArgs false
namespace Go.Proofs.YthehegidpamldaaGreatDoor
open Go Go.RowKit
end Go.Proofs.YthehegidpamldaaGreatDoor
set_option linter.unusedVariables false
set_option linter.unusedSimpArgs false
namespace Go.Proofs.YthehegidpamldaaGreatDoor
open Go Go.RowKit
end Go.Proofs.YthehegidpamldaaGreatDoor
