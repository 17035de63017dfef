/- The abstract machine: an object told otherwise, by cells that stand for no less. Conditions: none. -/
import Derived.Test.YthehegidpamldaaGreatDoorZB09
import Derived.Test.YthehegidpamldaaGreatDoorZB22
import Derived.Test.YthehegidpamldaaGreatDoorZB21
set_option linter.unusedVariables false
set_option linter.unusedSimpArgs false
namespace Go.Proofs.YthehegidpamldaaGreatDoor
open Go Go.RowKit
def CellLe (c c':AV):Prop:=∀(w:World) (F:Nat→Prop) (loc:Nat→Nat × Nat) (N:Nat) (u:Value),Rep w F loc N c u→Rep w F loc N c' u
theorem CellLe.refl (c:AV):CellLe c c:=fun _ _ _ _ _ h=>h
theorem CellLe.nil (sz:Nat):CellLe (.f (.v (.slice none 0 0))) (.f (.fz sz [])):=fun w F loc N u h=>by
 cases h with
 | f _ _ h =>
  cases h with
  | v=>exact .f _ _ (.fz0 _ _ _ (by unfold maxLen;omega))
theorem J_wkO {X:Cx} {P:Program} {Q:Exit→AS→Prop} {s:AS} {c:Code} {r:Nat} {o o':AO} (hr:s.H[r]?=some (some o)) (he:o'.e=o.e) (hf:∀(j:Nat) c',(flat o'.es)[j]?=some c'→∃c,(flat o.es)[j]?=some c∧CellLe c c') (hu:Uni o'.sz o'.es) (h:J X P c Q ⟨s.t,s.H.set r (some o')⟩):J X P c Q s:=fun hk a w ⟨F,loc,R⟩=>by
 have hrl:=glt hr
 have hget:∀(q:Nat) p,(s.H.set r (some o'))[q]?=some (some p)→(q=r∧p=o')∨(q≠r∧s.H[q]?=some (some p)):=fun q p hq=>by
  by_cases e:q=r
  ·subst e;rw [List.getElem?_set_self hrl] at hq;cases hq;exact .inl ⟨rfl,rfl⟩
  ·rw [List.getElem?_set_ne (Ne.symm e)] at hq;exact .inr ⟨e,hq⟩
 have hany:∀(q:Nat) p,(s.H.set r (some o'))[q]?=some (some p)→∃p',s.H[q]?=some (some p'):=fun q p hq=>by
  rcases hget q p hq with ⟨rfl,_⟩|⟨_,h⟩
  ·exact ⟨o,hr⟩
  ·exact ⟨p,h⟩
 have hl:(s.H.set r (some o')).length=s.H.length:=List.length_set
 refine h hk a w ⟨F,loc,R.hF,R.hG,R.hN,R.below,R.defers,R.len,fun j x hj=>?_,fun q p hq=>?_,fun q p hq=>?_,fun q p hq=>?_,fun q q' p p' hq hq' e=>?_⟩
 ·show Rep w F loc (s.H.set r (some o')).length x _
  rw [hl];exact R.tmps j x hj
 ·show ObjAt w F loc (s.H.set r (some o')).length q p
  rw [hl]
  rcases hget q p hq with ⟨rfl,rfl⟩|⟨_,h⟩
  ·obtain ⟨_,vs,h1,h2,h3⟩:=R.obj q o hr
   refine ⟨hu,vs,by rw [he];exact h1,h2,fun j c hj=>?_⟩
   obtain ⟨c0,hc0,hle⟩:=hf j c hj
   obtain ⟨u,h4,h5⟩:=h3 j c0 hc0
   exact ⟨u,h4,hle _ _ _ _ _ h5⟩
  ·exact R.obj q p h
 ·obtain ⟨p',h'⟩:=hany q p hq;exact R.new q p' h'
 ·obtain ⟨p',h'⟩:=hany q p hq;exact R.nF q p' h'
 ·obtain ⟨p1,h1⟩:=hany q p hq;obtain ⟨p2,h2⟩:=hany q' p' hq';exact R.inj q q' p1 p2 h1 h2 e
theorem J_agg2 {X:Cx} {P:Program} {Q:Exit→AS→Prop} {t:List AV} {H:AH} {c:Code} (r:Nat) {e:TypeId} {a b:FV} (hr:H[r]?=some (some ⟨e,2,[.agg [.f a,.f b]]⟩)) (hu:(FV.agg [a,b]).cells.length=2∧(AV.f (.agg [a,b])).st=true) (hc:(FV.agg [a,b]).cells=[a,b]) (h:J X P c Q ⟨t,H.set r (some ⟨e,2,[.f (.agg [a,b])]⟩)⟩):J X P c Q ⟨t,H⟩ :=
 J_wkO (r:=r) (o':=⟨e,2,[.f (.agg [a,b])]⟩) hr rfl (fun j c' hj=>by
  have e1:flat [AV.f (.agg [a,b])]=flat [AV.agg [.f a,.f b]]:=by
   show (AV.f (.agg [a,b])).cells++[]=[.f a,.f b]++[]
   rw [cells_f,hc];rfl
  exact ⟨c',by rw [←e1];exact hj,CellLe.refl _⟩) (fun e he=>by rw [List.mem_singleton.1 he];exact ⟨by rw [cells_f_len];exact hu.1,hu.2⟩) h
end Go.Proofs.YthehegidpamldaaGreatDoor
set_option linter.unusedVariables false
set_option linter.unusedSimpArgs false
namespace Go.Proofs.YthehegidpamldaaGreatDoor
open Go Go.RowKit
def rwA (Z l:List Nat) (k i:Nat):List Nat:=(List.range l.length).map fun j=>if j<i then asgS (szT Z) l k (l.getD j 0) else 0
section
variable {Z l : List Nat} {k i : Nat}
theorem rwA_len:(rwA Z l k i).length=l.length:=by simp [rwA]
theorem rwA_zero:rwA Z l k 0=List.replicate l.length 0:=by
 unfold rwA
 rw [List.eq_replicate_iff]
 refine ⟨by simp,fun x hx=>?_⟩
 obtain ⟨j,hj,rfl⟩:=List.mem_map.1 hx
 rw [if_neg (by omega)]
theorem rwA_end:rwA Z l k l.length=asgL Z l k:=by
 unfold rwA asgL
 apply List.ext_getElem (by simp)
 intro j h1 h2
 have hj:j<l.length:=by simpa using h1
 rw [List.getElem_map,List.getElem_map,List.getElem_range,if_pos hj,lget_lt l 0 hj]
theorem rwA_step (hi:i<l.length):(rwA Z l k i).set i (asgS (szT Z) l k (l.getD i 0))=rwA Z l k (i+1):=by
 unfold rwA
 rw [range_set hi]
 refine List.map_congr_left fun j hj=>?_
 by_cases e:j=i
 ·rw [if_pos e,if_pos (by omega),e]
 ·rw [if_neg e]
  by_cases h:j<i
  ·rw [if_pos h,if_pos (by omega)]
  ·rw [if_neg h,if_neg (by omega)]
theorem rw_step (h:OkT Z l) (hk:k<cntS (szT Z) l) (hi:i<l.length) :
  cntS (szT Z) (l.drop i)/szT Z (l.getD i 0)=cntS (szT Z) (l.drop (i+1))∧k%cntS (szT Z) (l.drop i)/cntS (szT Z) (l.drop (i+1))=asgS (szT Z) l k (l.getD i 0)∧k%cntS (szT Z) (l.drop i)%cntS (szT Z) (l.drop (i+1))=k%cntS (szT Z) (l.drop (i+1)):=by
 have hc:=cnt_drop (S:=szT Z) hi
 have hp:=(h.zdrop (i+1)).cnt1
 have hs:=h.szp (h.get hi)
 rw [lget_lt l 0 hi] at hs ⊢
 refine ⟨?_,?_,?_⟩
 ·rw [hc];exact Nat.mul_div_cancel_left _ hs
 ·rw [dig_eq hi h.nd h.pos hk,hc,Nat.mul_comm,Nat.mod_mul_right_div_self]
 ·rw [hc,Nat.mul_comm,Nat.mod_mul_right_mod]
end
set_option maxRecDepth 100000 in
set_option maxHeartbeats 4000000 in
theorem rwhere_w {Z l:List Nat} {k:Nat} (h:OkT Z l) (hk:k<cntS (szT Z) l):Good Tryz.prog 24 [.fz 1 (Ns Z),.fz 1 (Ns l),I (k:Int)] (.tup [.fz 1 (Ns (asgL Z l k)),I 0]):=by
 have hl8:=h.len
 have hz8:=h.z8
 have hc:=h.cnt
 have hrc:=rcountT_w h
 have hz:List.replicate l.length (AV.f (FV.v (.int .i64 0)))=(Ns (rwA Z l k 0)).map AV.f:=by rw [rwA_zero];unfold Ns;rw [List.map_replicate,List.map_replicate];rfl
 have hby:(8:Int)*(l.length:Int)≤281474976710656:=by omega
 have hk2:¬((cntS (szT Z) l:Nat):Int)≤(k:Int):=by omega
 have hk3:¬(k:Int)<0:=by omega
 have e0:I (k:Int)=I ((k%cntS (szT Z) (l.drop 0):Nat):Int):=by rw [List.drop_zero,Nat.mod_eq_of_lt hk]
 have e1:I ((cntS (szT Z) l:Nat):Int)=I ((cntS (szT Z) (l.drop 0):Nat):Int):=by rw [List.drop_zero]
 refine good_of Tryz.func24 rfl (by kernel_rfl) fun X hO hrd=>?_;rw [Tryz.ntmps24,Tryz.results24];simp only [ast0,List.map_cons,List.map_nil,List.length_cons,List.length_nil,Nat.reduceAdd,Nat.reduceSub,List.replicate_succ,List.replicate_zero,List.cons_append,List.nil_append]
 (repeat (with_reducible first|refine W_seq fun K hK=>?_|refine J_region ?_ |(refine Kont.go (by assumption) ?_)|(simp (config:={ maxSteps:=3000000 }) (disch:=omega) only [go_sem])))
 (first|refine call_f (hrc) rfl ?_|refine callQ_f (hrc) rfl ?_|refine callHK_f (hrc) rfl ?_|refine callH_f (hrc) rfl ?_)
 (repeat (first|(with_reducible first|refine W_seq fun K hK=>?_|refine J_block ?_|refine J_skip ?_|refine J_region ?_ |refine J_c ?_|refine Jc_false ?_|(refine Kont.go (by assumption) ?_)|(simp (config:={ maxSteps:=3000000 }) (disch:=omega) only [go_sem,hk2,hk3,hz,Ns_len]))|refine And.intro (by omega) ?_))
 rw [e0,e1]
 refine W_loop [2,8,11,31,32,33,34,35,36,37,38,39,40,41,42,43,44,45,46,47,48,49,50,51,52,53,54] (fun x:Nat=>[(2,.f (I ((k%cntS (szT Z) (l.drop x):Nat):Int))),(8,.f (I ((cntS (szT Z) (l.drop x):Nat):Int))),(11,.f (I x))]) (fun x:Nat=>[some ⟨3,1,(Ns (rwA Z l k x)).map .f⟩]) (fun x:Nat=>x≤l.length) (fun x:Nat=>l.length-x) (0) (Nat.zero_le _) (by refine weak_of ?_ ?_<;>simp (disch:=omega) only [go_sem]<;>first|rfl|exact ⟨rfl,rfl⟩|exact Or.inl rfl|exact ⟨Or.inl rfl,Or.inl rfl⟩|trivial|assumption|omega|(symm;assumption)|((repeat' apply And.intro)<;>first|rfl|omega|trivial|exact .inl rfl|exact .inr ⟨rfl,rfl⟩|exact .inr rfl|(right;symm;assumption)|(symm;assumption)|assumption)) ?_
 rintro x hx
 simp only [go_sem]
 (repeat (with_reducible first|refine W_seq fun K hK=>?_|refine J_region ?_ |refine J_c ?_|(refine Kont.go (by assumption) ?_)|(simp (config:={ maxSteps:=3000000 }) (disch:=omega) only [go_sem,Ns_len])))
 refine Jc_if (fun hxl=>?_) (fun hxl=>?_)<;>try simp only [decide_eq_true_eq,decide_eq_false_iff_not] at hxl
 ·have g1:=Ns_get hxl
  have hgl:=h.get hxl
  have g2:=Ns_get (l:=Z) hgl
  obtain ⟨s1,s2,s3⟩:=rw_step h hk hxl
  have hsp:=h.szp hgl
  have hp:=(h.zdrop (x+1)).cnt1
  have hp2:=(h.zdrop (x+1)).cnt
  have hp3:=(h.zdrop x).cnt
  have hp4:=(h.zdrop x).cnt1
  have d1:((cntS (szT Z) (l.drop x):Nat):Int).tdiv ((Z.getD (l.getD x 0) 0:Nat):Int)=((cntS (szT Z) (l.drop (x+1)):Nat):Int):=by rw [td_nat];exact congrArg _ s1
  obtain ⟨A,hA⟩:∃A,A=k%cntS (szT Z) (l.drop x):=⟨_,rfl⟩
  obtain ⟨B,hB⟩:∃B,B=cntS (szT Z) (l.drop (x+1)):=⟨_,rfl⟩
  obtain ⟨C,hC⟩:∃C,C=asgS (szT Z) l k (l.getD x 0):=⟨_,rfl⟩
  obtain ⟨D,hD⟩:∃D,D=k%cntS (szT Z) (l.drop (x+1)):=⟨_,rfl⟩
  have hAl:A≤65536:=by rw [hA];have:=Nat.mod_lt k hp4;omega
  have hset:=rwA_step (Z:=Z) (k:=k) hxl
  rw [←hB] at d1 s2 s3 hp hp2 hD
  rw [←hA] at s2 s3 ⊢
  rw [←hC] at s2 hset
  rw [←hD] at s3
  have d2:(A:Int).tdiv (B:Int)=(C:Int):=by rw [td_nat];exact congrArg _ s2
  have d3:(A:Int).tmod (B:Int)=(D:Int):=by rw [tm_nat];exact congrArg _ s3
  have hCl:C≤65536:=by rw [←s2];have:=Nat.div_le_self A B;omega
  have hz0:¬((Z.getD (l.getD x 0) 0:Nat):Int)=0:=by unfold szT at hsp;omega
  have hB0:¬(B:Int)=0:=by omega
  have w1:=wrN hp2
  have w2:=wrN hCl
  have hst:((Ns (rwA Z l k x)).map AV.f).set x (.f (I (C:Int)))=(Ns (rwA Z l k (x+1))).map AV.f:=by rw [←List.map_set,Ns_set,hset]
  have hwl:((Ns (rwA Z l k x)).map AV.f).length=l.length:=by rw [List.length_map,Ns_len,rwA_len]
  have hgw:((Ns (rwA Z l k x)).map AV.f)[x]?=some (.f (I ((rwA Z l k x).getD x 0:Nat))):=by rw [List.getElem?_map,Ns_get (by rw [rwA_len];exact hxl)];rfl
  (repeat (first|(with_reducible first|refine W_seq fun K hK=>?_|refine J_block ?_|refine J_skip ?_|refine J_region ?_ |(refine Kont.go (by assumption) ?_)|(simp (config:={ maxSteps:=3000000 }) (disch:=omega) only [go_sem,↓reduceIte,g1,g2,d1,d2,d3,hz0,hB0,w1,w2,hst,hgw]))|refine And.intro (by omega) ?_))
  rw [hD,hB]
  refine ⟨x+1,by omega,by omega,weak_of ?_ ?_⟩<;>(try simp (disch:=omega) only [go_sem])<;>(try first|done|omega|rfl|exact ⟨rfl,rfl⟩|trivial)
 ·have he:x=l.length:=by omega
  subst he
  rw [rwA_end]
  (repeat (with_reducible first|refine W_seq fun K hK=>?_|refine J_exit ?_|refine J_ret ?_|refine J_region ?_ |(refine Kont.go (by assumption) ?_)|(simp (config:={ maxSteps:=3000000 }) (disch:=omega) only [go_sem,↓reduceIte])))
  exact ⟨_,rfl,FrzL.cons (Frz.own0 rfl (by rw [Ns_len,asgL_len])) (FrzL.cons (.f _) (FrzL.nil _))⟩
def spL (Z l:List Nat) (k:Nat):List Nat:=(List.range Z.length).map (asgS (szT Z) l k)
def spA (Z l:List Nat) (k i:Nat):List Nat:=(List.range Z.length).map fun w=>if w∈l.take i then asgS (szT Z) l k w else 0
section
variable {Z l : List Nat} {k i : Nat}
theorem spA_len:(spA Z l k i).length=Z.length:=by simp [spA]
theorem spL_len:(spL Z l k).length=Z.length:=by simp [spL]
theorem spA_zero:spA Z l k 0=List.replicate Z.length 0:=by
 unfold spA
 rw [List.eq_replicate_iff]
 refine ⟨by simp,fun x hx=>?_⟩
 obtain ⟨j,hj,rfl⟩:=List.mem_map.1 hx
 rw [if_neg (by simp)]
theorem spA_end:spA Z l k l.length=spL Z l k:=by
 unfold spA spL
 refine List.map_congr_left fun w _=>?_
 rw [List.take_length]
 by_cases h:w∈l
 ·rw [if_pos h]
 ·rw [if_neg h,asgS_out h]
theorem spA_step (h:OkT Z l) (hi:i<l.length):(spA Z l k i).set (l.getD i 0) (asgS (szT Z) l k (l.getD i 0))=spA Z l k (i+1):=by
 unfold spA
 rw [range_set (h.get hi)]
 refine List.map_congr_left fun w _=>?_
 rw [List.take_add_one,List.getElem?_eq_getElem hi,lget_lt l 0 hi,show (some l[i]).toList=[l[i]] from rfl]
 by_cases e:w=l[i]
 ·rw [if_pos e,if_pos (by rw [e];exact List.mem_append_right _ (List.mem_singleton.2 rfl)),e]
 ·rw [if_neg e]
  by_cases hw:w∈l.take i
  ·rw [if_pos hw,if_pos (List.mem_append_left _ hw)]
  ·rw [if_neg hw,if_neg fun hm=>(List.mem_append.1 hm).elim hw fun h=>e (List.mem_singleton.1 h)]
end
set_option maxRecDepth 100000 in
set_option maxHeartbeats 4000000 in
theorem rspread_w {Z l:List Nat} {k:Nat} (h:OkT Z l):GoodO Tryz.prog 42 [.fz 1 (Ns Z),.fz 1 (Ns l),.fz 1 (Ns (asgL Z l k))] (.own 3 1 (Ns (spL Z l k))):=by
 have hl8:=h.len
 have hz8:=h.z8
 have hz1:=h.z1
 have hz:List.replicate Z.length (AV.f (FV.v (.int .i64 0)))=(Ns (spA Z l k 0)).map AV.f:=by rw [spA_zero];unfold Ns;rw [List.map_replicate,List.map_replicate];rfl
 have hby:(8:Int)*(Z.length:Int)≤281474976710656:=by omega
 obtain ⟨R,hR⟩:∃R,R=RV.own 3 1 (Ns (spL Z l k)):=⟨_,rfl⟩
 have hend:∀{H:AH},H[0]?=some (some ⟨3,1,(Ns (spL Z l k)).map .f⟩)→ownR H (.own 0 1 0 Z.length) R:=fun h=>by
  rw [hR];exact ⟨0,by rw [Ns_len,spL_len],h,flat_Ns⟩
 rw [←hR]
 refine goodO_of Tryz.func42 rfl (by kernel_rfl) fun X hO hrd=>?_;rw [Tryz.ntmps42,Tryz.results42];simp only [ast0,List.map_cons,List.map_nil,List.length_cons,List.length_nil,Nat.reduceAdd,Nat.reduceSub,List.replicate_succ,List.replicate_zero,List.cons_append,List.nil_append]
 (repeat (first|(with_reducible first|refine W_seq fun K hK=>?_|refine J_block ?_|refine J_region ?_ |(refine Kont.go (by assumption) ?_)|(simp (config:={ maxSteps:=3000000 }) (disch:=omega) only [go_sem,hz,Ns_len]))|refine And.intro (by omega) ?_))
 refine W_loop [8,12,13,14,15,16,17,18,19,20,21,22,23,24,25,26,27] (fun x:Nat=>[(8,.f (I x))]) (fun x:Nat=>[some ⟨3,1,(Ns (spA Z l k x)).map .f⟩]) (fun x:Nat=>x≤l.length) (fun x:Nat=>l.length-x) (0) (Nat.zero_le _) (by refine weak_of ?_ ?_<;>simp (disch:=omega) only [go_sem]<;>first|rfl|exact ⟨rfl,rfl⟩|exact Or.inl rfl|exact ⟨Or.inl rfl,Or.inl rfl⟩|trivial|assumption|omega|(symm;assumption)|((repeat' apply And.intro)<;>first|rfl|omega|trivial|exact .inl rfl|exact .inr ⟨rfl,rfl⟩|exact .inr rfl|(right;symm;assumption)|(symm;assumption)|assumption)) ?_
 rintro x hx
 simp only [go_sem]
 (repeat (with_reducible first|refine W_seq fun K hK=>?_|refine J_region ?_ |refine J_c ?_|(refine Kont.go (by assumption) ?_)|(simp (config:={ maxSteps:=3000000 }) (disch:=omega) only [go_sem,Ns_len])))
 refine Jc_if (fun hxl=>?_) (fun hxl=>?_)<;>try simp only [decide_eq_true_eq,decide_eq_false_iff_not] at hxl
 ·have g1:=Ns_get hxl
  have hgl:=h.get hxl
  have g3:=Ns_get (l:=asgL Z l k) (i:=x) (by rw [asgL_len];exact hxl)
  rw [asgL_get hxl] at g3
  have hst:((Ns (spA Z l k x)).map AV.f).set (l.getD x 0) (.f (I ((asgS (szT Z) l k (l.getD x 0):Nat):Int)))=(Ns (spA Z l k (x+1))).map AV.f:=by rw [←List.map_set,Ns_set,spA_step h hxl]
  have hwl:((Ns (spA Z l k x)).map AV.f).length=Z.length:=by rw [List.length_map,Ns_len,spA_len]
  have hgw:((Ns (spA Z l k x)).map AV.f)[l.getD x 0]?=some (.f (I ((spA Z l k x).getD (l.getD x 0) 0:Nat))):=by rw [List.getElem?_map,Ns_get (by rw [spA_len];exact hgl)];rfl
  (repeat (with_reducible first|refine W_seq fun K hK=>?_|refine J_block ?_|refine J_skip ?_|refine J_region ?_ |refine J_drawn mixed (by kernel_rfl) ?_|(refine Kont.go (by assumption) ?_)|(simp (config:={ maxSteps:=3000000 }) (disch:=omega) only [go_sem,↓reduceIte,g1,g3,hst,hgw,hgl])))
  refine ⟨x+1,by omega,by omega,weak_of ?_ ?_⟩<;>(try simp (disch:=omega) only [go_sem])<;>(try first|done|omega|rfl|exact ⟨rfl,rfl⟩|trivial)
 ·have he:x=l.length:=by omega
  subst he
  rw [spA_end]
  (repeat (with_reducible first|refine W_seq fun K hK=>?_|refine J_exit ?_|refine J_ret ?_|refine J_region ?_ |(refine Kont.go (by assumption) ?_)|(simp (config:={ maxSteps:=3000000 }) (disch:=omega) only [go_sem,↓reduceIte])))
  exact hend rfl
end Go.Proofs.YthehegidpamldaaGreatDoor
set_option linter.unusedVariables false
set_option linter.unusedSimpArgs false
namespace Go.Proofs.YthehegidpamldaaGreatDoor
open Go Go.RowKit
def atB (Z l:List Nat) (at_:List Int):Bool:=(List.range l.length).all fun i=>decide (0≤at_.getD i 0∧at_.getD i 0<((szT Z (l.getD i 0):Nat):Int))
theorem atB_iff {Z l:List Nat} {at_:List Int}:atB Z l at_=true↔∀i,i<l.length→0≤at_.getD i 0∧at_.getD i 0<((szT Z (l.getD i 0):Nat):Int):=by
 unfold atB
 rw [List.all_eq_true]
 exact ⟨fun h i hi=>of_decide_eq_true (h i (List.mem_range.2 hi)),fun h i hi=>decide_eq_true (h i (List.mem_range.1 hi))⟩
theorem trisT_w {Z l:List Nat} (h:OkT Z l):Good Tryz.prog 80 [.fz 1 (Ns Z),.fz 1 (Ns l)] (Bo true):=by
 have hl8:=h.len
 have hz8:=h.z8
 have hr:=trising_w (Z.map Int.ofNat) (l.map Int.ofNat) (by rw [List.length_map];omega) (fun x hx=>by obtain ⟨n,hn,rfl⟩:=List.mem_map.1 hx;have:=h.lt n hn;show _≤(n:Int)∧(n:Int)≤_;omega) (by rw [List.length_map];omega)
 rw [ints_Ns,ints_Ns,okB_of h] at hr
 exact hr
set_option maxRecDepth 100000 in
set_option maxHeartbeats 8000000 in
theorem index_w {Z l:List Nat} (at_:List Int) (h:OkT Z l) (hal:at_.length≤140737488355328):Good Tryz.prog 45 [.fz 1 (Ns Z),.fz 1 (Ns l),ints at_] (if at_.length≠l.length then .tup [I 0,I 8] else if atB Z l at_=true then .tup [I (horT Z l at_ l.length:Nat),I 0] else .tup [I 0,I 12]):=by
 have hl8:=h.len
 have hz8:=h.z8
 have hr:=trisT_w h
 by_cases hlen:at_.length=l.length
 case neg =>
  have hlen':¬((at_.length:Nat):Int)=(l.length:Int):=by omega
  rw [if_pos hlen]
  refine good_of Tryz.func45 rfl (by kernel_rfl) fun X hO hrd=>?_;rw [Tryz.ntmps45,Tryz.results45];simp only [ast0,List.map_cons,List.map_nil,List.length_cons,List.length_nil,Nat.reduceAdd,Nat.reduceSub,List.replicate_succ,List.replicate_zero,List.cons_append,List.nil_append]
  (repeat (with_reducible first|refine W_seq fun K hK=>?_|refine J_block ?_|refine J_region ?_ |(refine Kont.go (by assumption) ?_)|(simp (config:={ maxSteps:=3000000 }) (disch:=omega) only [go_sem])))
  (first|refine call_f (hr) rfl ?_|refine callQ_f (hr) rfl ?_|refine callHK_f (hr) rfl ?_|refine callH_f (hr) rfl ?_)
  (repeat (with_reducible first|refine W_seq fun K hK=>?_|refine J_ret ?_|refine J_region ?_ |refine J_c ?_|refine Jc_true ?_|refine Jc_false ?_|(refine Kont.go (by assumption) ?_)|(simp (config:={ maxSteps:=3000000 }) (disch:=omega) only [go_sem,List.length_map,Ns_len,hlen'])))
  exact ⟨_,rfl,FrzL.fs [_,_]⟩
 have hlen':((at_.length:Nat):Int)=(l.length:Int):=by omega
 have hno:∀x,x<l.length→¬(0≤at_.getD x 0∧at_.getD x 0<((szT Z (l.getD x 0):Nat):Int))→atB Z l at_=false:=fun x hx hn=>by
  cases hb:atB Z l at_ with
  | false=>rfl
  | true=>exact absurd (atB_iff.1 hb x hx) hn
 obtain ⟨R,hR⟩:∃R,R=(if at_.length≠l.length then FV.tup [I 0,I 8] else if atB Z l at_=true then .tup [I (horT Z l at_ l.length:Nat),I 0] else .tup [I 0,I 12]):=⟨_,rfl⟩
 have R1:atB Z l at_=true→R=.tup [I (horT Z l at_ l.length:Nat),I 0]:=fun e=>by rw [hR,if_neg (by simp [hlen]),if_pos e]
 have R2:atB Z l at_=false→R=.tup [I 0,I 12]:=fun e=>by rw [hR,if_neg (by simp [hlen]),if_neg (by rw [e];decide)]
 rw [←hR]
 refine good_of Tryz.func45 rfl (by kernel_rfl) fun X hO hrd=>?_;rw [Tryz.ntmps45,Tryz.results45];simp only [ast0,List.map_cons,List.map_nil,List.length_cons,List.length_nil,Nat.reduceAdd,Nat.reduceSub,List.replicate_succ,List.replicate_zero,List.cons_append,List.nil_append]
 (repeat (with_reducible first|refine W_seq fun K hK=>?_|refine J_block ?_|refine J_region ?_ |(refine Kont.go (by assumption) ?_)|(simp (config:={ maxSteps:=3000000 }) (disch:=omega) only [go_sem])))
 (first|refine call_f (hr) rfl ?_|refine callQ_f (hr) rfl ?_|refine callHK_f (hr) rfl ?_|refine callH_f (hr) rfl ?_)
 (repeat (with_reducible first|refine W_seq fun K hK=>?_|refine J_block ?_|refine J_skip ?_|refine J_region ?_ |refine J_c ?_|refine Jc_false ?_|(refine Kont.go (by assumption) ?_)|(simp (config:={ maxSteps:=3000000 }) (disch:=omega) only [go_sem,List.length_map,Ns_len,hlen,decide_true])))
 refine W_loop [6,7,8,9,10,24,25,26,27,28,29,30,31,32,33,34,35,36,37,38,39,40,41,42,43,44,45,46,47,48,49,50,51,52,53,54,55,56] (fun x:Nat=>[(8,.f (I (horT Z l at_ x:Nat))),(24,.f (I x))]) (fun x:Nat=>[]) (fun x:Nat=>x≤l.length∧∀i,i<x→0≤at_.getD i 0∧at_.getD i 0<((szT Z (l.getD i 0):Nat):Int)) (fun x:Nat=>l.length-x) (0) (⟨Nat.zero_le _,fun j h=>by omega⟩) (by refine weak_of ?_ ?_<;>simp (disch:=omega) only [go_sem]<;>first|rfl|exact ⟨rfl,rfl⟩|exact Or.inl rfl|exact ⟨Or.inl rfl,Or.inl rfl⟩|trivial|assumption|omega|(symm;assumption)|((repeat' apply And.intro)<;>first|rfl|omega|trivial|exact .inl rfl|exact .inr ⟨rfl,rfl⟩|exact .inr rfl|(right;symm;assumption)|(symm;assumption)|assumption)) ?_
 ·rintro x ⟨hx,hp⟩
  simp only [go_sem]
  (repeat (with_reducible first|refine W_seq fun K hK=>?_|refine J_region ?_ |refine J_c ?_|(refine Kont.go (by assumption) ?_)|(simp (config:={ maxSteps:=3000000 }) (disch:=omega) only [go_sem])))
  refine Jc_if (fun hxl=>?_) (fun hxl=>?_)<;>try simp only [decide_eq_true_eq,decide_eq_false_iff_not] at hxl
  ·have g1:=Ns_get hxl
   have hgl:=h.get hxl
   have g2:=Ns_get (l:=Z) hgl
   have hxa:x<at_.length:=by omega
   have g3:=map_get I at_ hxa
   have e3:at_.getD x 0=at_[x]:=lget_lt at_ 0 hxa
   have hgz:((Z.getD (l.getD x 0) 0:Nat):Int)=((szT Z (l.getD x 0):Nat):Int):=rfl
   rw [hgz] at g2
   have hz4:=h.sz4 hgl
   by_cases c1:at_[x]<0
   ·have hb:=hno x hxl fun hh=>by omega
    (repeat (with_reducible first|refine W_seq fun K hK=>?_|refine J_block ?_|refine J_skip ?_|refine J_ret ?_|refine J_region ?_ |refine J_drawn mixed (by kernel_rfl) ?_|refine J_c ?_|refine Jc_true ?_|(refine Kont.go (by assumption) ?_)|(simp (config:={ maxSteps:=3000000 }) (disch:=omega) only [go_sem,↓reduceIte,g1,g3,c1])))
    rw [R2 hb]
    exact ⟨_,rfl,FrzL.fs [_,_]⟩
   ·by_cases c2:((szT Z (l.getD x 0):Nat):Int)≤at_[x]
    ·have hb:=hno x hxl fun hh=>by omega
     (repeat (with_reducible first|refine W_seq fun K hK=>?_|refine J_block ?_|refine J_skip ?_|refine J_ret ?_|refine J_region ?_ |refine J_drawn mixed (by kernel_rfl) ?_|refine J_c ?_|refine Jc_true ?_|(refine Kont.go (by assumption) ?_)|(simp (config:={ maxSteps:=3000000 }) (disch:=omega) only [go_sem,↓reduceIte,g1,g2,g3,c1,c2])))
     rw [R2 hb]
     exact ⟨_,rfl,FrzL.fs [_,_]⟩
    ·have hlt:=horT_lt (at_:=at_) h (i:=x) hx fun j hj=>by have:=hp j hj;omega
     have hc:=(h.ztake x).cnt
     have hmx:horT Z l at_ x*szT Z (l.getD x 0)≤300000:=Nat.le_trans (Nat.mul_le_mul (show horT Z l at_ x≤65536 by omega) hz4) (by omega)
     have hn:horT Z l at_ (x+1)=horT Z l at_ x*szT Z (l.getD x 0)+(at_.getD x 0).toNat:=rfl
     have e0:((horT Z l at_ x:Nat):Int)*((szT Z (l.getD x 0):Nat):Int)=((horT Z l at_ x*szT Z (l.getD x 0):Nat):Int):=(Int.natCast_mul _ _).symm
     have e1:((horT Z l at_ x*szT Z (l.getD x 0):Nat):Int)+at_[x]=((horT Z l at_ (x+1):Nat):Int):=by rw [hn];omega
     have hup:((horT Z l at_ (x+1):Nat):Int)≤300000+10:=by rw [←e1];omega
     (repeat (with_reducible first|refine W_seq fun K hK=>?_|refine J_block ?_|refine J_skip ?_|refine J_region ?_ |refine J_drawn mixed (by kernel_rfl) ?_|refine J_c ?_|refine Jc_false ?_|(refine Kont.go (by assumption) ?_)|(simp (config:={ maxSteps:=3000000 }) (disch:=omega) only [go_sem,↓reduceIte,g1,g2,g3,c1,c2,e0,e1])))
     refine ⟨x+1,⟨by omega,upto_next (p:=fun i=>0≤at_.getD i 0∧at_.getD i 0<((szT Z (l.getD i 0):Nat):Int)) hp ⟨by omega,by omega⟩⟩,by omega,weak_of ?_ ?_⟩<;>(try simp (disch:=omega) only [go_sem])<;>(try first|done|omega|rfl|exact ⟨rfl,rfl⟩|trivial)
  ·have he:x=l.length:=by omega
   subst he
   have hb:=atB_iff.2 hp
   (repeat (with_reducible first|refine W_seq fun K hK=>?_|refine J_exit ?_|refine J_ret ?_|refine J_region ?_ |(refine Kont.go (by assumption) ?_)|(simp (config:={ maxSteps:=3000000 }) (disch:=omega) only [go_sem,↓reduceIte])))
   rw [R1 hb]
   exact ⟨_,rfl,FrzL.fs [_,_]⟩
set_option maxRecDepth 100000 in
set_option maxHeartbeats 8000000 in
theorem rindex_w {Z l:List Nat} (at_:List Int) (h:OkT Z l) (hal:at_.length≤140737488355328):Good Tryz.prog 48 [.fz 1 (Ns Z),.fz 1 (Ns l),ints at_] (if at_.length≠l.length then .tup [I 0,I 8] else if atB Z l at_=true then .tup [I (horT Z l at_ l.length:Nat),I 0] else .tup [I 0,I 12]):=by
 have hl8:=h.len
 have hz8:=h.z8
 have hr:=rcountT_w h
 by_cases hlen:at_.length=l.length
 case neg =>
  have hlen':¬((at_.length:Nat):Int)=(l.length:Int):=by omega
  rw [if_pos hlen]
  refine good_of Tryz.func48 rfl (by kernel_rfl) fun X hO hrd=>?_;rw [Tryz.ntmps48,Tryz.results48];simp only [ast0,List.map_cons,List.map_nil,List.length_cons,List.length_nil,Nat.reduceAdd,Nat.reduceSub,List.replicate_succ,List.replicate_zero,List.cons_append,List.nil_append]
  (repeat (with_reducible first|refine W_seq fun K hK=>?_|refine J_region ?_ |(refine Kont.go (by assumption) ?_)|(simp (config:={ maxSteps:=3000000 }) (disch:=omega) only [go_sem])))
  (first|refine call_f (hr) rfl ?_|refine callQ_f (hr) rfl ?_|refine callHK_f (hr) rfl ?_|refine callH_f (hr) rfl ?_)
  (repeat (with_reducible first|refine W_seq fun K hK=>?_|refine J_skip ?_|refine J_ret ?_|refine J_region ?_ |refine J_c ?_|refine Jc_true ?_|refine Jc_false ?_|(refine Kont.go (by assumption) ?_)|(simp (config:={ maxSteps:=3000000 }) (disch:=omega) only [go_sem,List.length_map,Ns_len,hlen'])))
  exact ⟨_,rfl,FrzL.fs [_,_]⟩
 have hlen':((at_.length:Nat):Int)=(l.length:Int):=by omega
 have hno:∀x,x<l.length→¬(0≤at_.getD x 0∧at_.getD x 0<((szT Z (l.getD x 0):Nat):Int))→atB Z l at_=false:=fun x hx hn=>by
  cases hb:atB Z l at_ with
  | false=>rfl
  | true=>exact absurd (atB_iff.1 hb x hx) hn
 obtain ⟨R,hR⟩:∃R,R=(if at_.length≠l.length then FV.tup [I 0,I 8] else if atB Z l at_=true then .tup [I (horT Z l at_ l.length:Nat),I 0] else .tup [I 0,I 12]):=⟨_,rfl⟩
 have R1:atB Z l at_=true→R=.tup [I (horT Z l at_ l.length:Nat),I 0]:=fun e=>by rw [hR,if_neg (by simp [hlen]),if_pos e]
 have R2:atB Z l at_=false→R=.tup [I 0,I 12]:=fun e=>by rw [hR,if_neg (by simp [hlen]),if_neg (by rw [e];decide)]
 rw [←hR]
 refine good_of Tryz.func48 rfl (by kernel_rfl) fun X hO hrd=>?_;rw [Tryz.ntmps48,Tryz.results48];simp only [ast0,List.map_cons,List.map_nil,List.length_cons,List.length_nil,Nat.reduceAdd,Nat.reduceSub,List.replicate_succ,List.replicate_zero,List.cons_append,List.nil_append]
 (repeat (with_reducible first|refine W_seq fun K hK=>?_|refine J_region ?_ |(refine Kont.go (by assumption) ?_)|(simp (config:={ maxSteps:=3000000 }) (disch:=omega) only [go_sem])))
 (first|refine call_f (hr) rfl ?_|refine callQ_f (hr) rfl ?_|refine callHK_f (hr) rfl ?_|refine callH_f (hr) rfl ?_)
 (repeat (with_reducible first|refine W_seq fun K hK=>?_|refine J_block ?_|refine J_skip ?_|refine J_region ?_ |refine J_c ?_|refine Jc_false ?_|(refine Kont.go (by assumption) ?_)|(simp (config:={ maxSteps:=3000000 }) (disch:=omega) only [go_sem,List.length_map,Ns_len,hlen,decide_true])))
 refine W_loop [6,7,10,11,26,27,28,29,30,31,32,33,34,35,36,37,38,39,40,41,42,43,44,45,46,47,48,49,50,51,52,53,54,55,56,57,58,59,60,61,62,63,64] (fun x:Nat=>[(10,.f (I (horT Z l at_ x:Nat))),(11,.f (I x))]) (fun x:Nat=>[]) (fun x:Nat=>x≤l.length∧∀i,i<x→0≤at_.getD i 0∧at_.getD i 0<((szT Z (l.getD i 0):Nat):Int)) (fun x:Nat=>l.length-x) (0) (⟨Nat.zero_le _,fun j h=>by omega⟩) (by refine weak_of ?_ ?_<;>simp (disch:=omega) only [go_sem]<;>first|rfl|exact ⟨rfl,rfl⟩|exact Or.inl rfl|exact ⟨Or.inl rfl,Or.inl rfl⟩|trivial|assumption|omega|(symm;assumption)|((repeat' apply And.intro)<;>first|rfl|omega|trivial|exact .inl rfl|exact .inr ⟨rfl,rfl⟩|exact .inr rfl|(right;symm;assumption)|(symm;assumption)|assumption)) ?_
 ·rintro x ⟨hx,hp⟩
  simp only [go_sem]
  (repeat (with_reducible first|refine W_seq fun K hK=>?_|refine J_region ?_ |refine J_c ?_|(refine Kont.go (by assumption) ?_)|(simp (config:={ maxSteps:=3000000 }) (disch:=omega) only [go_sem,Ns_len])))
  refine Jc_if (fun hxl=>?_) (fun hxl=>?_)<;>try simp only [decide_eq_true_eq,decide_eq_false_iff_not] at hxl
  ·have g1:=Ns_get hxl
   have hgl:=h.get hxl
   have g2:=Ns_get (l:=Z) hgl
   have hxa:x<at_.length:=by omega
   have g3:=map_get I at_ hxa
   have e3:at_.getD x 0=at_[x]:=lget_lt at_ 0 hxa
   have hgz:((Z.getD (l.getD x 0) 0:Nat):Int)=((szT Z (l.getD x 0):Nat):Int):=rfl
   rw [hgz] at g2
   have hz4:=h.sz4 hgl
   by_cases c1:at_[x]<0
   ·have hb:=hno x hxl fun hh=>by omega
    (repeat (with_reducible first|refine W_seq fun K hK=>?_|refine J_block ?_|refine J_skip ?_|refine J_ret ?_|refine J_region ?_ |refine J_drawn mixed (by kernel_rfl) ?_|refine J_c ?_|refine Jc_true ?_|(refine Kont.go (by assumption) ?_)|(simp (config:={ maxSteps:=3000000 }) (disch:=omega) only [go_sem,↓reduceIte,g3,c1])))
    rw [R2 hb]
    exact ⟨_,rfl,FrzL.fs [_,_]⟩
   ·by_cases c2:((szT Z (l.getD x 0):Nat):Int)≤at_[x]
    ·have hb:=hno x hxl fun hh=>by omega
     (repeat (with_reducible first|refine W_seq fun K hK=>?_|refine J_block ?_|refine J_skip ?_|refine J_ret ?_|refine J_region ?_ |refine J_drawn mixed (by kernel_rfl) ?_|refine J_c ?_|refine Jc_true ?_|(refine Kont.go (by assumption) ?_)|(simp (config:={ maxSteps:=3000000 }) (disch:=omega) only [go_sem,↓reduceIte,g1,g2,g3,c1,c2])))
     rw [R2 hb]
     exact ⟨_,rfl,FrzL.fs [_,_]⟩
    ·have hlt:=horT_lt (at_:=at_) h (i:=x) hx fun j hj=>by have:=hp j hj;omega
     have hc:=(h.ztake x).cnt
     have hmx:horT Z l at_ x*szT Z (l.getD x 0)≤300000:=Nat.le_trans (Nat.mul_le_mul (show horT Z l at_ x≤65536 by omega) hz4) (by omega)
     have hn:horT Z l at_ (x+1)=horT Z l at_ x*szT Z (l.getD x 0)+(at_.getD x 0).toNat:=rfl
     have e0:((horT Z l at_ x:Nat):Int)*((szT Z (l.getD x 0):Nat):Int)=((horT Z l at_ x*szT Z (l.getD x 0):Nat):Int):=(Int.natCast_mul _ _).symm
     have e1:((horT Z l at_ x*szT Z (l.getD x 0):Nat):Int)+at_[x]=((horT Z l at_ (x+1):Nat):Int):=by rw [hn];omega
     have hup:((horT Z l at_ (x+1):Nat):Int)≤300000+10:=by rw [←e1];omega
     (repeat (with_reducible first|refine W_seq fun K hK=>?_|refine J_block ?_|refine J_skip ?_|refine J_region ?_ |refine J_drawn mixed (by kernel_rfl) ?_|refine J_c ?_|refine Jc_false ?_|(refine Kont.go (by assumption) ?_)|(simp (config:={ maxSteps:=3000000 }) (disch:=omega) only [go_sem,↓reduceIte,g1,g2,g3,c1,c2,e0,e1])))
     refine ⟨x+1,⟨by omega,upto_next (p:=fun i=>0≤at_.getD i 0∧at_.getD i 0<((szT Z (l.getD i 0):Nat):Int)) hp ⟨by omega,by omega⟩⟩,by omega,weak_of ?_ ?_⟩<;>(try simp (disch:=omega) only [go_sem])<;>(try first|done|omega|rfl|exact ⟨rfl,rfl⟩|trivial)
  ·have he:x=l.length:=by omega
   subst he
   have hb:=atB_iff.2 hp
   (repeat (with_reducible first|refine W_seq fun K hK=>?_|refine J_exit ?_|refine J_ret ?_|refine J_region ?_ |(refine Kont.go (by assumption) ?_)|(simp (config:={ maxSteps:=3000000 }) (disch:=omega) only [go_sem,↓reduceIte])))
   rw [R1 hb]
   exact ⟨_,rfl,FrzL.fs [_,_]⟩
set_option maxRecDepth 100000 in
theorem whereT_w {Z l:List Nat} {k:Nat} (h:OkT Z l) (hk:k<cntS (szT Z) l):Good Tryz.prog 32 [.fz 1 (Ns Z),.fz 1 (Ns l),I (k:Int)] (.tup [.fz 1 (Ns (asgL Z l k)),I 0]):=by
 have hr:=tcountT_w h
 have hw:=where_w h hk
 have c0:¬(k:Int)<0:=by omega
 have c1:¬((cntS (szT Z) l:Nat):Int)≤(k:Int):=by omega
 refine good_of Tryz.func32 rfl (by kernel_rfl) fun X hO hrd=>?_;rw [Tryz.ntmps32,Tryz.results32];simp only [ast0,List.map_cons,List.map_nil,List.length_cons,List.length_nil,Nat.reduceAdd,Nat.reduceSub,List.replicate_succ,List.replicate_zero,List.cons_append,List.nil_append]
 (repeat (with_reducible first|refine W_seq fun K hK=>?_|refine J_region ?_ |(refine Kont.go (by assumption) ?_)|(simp (config:={ maxSteps:=3000000 }) (disch:=omega) only [go_sem])))
 (first|refine call_f (hr) rfl ?_|refine callQ_f (hr) rfl ?_|refine callHK_f (hr) rfl ?_|refine callH_f (hr) rfl ?_)
 (repeat (with_reducible first|refine W_seq fun K hK=>?_|refine J_block ?_|refine J_skip ?_|refine J_region ?_ |refine J_c ?_|refine Jc_false ?_|(refine Kont.go (by assumption) ?_)|(simp (config:={ maxSteps:=3000000 }) (disch:=omega) only [go_sem,c0,c1])))
 (first|refine call_f (hw) rfl ?_|refine callQ_f (hw) rfl ?_|refine callHK_f (hw) rfl ?_|refine callH_f (hw) rfl ?_)
 (repeat (with_reducible first|refine J_ret ?_|(refine Kont.go (by assumption) ?_)|(simp (config:={ maxSteps:=3000000 }) (disch:=omega) only [go_sem])))
 exact ⟨_,rfl,FrzL.fs [_,_]⟩
end Go.Proofs.YthehegidpamldaaGreatDoor
set_option linter.unusedVariables false
set_option linter.unusedSimpArgs false
namespace Go.Proofs.YthehegidpamldaaGreatDoor
open Go Go.RowKit
theorem J_asFz {X:Cx} {P:Program} {c:Code} {Q:Exit→AS→Prop} {t:List AV} {H:AH} {j sz cap:Nat} {a:Option Addr} (hj:t[j]?=some (.f (.v (.slice a 0 cap)))) (hm:cap≤maxLen) (h:J X P c Q ⟨t.set j (.f (.fz sz [])),H⟩):J X P c Q ⟨t,H⟩:=fun hk b w ⟨F,loc,R⟩=>h hk b w ⟨F,loc,by
 refine ⟨R.hF,R.hG,R.hN,R.below,R.defers,by show (t.set j _).length=_;rw [List.length_set];exact R.len,fun i x hi=>?_,R.obj,R.new,R.nF,R.inj⟩
 by_cases e:i=j
 ·subst e
  have hi:(t.set i (.f (.fz sz [])))[i]?=some x:=hi
  rw [List.getElem?_set_self (glt hj)] at hi
  cases hi
  have:=R.tmps i _ hj
  generalize b.tmps.getD i undef=u at this ⊢
  cases this with|f _ _ h=>cases h;exact .f _ _ (.fz0 _ _ _ hm)
 ·have hi:(t.set j (.f (.fz sz [])))[i]?=some x:=hi
  rw [List.getElem?_set_ne (Ne.symm e)] at hi
  exact R.tmps i x hi⟩
set_option maxRecDepth 100000 in
theorem cloneN_w (cap:Nat):GoodO Tryz.prog 36 [.v (.slice none 0 cap)] (.f (.v (.slice none 0 0))):=by
 refine goodO_of Tryz.func36 rfl (by kernel_rfl) fun X hO hrd=>?_;rw [Tryz.ntmps36,Tryz.results36];simp only [ast0,List.map_cons,List.map_nil,List.length_cons,List.length_nil,Nat.reduceAdd,Nat.reduceSub,List.replicate_succ,List.replicate_zero,List.cons_append,List.nil_append]
 (repeat (with_reducible first|refine W_seq fun K hK=>?_|refine J_region ?_ |(refine Kont.go (by assumption) ?_)|(simp (config:={ maxSteps:=3000000 }) (disch:=omega) only [go_sem])))
 refine ⟨.slice none 0 cap,.slice none 0 0,true,rfl,rfl,fun w=>by kernel_rfl,?_⟩
 (repeat (with_reducible first|refine W_seq fun K hK=>?_|refine J_ret ?_|refine J_region ?_ |refine J_c ?_|refine Jc_true ?_|(refine Kont.go (by assumption) ?_)|(simp (config:={ maxSteps:=3000000 }) (disch:=omega) only [go_sem])))
 exact ⟨rfl,.v _⟩
set_option maxRecDepth 100000 in
theorem cloneE_w (a:Addr) (cap:Nat) (hm:cap≤maxLen):GoodO Tryz.prog 36 [.v (.slice (some a) 0 cap)] (.own 3 1 []):=by
 refine goodO_of Tryz.func36 rfl (by kernel_rfl) fun X hO hrd=>?_;rw [Tryz.ntmps36,Tryz.results36];simp only [ast0,List.map_cons,List.map_nil,List.length_cons,List.length_nil,Nat.reduceAdd,Nat.reduceSub,List.replicate_succ,List.replicate_zero,List.cons_append,List.nil_append]
 (repeat (with_reducible first|refine W_seq fun K hK=>?_|refine J_region ?_ |(refine Kont.go (by assumption) ?_)|(simp (config:={ maxSteps:=3000000 }) (disch:=omega) only [go_sem])))
 refine ⟨.slice (some a) 0 cap,.slice none 0 0,false,rfl,rfl,fun w=>by kernel_rfl,?_⟩
 (repeat (with_reducible first|refine W_seq fun K hK=>?_|refine J_skip ?_|refine J_c ?_|refine Jc_false ?_|(refine Kont.go (by assumption) ?_)|(simp (config:={ maxSteps:=3000000 }) (disch:=omega) only [go_sem])))
 refine J_asFz (j:=0) (sz:=1) rfl hm ?_
 simp only [go_sem]
 (repeat (first|(with_reducible first|refine J_ret ?_|refine J_region ?_ |refine aApp_old ?_|(refine Kont.go (by assumption) ?_)|(simp (config:={ maxSteps:=3000000 }) (disch:=omega) only [go_sem]))|refine And.intro (by omega) ?_))
 exact ⟨1,rfl,rfl,fun x hx=>by cases hx⟩
end Go.Proofs.YthehegidpamldaaGreatDoor
set_option linter.unusedVariables false
set_option linter.unusedSimpArgs false
namespace Go.Proofs.YthehegidpamldaaGreatDoor
open Go Go.RowKit
theorem J_cutZ {X:Cx} {P:Program} {K:AS→Prop} {Q Q':Exit→AS→Prop} {c r:Code} {γ:Type} {t:List AV} {H:AH} (hK:Kont K (fun s=>J X P r Q' s)) (ws:List Nat) (up:γ→List (Nat × AV)) (hp:γ→AH) (I:γ→Prop)
  (h1:J X P c (athen (fun s=>∃z,I z∧Weak s ⟨sets (up z) (msk ws t),hp z⟩) Q) ⟨t,H⟩) (h2:∀z,I z→J X P r Q' ⟨sets (up z) (msk ws t),hp z⟩):J X P c (athen K Q) ⟨t,H⟩:=J_mono h1 fun e s hs=>by
 cases e with
 | normal=>obtain ⟨z,hz,hw⟩:=hs;exact hK s (J_weak hw (h2 z hz))
 | _=>exact hs
theorem callU_O {P:Program} {f:FuncId} {zs:List FV} {r:RV} (hg:GoodO P f zs r) {X:Cx} {w:World} {F:Nat→Prop} {loc:Nat→Nat × Nat} {t:List AV} {H:AH} {a:Act} {ys:Array Value} (R:RelF X F loc ⟨t,H⟩ a w) (hys:RepFL w F zs ys) :
  Calls P f ys w fun e w'=>∃y F' loc',e=.returned y∧RelF X F' loc' ⟨t,H++r.hp⟩ a w'∧Rep w' F' loc' (H++r.hp).length (r.av H.length) y:=by
 refine (hg.2 w F ys R.tabW R.hF hys).mono ?_
 rintro e w' ⟨v,rfl,hb,hr⟩
 have R':=R.step hb (fun b h=>h) (fun b h=>beyond_step_le hb b (R.hF b h)) (fun b h=>.inl h)
 obtain ⟨loc',h1,h2⟩:=R'.result rfl hr R.below.size R.hF (fun b h=>R.live_lt (.inr h))
 exact ⟨v,F,loc',rfl,h1,h2⟩
theorem clone_e (H:AH):CallU Tryz.prog 36 [.f (.fz 1 [])] H (fun u G=>(u=.f (.v (.slice none 0 0))∧G=H)∨(u=.own H.length 1 0 0∧G=H++[some ⟨3,1,[]⟩])):=by
 refine ⟨(cloneN_w 0).1,fun X w F loc t a ys R hys=>?_⟩
 obtain ⟨hl,hr⟩:=hys
 have h1:ys.size=1:=hl.symm
 have h0:=hr 0 _ rfl
 obtain ⟨u,rfl⟩:=Array.size_eq_one_iff.1 h1
 replace h0:Rep w F loc H.length (.f (.fz 1 [])) u:=h0
 obtain ⟨ad,cap,hm,rfl⟩:∃ad cap,cap≤maxLen∧u=.slice ad 0 cap:=by
  cases h0 with|f _ _ h =>
   generalize he:([]:List FV)=es at h
   cases h with
   | fz0 _ a cap hm=>exact ⟨a,cap,hm,rfl⟩
   | fz _ _ b off cap _ _ hm=>subst he;exact ⟨_,cap,hm,rfl⟩
 have hy:RepFL w F [.v (.slice ad 0 cap)] #[.slice ad 0 cap]:=⟨rfl,fun j x hj=>by
  match j,hj with
  | 0,hj=>cases hj;exact .v _
  | j+1,hj=>simp at hj⟩
 cases ad with
 | none =>
  refine (callU_O (cloneN_w cap) R hy).mono ?_
  rintro e w' ⟨y,F',loc',he,hR,hrep⟩
  exact ⟨y,F',loc',_,_,.inl ⟨rfl,rfl⟩,he,by simpa [RV.hp] using hR,by simpa [RV.hp,RV.av] using hrep⟩
 | some ad =>
  refine (callU_O (cloneE_w ad cap hm) R hy).mono ?_
  rintro e w' ⟨y,F',loc',he,hR,hrep⟩
  exact ⟨y,F',loc',_,_,.inr ⟨rfl,rfl⟩,he,hR,hrep⟩
end Go.Proofs.YthehegidpamldaaGreatDoor
