/- Tables: Fix, the program's way: walked. Conditions: what may be; numbers of at most 100000 bytes. -/
import Derived.Test.YtmcgeppgfjlclaaGreatDoorYB24
-- NOOWN
set_option linter.unusedVariables false
set_option linter.unusedSimpArgs false
namespace Go.Proofs.YtmcgeppgfjlclaaGreatDoor
open Go Go.RowKit
def fxP (Z l:List Nat) (v w:Nat) (qs:List Rat) (x:Nat):List Rat:=((List.range x).filter fun k=>asgS (szT Z) l k v==w).map fun k=>qs.getD k 0
theorem fxP_next {Z l:List Nat} {v w x:Nat} {qs:List Rat}:fxP Z l v w qs (x+1)=fxP Z l v w qs x++if asgS (szT Z) l x v=w then [qs.getD x 0] else []:=by
 unfold fxP
 rw [List.range_succ,List.filter_append,List.map_append]
 congr 1
 by_cases h:asgS (szT Z) l x v=w
 ·rw [if_pos h];simp [h]
 ·rw [if_neg h];simp [h]
theorem fxP_len {Z l:List Nat} {v w x:Nat} {qs:List Rat}:(fxP Z l v w qs x).length≤x:=by
 unfold fxP;rw [List.length_map];exact Nat.le_trans (List.length_filter_le _ _) (by rw [List.length_range];exact Nat.le_refl _)
set_option maxRecDepth 100000 in
set_option maxHeartbeats 8000000 in
theorem fix_w {k:Nat} {Z l:List Nat} {xs:List FV} {qs:List Rat} (h:TbOk k Z l xs qs) (h1:1≤k) (hk:k≤100000) {v w:Nat} (hvZ:v<Z.length) (hwZ:w<szT Z v) :
  Good Tryz.prog 27 [.fz 1 (Ns Z),tabV l xs,I (v:Int),I (w:Int)] (.tup [tabV (lessT l v) ((fixT Z l v w qs).map fr),I 0]):=by
 have hl8:=h.ok.len
 have hz8:=h.ok.z8
 have hcx:=h.ok.cnt
 have hck:=tcheck_w h
 have gz:=Ns_get (l:=Z) hvZ
 have hsz:Z.getD v 0=szT Z v:=rfl
 rw [hsz] at gz
 have v0:¬(v:Int)<0:=by omega
 have v1:¬(Z.length:Int)≤(v:Int):=by omega
 have w0:¬(w:Int)<0:=by omega
 have w1:¬((szT Z v:Nat):Int)≤(w:Int):=by omega
 have hcan:=canonL_w h.fr (by rw [h.len];exact hcx) (by omega)
 have hix:=indexZ_w (l:=l.map Int.ofNat) (k:=(v:Int)) (by rw [List.length_map];omega)
 rw [ints_Ns] at hix
 by_cases hv:v∈l
 case neg =>
  rw [frs_not hv] at hix
  have hcl:=cloneF_w (l.map Int.ofNat) (by rw [List.length_map];omega)
  rw [ints_Ns] at hcl
  rw [lessT_out hv,fix_out h.ok hv h.len]
  refine good_of Tryz.func27 rfl (by kernel_rfl) fun X hO hrd=>?_;rw [Tryz.ntmps27,Tryz.results27];simp only [ast0,List.map_cons,List.map_nil,List.length_cons,List.length_nil,Nat.reduceAdd,Nat.reduceSub,List.replicate_succ,List.replicate_zero,List.cons_append,List.nil_append]
  (repeat (with_reducible first|refine W_seq fun K hK=>?_|refine J_region ?_ |(refine Kont.go (by assumption) ?_)|(simp (config:={ maxSteps:=3000000 }) (disch:=omega) only [go_sem,↓reduceIte,Nat.reduceAdd])))
  (first|refine call_f (hck) rfl ?_|refine callQ_f (hck) rfl ?_|refine callHK_f (hck) rfl ?_|refine callH_f (hck) rfl ?_)
  (repeat (with_reducible first|refine W_seq fun K hK=>?_|refine J_block ?_|refine J_skip ?_|refine J_region ?_ |refine J_c ?_|refine Jc_false ?_|(refine Kont.go (by assumption) ?_)|(simp (config:={ maxSteps:=3000000 }) (disch:=omega) only [go_sem,↓reduceIte,v0,v1,w0,w1,gz,Ns_len])))
  (first|refine call_f (hix) rfl ?_|refine callQ_f (hix) rfl ?_|refine callHK_f (hix) rfl ?_|refine callH_f (hix) rfl ?_)
  (repeat (with_reducible first|refine W_seq fun K hK=>?_|refine J_region ?_ |refine J_drawn mixed (by kernel_rfl) ?_|refine J_c ?_|refine Jc_true ?_|(refine Kont.go (by assumption) ?_)|(simp (config:={ maxSteps:=3000000 }) (disch:=omega) only [go_sem,Nat.reduceEqDiff,↓reduceIte,Nat.reduceAdd,Int.reduceLT,Int.reduceNeg])))
  refine callQ_f hcl rfl ?_
  (repeat (with_reducible first|(simp (config:={ maxSteps:=3000000 }) (disch:=omega) only [go_sem,↓reduceIte,Nat.reduceAdd,Nat.reduceLeDiff,Int.reduceNeg])))
  refine callQ_f hcan rfl ?_
  (repeat (with_reducible first|refine J_ret ?_|(refine Kont.go (by assumption) ?_)|(simp (config:={ maxSteps:=3000000 }) (disch:=omega) only [go_sem,↓reduceIte,Nat.reduceAdd,Nat.reduceLeDiff,Int.reduceNeg])))
  exact ⟨_,rfl,FrzL.fs [_,_]⟩
 obtain ⟨i,hil,hiv,hij,hdr⟩:=ris_at h.ok.ris hv
 rw [frs_at hil hiv hij] at hix
 rw [fix_filter h.ok hv hwZ]
 have hPall:((List.range (cntS (szT Z) l)).filter (fun k=>asgS (szT Z) l k v==w)).map (fun k=>qs.getD k 0)=fxP Z l v w qs (cntS (szT Z) l):=rfl
 have hlN:=fixT_len (Z:=Z) (l:=l) (v:=v) (w:=w) (qs:=qs)
 rw [fix_filter h.ok hv hwZ,hPall] at hlN
 have hc1:=(h.ok.less (v:=v)).cnt1
 rw [hPall]
 have hmN:(l.take i++l.drop (i+1)).length=l.length-1:=by rw [List.length_append,List.length_take,List.length_drop];omega
 obtain ⟨z0,l',hle⟩:∃z0 l',l=z0::l':=by
  cases l with
  | nil=>exact absurd hv (by simp)
  | cons a b=>exact ⟨_,_,rfl⟩
 have hclo:=cloneZ_w (z0:Int) (l'.map Int.ofNat) (by rw [List.length_map];rw [hle] at hl8;simp only [List.length_cons] at hl8;omega)
 have ecl:(z0:Int)::l'.map Int.ofNat=l.map Int.ofNat:=by rw [hle];rfl
 rw [ecl,ints_Ns] at hclo
 obtain ⟨L,hL⟩:∃L,L=l.map Int.ofNat:=⟨_,rfl⟩
 have hLl:L.length=l.length:=by rw [hL,List.length_map]
 rw [←hL] at hclo
 obtain ⟨m,hm⟩:∃m,m=lessT l v:=⟨_,rfl⟩
 have hml:m.length=l.length-1:=by rw [hm,←hdr,hmN]
 have hLd:((L.take i++L.drop (i+1)++List.replicate (i+1-i) 0).map I).take (l.length-1)=Ns m:=by
  have e1:(L.take i++L.drop (i+1)).length=l.length-1:=by rw [List.length_append,List.length_take,List.length_drop];omega
  rw [List.map_append,List.take_append_of_le_length (by rw [List.length_map];omega),List.take_of_length_le (by rw [List.length_map];omega),hm,←hdr,hL,←List.map_take,←List.map_drop,←List.map_append]
  unfold Ns;rw [List.map_map];rfl
 have hLd2:(((L.take i++L.drop (i+1)++List.replicate (i+1-i) 0).map I).map AV.f).take (l.length-1)=(Ns m).map .f:=by rw [←hLd,List.map_take]
 have hun:Uni 1 ((((L.take i++L.drop (i+1)++List.replicate (i+1-i) 0).map I).map AV.f).take (l.length-1)):=by
  rw [hLd2]
  exact uni_I fun x hx=>by obtain ⟨n,_,rfl⟩:=List.mem_map.1 hx;exact ⟨_,rfl⟩
 rw [←hm] at hlN hc1 ⊢
 have hi0:¬(i:Int)<0:=by omega
 have hi1:(i:Int)+1=((i+1:Nat):Int):=rfl
 obtain ⟨N,hN⟩:∃N,N=cntS (szT Z) l:=⟨_,rfl⟩
 have hqN:(qs.map fr).length=N:=by rw [List.length_map,h.len,hN]
 rw [←hN] at hcx hlN ⊢
 have hPl:∀x,((fxP Z l v w qs x).map fr).length≤x:=fun x=>by rw [List.length_map];exact fxP_len
 have hPn:∀x,(fxP Z l v w qs (x+1)).map fr=(fxP Z l v w qs x).map fr++if asgS (szT Z) l x v=w then [fr (qs.getD x 0)] else []:=fun x=>by
  rw [fxP_next,List.map_append]
  split<;>rfl
 have hPne:(fxP Z l v w qs N).map fr≠[]:=fun h0=>by
  have:=congrArg List.length h0
  rw [List.length_map,hlN,List.length_nil] at this
  omega
 refine good_of Tryz.func27 rfl (by kernel_rfl) fun X hO hrd=>?_;rw [Tryz.ntmps27,Tryz.results27];simp only [ast0,List.map_cons,List.map_nil,List.length_cons,List.length_nil,Nat.reduceAdd,Nat.reduceSub,List.replicate_succ,List.replicate_zero,List.cons_append,List.nil_append]
 (repeat (with_reducible first|refine W_seq fun K hK=>?_|refine J_region ?_ |(refine Kont.go (by assumption) ?_)|(simp (config:={ maxSteps:=3000000 }) (disch:=omega) only [go_sem,↓reduceIte,Nat.reduceAdd])))
 (first|refine call_f (hck) rfl ?_|refine callQ_f (hck) rfl ?_|refine callHK_f (hck) rfl ?_|refine callH_f (hck) rfl ?_)
 (repeat (with_reducible first|refine W_seq fun K hK=>?_|refine J_block ?_|refine J_skip ?_|refine J_region ?_ |refine J_c ?_|refine Jc_false ?_|(refine Kont.go (by assumption) ?_)|(simp (config:={ maxSteps:=3000000 }) (disch:=omega) only [go_sem,↓reduceIte,v0,v1,w0,w1,gz,Ns_len])))
 (first|refine call_f (hix) rfl ?_|refine callQ_f (hix) rfl ?_|refine callHK_f (hix) rfl ?_|refine callH_f (hix) rfl ?_)
 (repeat (with_reducible first|refine W_seq fun K hK=>?_|refine J_skip ?_|refine J_region ?_ |refine J_c ?_|refine Jc_false ?_|(refine Kont.go (by assumption) ?_)|(simp (config:={ maxSteps:=3000000 }) (disch:=omega) only [go_sem,↓reduceIte,hi0])))
 refine call_o hclo (FrzL.fs [_]) ?_
 (repeat (with_reducible first|(simp (config:={ maxSteps:=3000000 }) (disch:=omega) only [go_sem,Nat.reduceAdd,List.length_map,hi1])))
 refine call_u (delete_u (q:=2) (i:=i) (j:=i+1) (zs:=L) rfl (by omega) (by omega) (by omega)) ?_
 (repeat (with_reducible first|refine W_seq fun K hK=>?_|(refine Kont.go (by assumption) ?_)|(simp (config:={ maxSteps:=3000000 }) (disch:=omega) only [go_sem,Nat.reduceEqDiff,↓reduceIte,Nat.reduceAdd,Nat.reduceLeDiff])))
 refine J_trunc 2 (l.length-1) rfl hun ?_
 simp only [go_sem,hLd2]
 refine J_mask [59] (by refine weak_of ?_ ?_<;>simp (disch:=omega) only [go_sem,Nat.reduceAdd]<;>first|rfl|exact ⟨rfl,rfl⟩|exact Or.inl rfl|exact ⟨Or.inl rfl,Or.inl rfl⟩|trivial|assumption|omega|(symm;assumption)|((repeat' apply And.intro)<;>first|rfl|omega|trivial|exact .inr ⟨rfl,rfl⟩|exact .inr rfl|(right;symm;assumption)|(symm;assumption)|assumption)) ?_;simp only [go_sem]
 have hLs:L.length-(i+1-i)=(Ns m).length:=by rw [Ns_len,hml,hLl];omega
 rw [hLs]
 refine J_freezeA (r:=2) (sz:=1) (e:=3) (l:=Ns m) (by rfl) ?_
 simp only [go_sem,Nat.reduceEqDiff]
 refine J_agg2 3 rfl ⟨rfl,rfl⟩ rfl ?_
 simp only [go_sem]
 refine J_reserve ?_
 simp only [go_sem]
 have h00:AV.f (.agg [.fz 1 (Ns m),.v (.slice none 0 0)])=tbA 4 (Ns m) ((fxP Z l v w qs 0).map fr):=rfl
 (repeat (with_reducible first|refine J_region ?_ |(simp (config:={ maxSteps:=3000000 }) (disch:=omega) only [go_sem,↓reduceIte])))
 (first|refine call_f (hcan) rfl ?_|refine callQ_f (hcan) rfl ?_|refine callHK_f (hcan) rfl ?_|refine callH_f (hcan) rfl ?_)
 (repeat (with_reducible first|refine J_block ?_|(refine Kont.go (by assumption) ?_)|(simp (config:={ maxSteps:=3000000 }) (disch:=omega) only [go_sem,hqN])))
 refine J_mask [64] (by refine weak_of ?_ ?_<;>simp (disch:=omega) only [go_sem,Nat.reduceAdd]<;>first|rfl|exact ⟨rfl,rfl⟩|exact Or.inl rfl|exact ⟨Or.inl rfl,Or.inl rfl⟩|trivial|assumption|omega|(symm;assumption)|((repeat' apply And.intro)<;>first|rfl|omega|trivial|exact .inr ⟨rfl,rfl⟩|exact .inr rfl|(right;symm;assumption)|(symm;assumption)|assumption)) ?_;simp only [go_sem]
 rw [h00]
 refine W_loop [13,14,69,70,71,72,73,74,75,76,77,78,79,80,81,82,83,84,85,86,87,88,89,90] (fun x:Nat=>[(69,.f (I x))]) (fun x:Nat=>[oT (tabV l xs),oT tab0,none,some ⟨27,2,[tbA 4 (Ns m) ((fxP Z l v w qs x).map fr)]⟩,ob 50 3 ((fxP Z l v w qs x).map fr)]) (fun x:Nat=>x≤N) (fun x:Nat=>N-x) (0) (Nat.zero_le _) (by refine weak_of ?_ ?_<;>simp (disch:=omega) only [go_sem,Nat.reduceAdd]<;>first|rfl|exact ⟨rfl,rfl⟩|exact Or.inl rfl|exact ⟨Or.inl rfl,Or.inl rfl⟩|trivial|assumption|omega|(symm;assumption)|((repeat' apply And.intro)<;>first|rfl|omega|trivial|exact .inl rfl|exact .inr ⟨rfl,rfl⟩|exact .inr rfl|(right;symm;assumption)|(symm;assumption)|assumption)) ?_
 rintro x hx
 simp only [go_sem]
 (repeat (with_reducible first|refine W_seq fun K hK=>?_|refine J_region ?_ |refine J_c ?_|(refine Kont.go (by assumption) ?_)|(simp (config:={ maxSteps:=3000000 }) (disch:=omega) only [go_sem])))
 refine Jc_if (fun hxN=>?_) (fun hxN=>?_)<;>try simp only [decide_eq_true_eq,decide_eq_false_iff_not] at hxN
 ·have hxq:x<qs.length:=by rw [h.len];omega
  have g1:=map_get fr qs hxq
  have hww:=where_w h.ok (k:=x) (by omega)
  have g3:=Ns_get (l:=asgL Z l x) (i:=i) (by rw [asgL_len];exact hil)
  rw [asgL_get hil,hiv] at g3
  have hnx:=hPn x
  rw [lget_lt qs 0 hxq] at hnx
  have hc0:=tbA_c0 (r:=4) (l:=Ns m) (P:=(fxP Z l v w qs x).map fr)
  have hTl:=hPl x
  (repeat (with_reducible first|refine W_seq fun K hK=>?_|refine J_block ?_|refine J_skip ?_|refine J_region ?_ |(refine Kont.go (by assumption) ?_)|(simp (config:={ maxSteps:=3000000 }) (disch:=omega) only [go_sem,↓reduceIte,Nat.reduceAdd,g1])))
  (first|refine call_f (hww) rfl ?_|refine callQ_f (hww) rfl ?_|refine callHK_f (hww) rfl ?_|refine callH_f (hww) rfl ?_)
  by_cases hav:asgS (szT Z) l x v=w
  ·rw [if_pos hav] at hnx
   have hav':((asgS (szT Z) l x v:Nat):Int)=(w:Int):=by omega
   have htk:=hnx.symm
   obtain ⟨q,hq⟩:∃q,q=qs[x]:=⟨_,rfl⟩
   rw [←hq] at htk ⊢
   have hTl:=hTl
   have htk':=htk
   obtain ⟨T,hT⟩:∃T,T=(fxP Z l v w qs x).map fr:=⟨_,rfl⟩
   obtain ⟨T',hT'⟩:∃T',T'=(fxP Z l v w qs (x+1)).map fr:=⟨_,rfl⟩
   rw [←hT,←hT'] at htk'
   rw [←hT] at hTl ⊢
   by_cases hT0:T=[]
   ·subst hT0
    have e1:ob 50 3 ([]:List FV)=none:=rfl
    have e2:(fxP Z l v w qs (x+1)).map fr=[fr q]:=by rw [←hT'];exact htk'.symm
    have e3:ob 50 3 [fr q]=some ⟨50,3,[.f (fr q)]⟩:=rfl
    have e4:tbA 4 (Ns m) [fr q]=.agg [.f (.fz 1 (Ns m)),.own 4 3 0 1]:=rfl
    rw [tbA_nil,e1]
    (repeat (first|(with_reducible first|refine J_region ?_ |refine aApp_old ?_|refine J_c ?_|refine Jc_true ?_|(refine Kont.go (by assumption) ?_)|(simp (config:={ maxSteps:=3000000 }) (disch:=omega) only [go_sem,Nat.reduceEqDiff,↓reduceIte,Nat.reduceAdd,Nat.reduceLeDiff,g3,hav']))|refine And.intro (by omega) ?_))
    refine ⟨x+1,by omega,by omega,weak_ren [0,1,2,3,7] ⟨by decide,by first|decide|(simp;done)⟩ ?_ ?_⟩<;>(try simp (disch:=omega) only [go_sem,Nat.reduceAdd,e2,e3,e4,List.map_cons,List.map_nil])<;>(try first|done|omega|rfl|exact ⟨rfl,rfl⟩|trivial)
   ·have hne1:T'≠[]:=by rw [←htk'];simp
    have hln1:T'.length=T.length+1:=by rw [←htk',List.length_append];rfl
    have e1:ob 50 3 T=some ⟨50,3,T.map .f⟩:=ob_pos hT0
    have e2:tbA 4 (Ns m) T=.agg [.f (.fz 1 (Ns m)),.own 4 3 0 T.length]:=tbA_pos hT0
    have e3:ob 50 3 ((fxP Z l v w qs (x+1)).map fr)=some ⟨50,3,T.map .f++[.f (fr q)]⟩:=by rw [←hT',ob_pos hne1,←htk',List.map_append];rfl
    have e4:tbA 4 (Ns m) ((fxP Z l v w qs (x+1)).map fr)=.agg [.f (.fz 1 (Ns m)),.own 4 3 0 (T.length+1)]:=by rw [←hT',tbA_pos hne1,hln1]
    have e5:(T.map AV.f).take T.length=T.map .f:=List.take_of_length_le (by rw [List.length_map];omega)
    have e6:(T.length+1)*40≤140737488355328:=by omega
    rw [e1,e2]
    (repeat (first|(with_reducible first|refine J_region ?_ |refine aApp_old ?_|refine J_c ?_|refine Jc_true ?_|(refine Kont.go (by assumption) ?_)|(simp (config:={ maxSteps:=3000000 }) (disch:=omega) only [go_sem,Nat.reduceEqDiff,↓reduceIte,Nat.reduceAdd,Nat.reduceLeDiff,g3,hav',e5,e6,List.length_map]))|refine And.intro (by omega) ?_))
    refine ⟨x+1,by omega,by omega,weak_ren [0,1,2,3,7] ⟨by decide,by first|decide|(simp;done)⟩ ?_ ?_⟩<;>(try simp (disch:=omega) only [go_sem,Nat.reduceAdd,e3,e4,map_ren_f,List.map_append,List.map_cons,List.map_nil])<;>(try first|done|omega|rfl|exact ⟨rfl,rfl⟩|trivial)
  ·rw [if_neg hav,List.append_nil] at hnx
   have hav':¬((asgS (szT Z) l x v:Nat):Int)=(w:Int):=by omega
   rw [←hnx]
   (repeat (with_reducible first|refine J_skip ?_|refine J_region ?_ |refine J_c ?_|refine Jc_false ?_|(refine Kont.go (by assumption) ?_)|(simp (config:={ maxSteps:=3000000 }) (disch:=omega) only [go_sem,↓reduceIte,g3,hav'])))
   refine ⟨x+1,by omega,by omega,weak_of ?_ ?_⟩<;>(try simp (disch:=omega) only [go_sem,Nat.reduceAdd,tbA_lt (show 4<5 by decide)])<;>(try first|done|omega|rfl|exact ⟨rfl,rfl⟩|trivial)
 ·have he:x=N:=by omega
  rw [he]
  have e1:ob 50 3 ((fxP Z l v w qs N).map fr)=some ⟨50,3,((fxP Z l v w qs N).map fr).map .f⟩:=ob_pos hPne
  have e2:tbA 4 (Ns m) ((fxP Z l v w qs N).map fr)=.agg [.f (.fz 1 (Ns m)),.own 4 3 0 ((fxP Z l v w qs N).map fr).length]:=tbA_pos hPne
  rw [e1,e2]
  (repeat (with_reducible first|refine W_seq fun K hK=>?_|refine J_exit ?_|refine J_ret ?_|refine J_region ?_ |(refine Kont.go (by assumption) ?_)|(simp (config:={ maxSteps:=3000000 }) (disch:=omega) only [go_sem,↓reduceIte,Nat.reduceAdd])))
  exact ⟨_,rfl,FrzL.cons (Frz.aggL (FrzL.cons (.f _) (FrzL.cons (Frz.own0 rfl (by rw [List.length_map])) (FrzL.nil _)))) (FrzL.cons (.f _) (FrzL.nil _))⟩
end Go.Proofs.YtmcgeppgfjlclaaGreatDoor
set_option linter.unusedVariables false
set_option linter.unusedSimpArgs false
namespace Go.Proofs.YtmcgeppgfjlclaaGreatDoor
open Go Go.RowKit
theorem fixT_get {Z l:List Nat} {v w x:Nat} {qs:List Rat} (hx:x<cntS (szT Z) (lessT l v)):(fixT Z l v w qs)[x]?=some (qs.getD (idxS (szT Z) (updS (asgS (szT Z) (lessT l v) x) v w) l) 0):=tblS_get hx
set_option maxRecDepth 100000 in
set_option maxHeartbeats 8000000 in
theorem rfix_w {k:Nat} {Z l:List Nat} {xs:List FV} {qs:List Rat} (h:TbOk k Z l xs qs) (h1:1≤k) (hk:k≤100000) {v w:Nat} (hvZ:v<Z.length) (hwZ:w<szT Z v) :
  Good Tryz.prog 28 [.fz 1 (Ns Z),tabV l xs,I (v:Int),I (w:Int)] (.tup [tabV (lessT l v) ((fixT Z l v w qs).map fr),I 0]):=by
 have hl8:=h.ok.len
 have hz8:=h.ok.z8
 have hcx:=h.ok.cnt
 have hml:=h.ok.less (v:=v)
 have hck:=rtcheck_w h
 have hwo:=rwithout_w l v (by omega) (fun w hw=>by have:=h.ok.lt w hw;omega)
 have hrc:=rcountT_w hml
 have gz:=Ns_get (l:=Z) hvZ
 have hsz:Z.getD v 0=szT Z v:=rfl
 rw [hsz] at gz
 have v0:¬(v:Int)<0:=by omega
 have v1:¬(Z.length:Int)≤(v:Int):=by omega
 have w0:¬(w:Int)<0:=by omega
 have w1:¬((szT Z v:Nat):Int)≤(w:Int):=by omega
 have hpg:=fun x hx=>fixT_get (Z:=Z) (l:=l) (v:=v) (w:=w) (x:=x) (qs:=qs) hx
 have hpl:=fixT_len (Z:=Z) (l:=l) (v:=v) (w:=w) (qs:=qs)
 have huc:=hml.cnt
 have huc1:=hml.cnt1
 have hvm:v∉lessT l v:=fun h=>(mem_lessT.1 h).2 rfl
 obtain ⟨p,hpe⟩:∃p,p=fixT Z l v w qs:=⟨_,rfl⟩
 rw [←hpe] at hpg hpl ⊢
 have hupd:=fun (a:Nat→Nat) ha=>upd_lt (Z:=Z) (l:=l) (v:=v) (a:=a) ha (x:=w) hwZ
 obtain ⟨m,hm⟩:∃m,m=lessT l v:=⟨_,rfl⟩
 rw [←hm] at hml hwo hrc huc huc1 hvm hpg hpl hupd ⊢
 obtain ⟨N,hN⟩:∃N,N=cntS (szT Z) m:=⟨_,rfl⟩
 rw [←hN] at hrc huc huc1 hpg hpl
 refine good_of Tryz.func28 rfl (by kernel_rfl) fun X hO hrd=>?_;rw [Tryz.ntmps28,Tryz.results28];simp only [ast0,List.map_cons,List.map_nil,List.length_cons,List.length_nil,Nat.reduceAdd,Nat.reduceSub,List.replicate_succ,List.replicate_zero,List.cons_append,List.nil_append]
 (repeat (with_reducible first|refine W_seq fun K hK=>?_|refine J_region ?_ |(refine Kont.go (by assumption) ?_)|(simp (config:={ maxSteps:=3000000 }) (disch:=omega) only [go_sem,↓reduceIte,Nat.reduceAdd])))
 (first|refine call_f (hck) rfl ?_|refine callQ_f (hck) rfl ?_|refine callHK_f (hck) rfl ?_|refine callH_f (hck) rfl ?_)
 (repeat (with_reducible first|refine W_seq fun K hK=>?_|refine J_skip ?_|refine J_region ?_ |refine J_c ?_|refine Jc_false ?_|(refine Kont.go (by assumption) ?_)|(simp (config:={ maxSteps:=3000000 }) (disch:=omega) only [go_sem,↓reduceIte,v0,v1,w0,w1,gz,Ns_len])))
 (first|refine call_f (hwo) rfl ?_|refine callQ_f (hwo) rfl ?_|refine callHK_f (hwo) rfl ?_|refine callH_f (hwo) rfl ?_)
 (repeat (with_reducible first|refine W_seq fun K hK=>?_|(refine Kont.go (by assumption) ?_)|(simp (config:={ maxSteps:=3000000 }) (disch:=omega) only [go_sem,Nat.reduceEqDiff,↓reduceIte,Nat.reduceAdd,Nat.reduceLeDiff])))
 refine J_reserve ?_
 simp only [go_sem]
 have h00:AV.f (.agg [.fz 1 (Ns m),.v (.slice none 0 0)])=tbA 3 (Ns m) ((p.take 0).map fr):=rfl
 (repeat (with_reducible first|refine J_region ?_ |(simp (config:={ maxSteps:=3000000 }) (disch:=omega) only [go_sem,↓reduceIte])))
 (first|refine call_f (hrc) rfl ?_|refine callQ_f (hrc) rfl ?_|refine callHK_f (hrc) rfl ?_|refine callH_f (hrc) rfl ?_)
 (repeat (with_reducible first|refine W_seq fun K hK=>?_|refine J_block ?_|refine J_region ?_ |(refine Kont.go (by assumption) ?_)|(simp (config:={ maxSteps:=3000000 }) (disch:=omega) only [go_sem])))
 refine J_mask [49] (by refine weak_of ?_ ?_<;>simp (disch:=omega) only [go_sem,Nat.reduceAdd]<;>first|rfl|exact ⟨rfl,rfl⟩|exact Or.inl rfl|exact ⟨Or.inl rfl,Or.inl rfl⟩|trivial|assumption|omega|(symm;assumption)|((repeat' apply And.intro)<;>first|rfl|omega|trivial|exact .inr ⟨rfl,rfl⟩|exact .inr rfl|(right;symm;assumption)|(symm;assumption)|assumption)) ?_;simp only [go_sem]
 rw [h00]
 refine W_loop [14,15,16,17,57,58,59,60,61,62,63,64,65,66,67,68,69,70,71,72,73,74,75,76,77,78,79,80,81,82,83,84,85,86,87,88,89,90] (fun x:Nat=>[(14,.f (I x))]) (fun x:Nat=>[oT (tabV l xs),oT tab0,some ⟨27,2,[tbA 3 (Ns m) ((p.take x).map fr)]⟩,ob 50 3 ((p.take x).map fr)]) (fun x:Nat=>x≤N) (fun x:Nat=>N-x) (0) (Nat.zero_le _) (by refine weak_of ?_ ?_<;>simp (disch:=omega) only [go_sem,Nat.reduceAdd]<;>first|rfl|exact ⟨rfl,rfl⟩|exact Or.inl rfl|exact ⟨Or.inl rfl,Or.inl rfl⟩|trivial|assumption|omega|(symm;assumption)|((repeat' apply And.intro)<;>first|rfl|omega|trivial|exact .inl rfl|exact .inr ⟨rfl,rfl⟩|exact .inr rfl|(right;symm;assumption)|(symm;assumption)|assumption)) ?_
 rintro x hx
 simp only [go_sem]
 (repeat (with_reducible first|refine W_seq fun K hK=>?_|refine J_region ?_ |refine J_c ?_|(refine Kont.go (by assumption) ?_)|(simp (config:={ maxSteps:=3000000 }) (disch:=omega) only [go_sem])))
 refine Jc_if (fun hxN=>?_) (fun hxN=>?_)<;>try simp only [decide_eq_true_eq,decide_eq_false_iff_not] at hxN
 ·have hxu:x<cntS (szT Z) m:=by omega
  have hpx:=hpg x hxN
  have hw:=rwhere_w hml hxu
  have hsp:=rspread_w (k:=x) hml
  have va:=fun u hu=>asgS_lt (S:=szT Z) (k:=x) (v:=u) hml.nd hml.pos hxu hu
  have ha0:asgS (szT Z) m x v=0:=asgS_out hvm
  obtain ⟨a,hae⟩:∃a,a=asgS (szT Z) m x:=⟨_,rfl⟩
  have hsl:spL Z m x=(List.range Z.length).map (updS a v 0):=by unfold spL;rw [hae,upd_zero ha0]
  rw [←hae] at va hpx
  rw [hsl] at hsp
  have hub:=hupd a (fun u hu=>va u hu)
  have iy:=idxS_lt (S:=szT Z) hub
  obtain ⟨i,hi⟩:∃i,i=idxS (szT Z) (updS a v w) l:=⟨_,rfl⟩
  rw [←hi] at iy hpx
  rw [←h.len] at iy
  obtain ⟨g,n,d,x1,f1⟩:=h.fr.at3 iy
  rw [lget_lt qs 0 iy] at hpx
  have c1:=rcell_w h hub (by rw [←hi];exact x1)
  have hca:=rcanon_w f1 (by omega)
  have htk:=take_frs hpx
  obtain ⟨q,hq⟩:∃q,q=qs[i]:=⟨_,rfl⟩
  have hqx:fr qs[i]=fr q:=by rw [hq]
  rw [←hq] at htk
  have hPl:((p.take x).map fr).length=x:=by rw [List.length_map,List.length_take];omega
  have hlA:∀y,((List.range Z.length).map (updS a v y)).length=Z.length:=fun y=>by simp
  have hst:((Ns ((List.range Z.length).map (updS a v 0))).map AV.f).set v (.f (I (w:Int)))=(Ns ((List.range Z.length).map (updS a v w))).map AV.f:=by rw [←List.map_set,Ns_set,upd_set hvZ]
  have hwl:((Ns ((List.range Z.length).map (updS a v 0))).map AV.f).length=Z.length:=by rw [List.length_map,Ns_len,hlA]
  have hgw:((Ns ((List.range Z.length).map (updS a v 0))).map AV.f)[v]?=some (.f (I ((((List.range Z.length).map (updS a v 0)).getD v 0:Nat):Int))):=by rw [List.getElem?_map,Ns_get (by rw [hlA];exact hvZ)];rfl
  have hc0:=tbA_c0 (r:=3) (l:=Ns m) (P:=(p.take x).map fr)
  (repeat (with_reducible first|refine W_seq fun K hK=>?_|refine J_block ?_|refine J_skip ?_|refine J_region ?_ |(refine Kont.go (by assumption) ?_)|(simp (config:={ maxSteps:=3000000 }) (disch:=omega) only [go_sem,↓reduceIte,hc0])))
  (first|refine call_f (hw) rfl ?_|refine callQ_f (hw) rfl ?_|refine callHK_f (hw) rfl ?_|refine callH_f (hw) rfl ?_)
  (repeat (with_reducible first|refine W_seq fun K hK=>?_|refine J_region ?_ |(refine Kont.go (by assumption) ?_)|(simp (config:={ maxSteps:=3000000 }) (disch:=omega) only [go_sem,↓reduceIte,hc0])))
  refine call_o hsp (FrzL.fs [_,_,_]) ?_
  (repeat (with_reducible first|refine W_seq fun K hK=>?_|refine J_region ?_ |(refine Kont.go (by assumption) ?_)|(simp (config:={ maxSteps:=3000000 }) (disch:=omega) only [go_sem,↓reduceIte,Nat.reduceAdd,Ns_len,hlA,hst,hgw,hvZ])))
  refine call_fl c1 (flat_frR _ _ _) (FrzL.cons (.f _) (FrzL.cons (.f _) (FrzL.cons (Frz.own0 rfl (by rw [Ns_len,hlA])) (FrzL.nil _)))) ?_
  (repeat (first|(with_reducible first|refine W_seq fun K hK=>?_|((fail_if_success refine J_region (id:=18) ?_);refine J_region ?_) |(refine Kont.go (by assumption) ?_)|(simp (config:={ maxSteps:=3000000 }) (disch:=omega) only [go_sem,↓reduceIte,Nat.reduceAdd]))|refine call_f (rcanon_w (by assumption) (by omega)) rfl ?_))
  rw [hqx]
  by_cases x0:x=0
  ·subst x0
   have e1:ob 50 3 ((p.take 0).map fr)=none:=rfl
   have e2:(p.take (0+1)).map fr=[fr q]:=htk.symm
   have e3:ob 50 3 [fr q]=some ⟨50,3,[.f (fr q)]⟩:=rfl
   have e4:tbA 3 (Ns m) [fr q]=.agg [.f (.fz 1 (Ns m)),.own 3 3 0 1]:=rfl
   rw [←h00,e1]
   (repeat (first|(with_reducible first|refine J_region ?_ |refine aApp_old ?_|(refine Kont.go (by assumption) ?_)|(simp (config:={ maxSteps:=3000000 }) (disch:=omega) only [go_sem,Nat.reduceEqDiff,↓reduceIte,Nat.reduceAdd,Nat.reduceLeDiff,Int.reduceAdd]))|refine And.intro (by omega) ?_))
   refine ⟨0+1,by omega,by omega,weak_ren [0,1,2,7] ⟨by decide,by first|decide|(simp;done)⟩ ?_ ?_⟩<;>(try simp (disch:=omega) only [go_sem,Nat.reduceAdd,e2,e3,e4,List.map_cons,List.map_nil])<;>(try first|done|omega|rfl|exact ⟨rfl,rfl⟩|trivial)
  ·have hne:(p.take x).map fr≠[]:=fun h=>by have:=hPl;rw [h,List.length_nil] at this;omega
   have hne1:(p.take (x+1)).map fr≠[]:=by rw [←htk];simp
   have hln1:((p.take (x+1)).map fr).length=x+1:=by rw [←htk,List.length_append,hPl];rfl
   obtain ⟨T,hT⟩:∃T,T=(p.take x).map fr:=⟨_,rfl⟩
   rw [←hT] at hne hPl htk ⊢
   have e1:ob 50 3 T=some ⟨50,3,T.map .f⟩:=ob_pos hne
   have e2:tbA 3 (Ns m) T=.agg [.f (.fz 1 (Ns m)),.own 3 3 0 x]:=by rw [tbA_pos hne,hPl]
   have e3:ob 50 3 ((p.take (x+1)).map fr)=some ⟨50,3,T.map .f++[.f (fr q)]⟩:=by rw [ob_pos hne1,←htk,List.map_append];rfl
   have e4:tbA 3 (Ns m) ((p.take (x+1)).map fr)=.agg [.f (.fz 1 (Ns m)),.own 3 3 0 (x+1)]:=by rw [tbA_pos hne1,hln1]
   have e5:(T.map AV.f).take x=T.map .f:=List.take_of_length_le (by rw [List.length_map];omega)
   have e6:(x+1)*40≤140737488355328:=by omega
   rw [e1,e2]
   (repeat (first|(with_reducible first|refine J_region ?_ |refine aApp_old ?_|(refine Kont.go (by assumption) ?_)|(simp (config:={ maxSteps:=3000000 }) (disch:=omega) only [go_sem,Nat.reduceEqDiff,↓reduceIte,Nat.reduceAdd,Nat.reduceLeDiff,hPl,e5,e6,List.length_map]))|refine And.intro (by omega) ?_))
   refine ⟨x+1,by omega,by omega,weak_ren [0,1,2,7] ⟨by decide,by first|decide|(simp;done)⟩ ?_ ?_⟩<;>(try simp (disch:=omega) only [go_sem,Nat.reduceAdd,e3,e4,map_ren_f,List.map_append,List.map_cons,List.map_nil])<;>(try first|done|omega|rfl|exact ⟨rfl,rfl⟩|trivial)
 ·have he:x=N:=by omega
  subst he
  have hne:p.map fr≠[]:=fun h=>by have:=congrArg List.length h;rw [List.length_map,List.length_nil] at this;omega
  rw [List.take_of_length_le (by omega)]
  have e1:ob 50 3 (p.map fr)=some ⟨50,3,(p.map fr).map .f⟩:=ob_pos hne
  have e2:tbA 3 (Ns m) (p.map fr)=.agg [.f (.fz 1 (Ns m)),.own 3 3 0 (p.map fr).length]:=tbA_pos hne
  rw [e1,e2]
  (repeat (with_reducible first|refine W_seq fun K hK=>?_|refine J_exit ?_|refine J_ret ?_|refine J_region ?_ |(refine Kont.go (by assumption) ?_)|(simp (config:={ maxSteps:=3000000 }) (disch:=omega) only [go_sem,↓reduceIte,Nat.reduceAdd])))
  exact ⟨_,rfl,FrzL.cons (Frz.aggL (FrzL.cons (.f _) (FrzL.cons (Frz.own0 rfl (by rw [List.length_map])) (FrzL.nil _)))) (FrzL.cons (.f _) (FrzL.nil _))⟩
end Go.Proofs.YtmcgeppgfjlclaaGreatDoor
