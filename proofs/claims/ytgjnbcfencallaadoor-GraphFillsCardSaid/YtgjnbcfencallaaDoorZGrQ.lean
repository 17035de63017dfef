/- Fill: walked. Conditions: what slices may hold. -/
import Derived.Test.YtgjnbcfencallaaDoorZB10
import Derived.Test.YtgjnbcfencallaaDoorZB11
set_option linter.unusedVariables false
set_option linter.unusedSimpArgs false
namespace Go.Proofs.YtgjnbcfencallaaDoor
open Go Go.RowKit
def oF (P:List Nat) (n k:Nat):List FV:=Ns ((List.range k).map (fB P (lft n)))
def bF (P:List Nat) (n k:Nat):List FV:=gvs ((List.range k).map (fBag P (lft n)))
section
variable {P : List Nat} {n k : Nat}
theorem oF_len:(oF P n k).length=k:=by unfold oF;rw [Ns_len];simp
theorem bF_len:(bF P n k).length=k:=by unfold bF;rw [gvs_len];simp
theorem oF_next:oF P n k++[I ((fB P (lft n) k:Nat):Int)]=oF P n (k+1):=by
 unfold oF;rw [List.range_succ,List.map_append];exact Ns_snoc
theorem bF_next:bF P n k++[.fz 1 (Ns (els (fBag P (lft n) k)))]=bF P n (k+1):=by
 unfold bF;rw [List.range_succ,List.map_append];unfold gvs;rw [List.map_append];rfl
theorem bF_ne:bF P n (k+1)≠[]:=fun e=>by have:=congrArg List.length e;rw [bF_len] at this;cases this
end
def badO:AO:=⟨0,1,[.tup []]⟩
def rpostP (T:List AV) (H:AH) (I:Prop) (Qr:AS→Prop):Exit→AS→Prop
 | .normal,s=>Weak s ⟨T,H⟩∧I
 | .ret,s=>∃H',Weak s ⟨T,H'⟩∧Qr ⟨T,H'⟩
 | _,_=>False
section
variable {P : Program} {X : Cx} {s : AS}
theorem J_mask (ws:List Nat) {c:Code} {Q:Exit→AS→Prop} {t:List AV} {H:AH} (hw:Weak ⟨t,H⟩ ⟨msk ws t,H⟩) (hJ:J X P c Q ⟨msk ws t,H⟩):J X P c Q ⟨t,H⟩:=J_weak hw hJ
theorem J_bad {c:Code} {Q:Exit→AS→Prop} (h:s.H[0]?=some (some badO)):J X P c Q s:=fun hk a w ⟨F,loc,R⟩=>by
 obtain ⟨hu,_⟩:=R.obj 0 _ h
 have:=(hu (.tup []) (List.mem_singleton.2 rfl)).2
 cases this
open Classical in
theorem J_rangeP (hrd:X.rd=none) (ws:List Nat) (hp:Nat→AH) (I:Nat→Prop) {g:Operand} {p:Tmp} {assign body:Code} {Q:Exit→AS→Prop} {gf:FuncId} {sv:Value} {xs:List Int} {t:List AV} {H:AH} (h0:I 0)
  (hg:AS.ev ⟨t,H⟩ g=.fn gf [.f (.v sv)] []) (hit:IterW P gf #[sv] xs) (hok:enterOk P gf=true) (hw:Weak ⟨t,H⟩ ⟨msk ws t,hp 0⟩) (hpw:kpOf ws p=false) (hka:okC (kpOf ws) assign=true) (hkb:okC (kpOf ws) body=true)
  (hQb:∀s,s.H[0]?=some (some badO)→Q .normal s)
  (round:∀(i:Nat) x,xs[i]?=some x→I i→∀X1:Cx,X1.kp=kpOf ws→∀K:AS→Prop,Kont K (fun s'=>∀X2:Cx,X2.kp=kpOf ws→J X2 P body (rpostP (msk ws t) (hp (i+1)) (I (i+1)) (Q .ret)) s')→J X1 P assign (athen K fun _ _=>False) ⟨(msk ws t).set p (.f (.v (.int .i64 x))),hp i⟩)
  (hQ:I xs.length→Q .normal ⟨msk ws t,hp xs.length⟩):J X P (.rangeFunc g #[p] assign body) Q ⟨t,H⟩:=by
 refine J_rangeW hrd ws (fun i=>if I i then hp i else [some badO]) hg hit hok (by rw [if_pos h0];exact hw) hpw hka hkb (fun i x hx X1 hX1 K hK=>?_) ?_
 ·by_cases hi:I i
  ·rw [if_pos hi]
   refine round i x hx hi X1 hX1 K fun s' hs'=>hK s' fun X2 hX2=>J_mono (hs' X2 hX2) fun e s hq=>?_
   cases e with
   | normal =>
    obtain ⟨h1,h2⟩:=hq
    show Weak s ⟨_,_⟩
    rw [if_pos h2];exact h1
   | ret=>exact hq
   | _=>exact hq
  ·rw [if_neg hi]
   exact J_bad rfl
 ·by_cases hi:I xs.length
  ·rw [if_pos hi];exact hQ hi
  ·rw [if_neg hi];exact hQb _ rfl
end
set_option maxRecDepth 100000 in
set_option maxHeartbeats 8000000 in
theorem Fill_w (L:List (List Int)) (hL:OkIss L):Good Tryd.prog 20 [.fz 1 (L.map ints)] (.tup [.fz 1 (Ns (filO L)),.fz 1 (gvs (filB L)),I (filE L)]):=by
 have hrs0:=reads_w L hL
 obtain ⟨vO,hvO⟩:∃vO,vO=filO L:=⟨_,rfl⟩
 obtain ⟨vB,hvB⟩:∃vB,vB=filB L:=⟨_,rfl⟩
 obtain ⟨vE,hvE⟩:∃vE,vE=filE L:=⟨_,rfl⟩
 rw [←hvO,←hvB,←hvE]
 have bad:¬(listsB L=true∧symB L=true)→vO=[]∧vB=[]∧vE=11:=fun h=>by
  rw [hvO,hvB,hvE]
  unfold filO filB filE
  rw [if_neg h,if_neg h,if_neg h]
  exact ⟨rfl,rfl,rfl⟩
 have g0:gvs []=[]:=rfl
 have n0:Ns []=[]:=rfl
 refine good_of Tryd.func20 rfl (by kernel_rfl) fun X hO hrd=>?_;rw [Tryd.ntmps20,Tryd.results20];simp only [ast0,List.map_cons,List.map_nil,List.length_cons,List.length_nil,Nat.reduceAdd,Nat.reduceSub,List.replicate_succ,List.replicate_zero,List.cons_append,List.nil_append]
 (repeat (with_reducible first|refine W_seq fun K hK=>?_|refine J_region ?_|(refine Kont.go (by assumption) ?_)|(simp (config:={ maxSteps:=3000000 }) (disch:=omega) only [go_sem,Nat.reduceAdd])))
 refine call_ot hrs0 (FrzL.fs [_]) ?_
 cases hb:listsB L with
 | false =>
  obtain ⟨e1,e2,e3⟩:=bad (by rw [hb];simp)
  have e4:rdR L=.f nilV:=by unfold rdR;rw [hb];rfl
  rw [e4]
  (repeat (with_reducible first|refine W_seq fun K hK=>?_|refine J_ret ?_|refine J_region ?_|refine J_c ?_|refine Jc_true ?_|(refine Kont.go (by assumption) ?_)|(simp (config:={ maxSteps:=3000000 }) (disch:=omega) only [go_sem,↓reduceIte,Nat.reduceAdd])))
  rw [e1,e2,e3,g0,n0]
  exact ⟨_,rfl,FrzL.cons (.nil _) (FrzL.cons (.nil _) (FrzL.cons (.f _) (FrzL.nil _)))⟩
 | true =>
  have hg:=GP.of hb
  have e4:rdR L=.own 56 1 ((setsOf L).map U):=by unfold rdR;rw [hb];rfl
  rw [e4]
  have hsy:symB L=(List.range L.length).all fun v=>(els ((setsOf L).getD v 0)).all fun u=>((setsOf L).getD u 0).testBit v:=rfl
  have hok:=fun h=>symB_ok (L:=L) hb h
  obtain ⟨P,hP⟩:∃P,P=setsOf L:=⟨_,rfl⟩
  obtain ⟨n,hn⟩:∃n,n=L.length:=⟨_,rfl⟩
  rw [←hP,←hn] at hg hok hsy
  rw [←hP]
  have hl:=hg.len
  have hn8:=hg.n8
  have hgp:∀v,v<n→((P.map U).map AV.f)[v]?=some (.f (U (P.getD v 0))):=fun v hv=>by rw [List.getElem?_map,sets_get (by omega)];rfl
  have hpl:((P.map U).map AV.f).length=n:=by rw [List.length_map,List.length_map,hl]
  (repeat (with_reducible first|refine W_seq fun K hK=>?_|refine J_block ?_|refine J_skip ?_|refine J_region ?_|refine J_c ?_|refine Jc_false ?_|(refine Kont.go (by assumption) ?_)|(simp (config:={ maxSteps:=3000000 }) (disch:=omega) only [go_sem,↓reduceIte,Nat.reduceAdd,List.length_map,hl])))
  refine W_loop [7,8,9,28,29,30,31,32,33,34,35,36,37,38,39,40,41,42,43] (fun x:Nat=>[(19,.any),(21,.any),(28,.f (I x))]) (fun x:Nat=>[some ⟨23,1,[.f nilV]⟩,some ⟨22,1,[.f nilV]⟩,some ⟨25,1,[.f (I 0)]⟩,some ⟨56,1,(P.map U).map .f⟩,some ⟨52,1,[.own 3 1 0 n]⟩]) (fun x:Nat=>x≤n∧∀j,j<x→∀u,paO P u j=true→paO P j u=true) (fun x:Nat=>n-x) (0) (⟨Nat.zero_le _,fun j h=>by omega⟩) (by refine weak_of ?_ ?_<;>simp (disch:=omega) only [go_sem,Nat.reduceAdd]<;>first|rfl|exact ⟨rfl,rfl⟩|exact Or.inl rfl|exact ⟨Or.inl rfl,Or.inl rfl⟩|trivial|assumption|omega|(symm;assumption)|((repeat' apply And.intro)<;>first|rfl|omega|trivial|exact .inl rfl|exact .inr ⟨rfl,rfl⟩|exact .inr rfl|(right;symm;assumption)|(symm;assumption)|assumption)) ?_
  rintro v ⟨hv,hp⟩
  simp only [go_sem]
  (repeat (with_reducible first|refine W_seq fun K hK=>?_|refine J_region ?_|refine J_c ?_|(refine Kont.go (by assumption) ?_)|(simp (config:={ maxSteps:=3000000 }) (disch:=omega) only [go_sem])))
  refine Jc_if (fun hvn=>?_) (fun hvn=>?_)<;>try simp only [decide_eq_true_eq,decide_eq_false_iff_not] at hvn
  ·have gv:=hgp v hvn
   have hit:=all_iter (P.getD v 0) hg.lt8
   (repeat (first|(with_reducible first|refine W_seq fun K hK=>?_|refine J_block ?_|refine J_skip ?_|refine J_region ?_|(refine Kont.go (by assumption) ?_)|(simp (config:={ maxSteps:=3000000 }) (disch:=omega) only [go_sem,↓reduceIte,Nat.reduceAdd,gv]))|refine And.intro (by omega) ?_))
   refine J_rangeP hrd [9,35,36,37,38,39,40,41,42] (fun i=>[some ⟨23,1,[.f nilV]⟩,some ⟨22,1,[.f nilV]⟩,some ⟨25,1,[.f (I 0)]⟩,some ⟨56,1,(P.map U).map .f⟩,some ⟨52,1,[.own 3 1 0 n]⟩,some ⟨3,1,[.f (I (v:Int))]⟩]) (fun i=>∀u∈(els (P.getD v 0)).take i,paO P v u=true) (by simp) rfl (hit) (by kernel_rfl) (by refine weak_of ?_ ?_<;>simp (disch:=omega) only [go_sem,Nat.reduceAdd]<;>first|rfl|exact ⟨rfl,rfl⟩|trivial|((repeat' apply And.intro)<;>first|rfl|trivial|exact .inl rfl|exact .inr ⟨rfl,rfl⟩|exact .inr rfl)) (by decide) (by kernel_rfl) (by kernel_rfl) (fun s h=>by simp only [go_sem];exact Kont.go (by assumption) (J_bad h)) ?_ ?_
   ·rintro i y hy hI X1 hX1 K hK
    obtain ⟨u,rfl,hu8,hus,hui,htk⟩:=els_take hy
    have hun:=(hg.pa u v hus).1
    have gu:=hgp u hun
    have hh:=has_w (s:=P.getD u 0) (v:=v) hg.lt8 (by omega)
    simp only [go_sem]
    (repeat (with_reducible first|refine J_region ?_|(refine Kont.go (by assumption) ?_)|(simp (config:={ maxSteps:=3000000 }) (disch:=omega) only [go_sem])))
    intro X2 hX2
    (repeat (first|(with_reducible first|refine W_seq fun K hK=>?_|refine J_block ?_|refine J_drawn mixed (by kernel_rfl) ?_|(simp (config:={ maxSteps:=3000000 }) (disch:=omega) only [go_sem,↓reduceIte,gu]))|refine And.intro (by omega) ?_))
    (first|refine call_f (hh) rfl ?_|refine callQ_f (hh) rfl ?_|refine callHK_f (hh) rfl ?_|refine callH_f (hh) rfl ?_)
    cases hbt:(P.getD u 0).testBit v with
    | true =>
     have hI':∀u∈(els (P.getD v 0)).take (i+1),paO P v u=true:=fun w hw=>by
      rw [←htk] at hw
      rcases List.mem_append.1 hw with hw|hw
      ·exact hI w hw
      ·rw [List.mem_singleton.1 hw];exact hbt
     (repeat (with_reducible first|refine J_skip ?_|refine J_c ?_|refine Jc_false ?_|(refine Kont.go (by assumption) ?_)|(simp (config:={ maxSteps:=3000000 }) (disch:=omega) only [go_sem])))
     refine ⟨weak_of ?_ ?_,hI'⟩<;>(try simp (disch:=omega) only [go_sem,Nat.reduceAdd])<;>(try first|done|omega|rfl|exact ⟨rfl,rfl⟩|trivial)
    | false =>
     have hbd:symB L=false:=by
      rw [hsy,List.all_eq_false]
      refine ⟨v,List.mem_range.2 hvn,?_⟩
      rw [Bool.not_eq_true,List.all_eq_false]
      exact ⟨u,List.mem_of_getElem? hui,by rw [hbt];decide⟩
     obtain ⟨e1,e2,e3⟩:=bad (by rw [hbd];simp)
     (repeat (with_reducible first|refine W_seq fun K hK=>?_|refine J_ret ?_|refine J_region ?_|refine J_c ?_|refine Jc_true ?_|(refine Kont.go (by assumption) ?_)|(simp (config:={ maxSteps:=3000000 }) (disch:=omega) only [go_sem,↓reduceIte])))
     refine ⟨[some ⟨23,1,[.f nilV]⟩,some ⟨22,1,[.f nilV]⟩,some ⟨25,1,[.f (I 11)]⟩,none,none,none],weak_of ?_ ?_,?_⟩<;>(try simp (disch:=omega) only [go_sem,Nat.reduceAdd])<;>(try first|done|omega|rfl|exact ⟨rfl,rfl⟩|trivial)
     (skip)
     rw [e1,e2,e3,g0,n0]
     exact ⟨_,rfl,FrzL.cons (.nil _) (FrzL.cons (.nil _) (FrzL.cons (.f _) (FrzL.nil _)))⟩
   ·have hel:((els (P.getD v 0)).map Int.ofNat).length=(els (P.getD v 0)).length:=by rw [List.length_map]
    rw [hel,List.take_length]
    intro hI
    have hI2:∀u,paO P u v=true→paO P v u=true:=fun u hu=>hI u (els_mem.2 ⟨by have:=(hg.pa u v hu).1;omega,hu⟩)
    simp only [go_sem]
    (repeat (with_reducible first|refine J_region ?_|(refine Kont.go (by assumption) ?_)|(simp (config:={ maxSteps:=3000000 }) (disch:=omega) only [go_sem])))
    refine ⟨v+1,⟨by omega,upto_next (p:=fun j=>∀u,paO P u j=true→paO P j u=true) hp hI2⟩,by omega,weak_of ?_ ?_⟩<;>(try simp (disch:=omega) only [go_sem,Nat.reduceAdd])<;>(try first|done|omega|rfl|exact ⟨rfl,rfl⟩|trivial)
  ·have he:v=n:=by omega
   subst he
   have hsyt:symB L=true:=by
    rw [hsy,List.all_eq_true]
    intro a ha
    rw [List.all_eq_true]
    intro u hu
    exact hp a (List.mem_range.1 ha) u (els_mem.1 hu).2
   have hGr:=hok hsyt
   have hF:=FOk.all (left0:=lft v) hGr (fun u=>lft_bit hn8) (lft_lt hn8)
   have e1:vO=(List.range v).map (fB P (lft v)):=by rw [hvO];unfold filO;rw [if_pos ⟨hb,hsyt⟩,←hP,←hn]
   have e2:vB=(List.range v).map (fBag P (lft v)):=by rw [hvB];unfold filB;rw [if_pos ⟨hb,hsyt⟩,←hP,←hn]
   have e3:vE=0:=by rw [hvE];unfold filE;rw [if_pos ⟨hb,hsyt⟩]
   have hlf:=lft_shl v hn8
   (repeat (with_reducible first|refine W_seq fun K hK=>?_|refine J_block ?_|refine J_exit ?_|refine J_region ?_|(refine Kont.go (by assumption) ?_)|(simp (config:={ maxSteps:=3000000 }) (disch:=omega) only [go_sem,↓reduceIte,Nat.reduceAdd,hlf])))
   refine J_reserve ?_
   refine J_reserve ?_
   simp only [go_sem]
   have hfs0:P=(fS P (lft v) 0).1:=rfl
   have hS0:((P.map U).map AV.f)=(((fS P (lft v) 0).1.map U).map .f):=rfl
   have hL0:U (lft v)=U (fS P (lft v) 0).2:=rfl
   refine W_loop [10,11,13,14,15,16,17,18,48,49,50,51,52,53,54,55,56,57,58,59,60,61,62,63,64,65,66,67,68,69,70,71,72,73,74,75,76,77,78,79,80,81,82,83,84,85,86,87,88,89,90,91,92,93,94,95,96,97,98,99,100,101,102,103,104] (fun k:Nat=>[(10,sl 6 1 (oF P v k)),(11,sl 7 1 (bF P v k))]) (fun k:Nat=>[some ⟨23,1,[.f nilV]⟩,some ⟨22,1,[.f nilV]⟩,some ⟨25,1,[.f (I 0)]⟩,some ⟨56,1,((fS P (lft v) k).1.map U).map .f⟩,some ⟨52,1,[.own 3 1 0 v]⟩,some ⟨56,1,[.f (U (fS P (lft v) k).2)]⟩,ob 3 1 (oF P v k),ob 23 1 (bF P v k)]) (fun k:Nat=>k≤v) (fun k:Nat=>v-k) (0) (Nat.zero_le _) (by refine weak_of ?_ ?_<;>simp (disch:=omega) only [go_sem,Nat.reduceAdd]<;>first|rfl|exact ⟨rfl,rfl⟩|exact Or.inl rfl|exact ⟨Or.inl rfl,Or.inl rfl⟩|trivial|assumption|omega|(symm;assumption)|((repeat' apply And.intro)<;>first|rfl|omega|trivial|exact .inl rfl|exact .inr ⟨rfl,rfl⟩|exact .inr rfl|(right;symm;assumption)|(symm;assumption)|assumption)) ?_
   rintro k hk
   have hFk:=hF k hk
   obtain ⟨l,hl'⟩:∃l,l=(fS P (lft v) k).1:=⟨_,rfl⟩
   obtain ⟨left,hleft⟩:∃left,left=(fS P (lft v) k).2:=⟨_,rfl⟩
   rw [←hl',←hleft]
   have hgr:=hFk.gr
   have hlt:=hFk.lt
   rw [←hl'] at hgr
   rw [←hleft] at hlt
   have hgl:=hgr.len
   simp only [go_sem]
   (repeat (with_reducible first|refine W_seq fun K hK=>?_|refine J_region ?_|refine J_c ?_|(refine Kont.go (by assumption) ?_)|(simp (config:={ maxSteps:=3000000 }) (disch:=omega) only [go_sem,↓reduceIte])))
   by_cases hl0:left=0
   ·have hkv:k=v:=by
     rcases Nat.lt_or_ge k v with h|h
     ·have:=hFk.ne h;rw [←hleft] at this;exact absurd hl0 this
     ·omega
    subst hkv
    (repeat (with_reducible first|refine W_seq fun K hK=>?_|refine J_exit ?_|refine J_ret ?_|refine J_region ?_|refine Jc_false ?_|(refine Kont.go (by assumption) ?_)|(simp (config:={ maxSteps:=3000000 }) (disch:=omega) only [go_sem,↓reduceIte,hl0])))
    rw [e1,e2,e3]
    exact ⟨_,rfl,FrzL.cons (.sl rfl) (FrzL.cons (.sl rfl) (FrzL.cons (.f _) (FrzL.nil _)))⟩
   ·have hkv:k<v:=by
     rcases Nat.lt_or_ge k v with h|h
     ·exact h
     ·have e:k=v:=by omega
      subst e
      have:=hFk.end;rw [←hleft] at this;exact absurd this hl0
    have hit:=all_iter left hlt
    have hell:=els_len (s:=left)
    have hbB:=hFk.best hkv
    rw [←hl',←hleft] at hbB
    have hgb:∀u,u<v→((l.map U).map AV.f)[u]?=some (.f (U (l.getD u 0))):=fun u hu=>by rw [List.getElem?_map,sets_get (by omega)];rfl
    have hml:((l.map U).map AV.f).length=v:=by rw [List.length_map,List.length_map,hgl]
    have hb64:=fun i=>bA_le (l:=l) (left:=left) i
    (repeat (with_reducible first|refine W_seq fun K hK=>?_|refine J_block ?_|refine J_skip ?_|refine J_region ?_|refine Jc_true ?_|(refine Kont.go (by assumption) ?_)|(simp (config:={ maxSteps:=3000000 }) (disch:=omega) only [go_sem,↓reduceIte,Nat.reduceAdd,Int.reduceNeg,hl0])))
    refine J_rangeW hrd [15,16,52,53,54,55,56,57,58,59,60,61,62,63,64,65,66,67,68,69] (fun i=>[some ⟨23,1,[.f nilV]⟩,some ⟨22,1,[.f nilV]⟩,some ⟨25,1,[.f (I 0)]⟩,some ⟨56,1,(l.map U).map .f⟩,some ⟨52,1,[.own 3 1 0 v]⟩,some ⟨56,1,[.f (U left)]⟩,ob 3 1 (oF P v k),ob 23 1 (bF P v k),some ⟨3,1,[.f (I (bA l left i).1)]⟩,some ⟨3,1,[.f (I ((bA l left i).2:Nat))]⟩]) rfl (hit) (by kernel_rfl) (by refine weak_of ?_ ?_<;>simp (disch:=omega) only [go_sem,Nat.reduceAdd]<;>first|rfl|exact ⟨rfl,rfl⟩|trivial|((repeat' apply And.intro)<;>first|rfl|trivial|exact .inl rfl|exact .inr ⟨rfl,rfl⟩|exact .inr rfl)) (by decide) (by kernel_rfl) (by kernel_rfl) ?_ ?_
    ·rintro i y hy X1 hX1 K hK
     obtain ⟨u,rfl,hu8,hus,hui,htk⟩:=els_take hy
     have huv:u<v:=by
      have:=hFk.left u
      rw [←hleft,hus] at this
      exact of_decide_eq_true (Bool.and_eq_true_iff.1 this.symm).1
     have gu:=hgb u huv
     have han:=u_and hgr.lt hlt (a:=l.getD u 0) (b:=left)
     have hlc:=lacks_w (l:=l) (s:=l.getD u 0&&&left) (fun v=>hgr.lt) (by omega) (and_lt hgr.lt) (fun w hw=>by rw [Nat.testBit_and] at hw;rw [hgl];exact hgr.below u w (Bool.and_eq_true_iff.1 hw).1)
     rw [lack_prog hgr.sym] at hlc
     have hlk:lackN l (l.getD u 0&&&left)=lk l left u:=rfl
     rw [hlk] at hlc
     have hgi:(els left).getD i 0=u:=by rw [List.getD_eq_getElem?_getD,hui];rfl
     have hbn:bA l left (i+1)=if (bA l left i).1<0∨lk l left u<(bA l left i).2 then ((u:Int),lk l left u) else bA l left i:=by
      show (if _ then _ else _)=_
      rw [hgi]
     simp only [go_sem]
     (repeat (with_reducible first|refine J_region ?_|(refine Kont.go (by assumption) ?_)|(simp (config:={ maxSteps:=3000000 }) (disch:=omega) only [go_sem])))
     intro X2 hX2
     (repeat (first|(with_reducible first|refine W_seq fun K hK=>?_|refine J_block ?_|refine J_drawn mixed (by kernel_rfl) ?_|(simp (config:={ maxSteps:=3000000 }) (disch:=omega) only [go_sem,↓reduceIte,gu,han]))|refine And.intro (by omega) ?_))
     refine callQ_fl hlc (.v _) (FrzL.cons (Frz.own0 rfl (by rw [List.length_map,hgl])) (FrzL.cons (.f _) (FrzL.nil _))) ?_
     obtain ⟨b1,b2,b3⟩:=hb64 i
     have hlk64:=(hb64 (i+1)).1
     by_cases c1:(bA l left i).1<0
     ·rw [if_pos (.inl c1)] at hbn
      (repeat (with_reducible first|refine W_seq fun K hK=>?_|refine J_region ?_|refine J_c ?_|refine Jc_true ?_|(refine Kont.go (by assumption) ?_)|(simp (config:={ maxSteps:=3000000 }) (disch:=omega) only [go_sem,↓reduceIte,c1,true_and,and_self])))
      refine rpost_n (weak_of ?_ ?_)<;>(try simp (disch:=omega) only [go_sem,Nat.reduceAdd,hbn])<;>(try first|done|omega|rfl|exact ⟨rfl,rfl⟩|trivial)
     ·by_cases c2:lk l left u<(bA l left i).2
      ·rw [if_pos (.inr c2)] at hbn
       have c2':((lk l left u:Nat):Int)<(((bA l left i).2:Nat):Int):=by omega
       (repeat (with_reducible first|refine W_seq fun K hK=>?_|refine J_region ?_|refine J_c ?_|refine Jc_true ?_|(refine Kont.go (by assumption) ?_)|(simp (config:={ maxSteps:=3000000 }) (disch:=omega) only [go_sem,↓reduceIte,c1,c2',true_and,and_self])))
       refine rpost_n (weak_of ?_ ?_)<;>(try simp (disch:=omega) only [go_sem,Nat.reduceAdd,hbn])<;>(try first|done|omega|rfl|exact ⟨rfl,rfl⟩|trivial)
      ·rw [if_neg (fun h=>h.elim c1 c2)] at hbn
       have c2':¬((lk l left u:Nat):Int)<(((bA l left i).2:Nat):Int):=by omega
       (repeat (with_reducible first|refine W_seq fun K hK=>?_|refine J_skip ?_|refine J_region ?_|refine J_c ?_|refine Jc_false ?_|(refine Kont.go (by assumption) ?_)|(simp (config:={ maxSteps:=3000000 }) (disch:=omega) only [go_sem,↓reduceIte,c1,c2',true_and])))
       refine rpost_n (weak_of ?_ ?_)<;>(try simp (disch:=omega) only [go_sem,Nat.reduceAdd,hbn])<;>(try first|done|omega|rfl|exact ⟨rfl,rfl⟩|trivial)
    ·have hel:((els left).map Int.ofNat).length=(els left).length:=by rw [List.length_map]
     rw [hel,bA_end hl0 hlt]
     have hfb:bst l left=fB P (lft v) k:=by unfold fB;rw [←hl',←hleft]
     have hbv:bst l left<v:=by
      have h1:=hFk.left (fB P (lft v) k)
      rw [←hleft,hbB.mem] at h1
      rw [hfb]
      exact of_decide_eq_true (Bool.and_eq_true_iff.1 h1.symm).1
     have gb:=hgb _ hbv
     have hS8:updS l left<256:=and_lt hgr.lt
     have hSl:=els_len (s:=updS l left)
     have han2:=u_and hgr.lt hlt (a:=l.getD (bst l left) 0) (b:=left)
     rw [show l.getD (bst l left) 0&&&left=updS l left from rfl] at han2
     have ha1:((oF P v k).length+1)*8≤140737488355328:=by rw [oF_len];omega
     have hsO:oF P v k++[I ((bst l left:Nat):Int)]=oF P v (k+1):=by rw [hfb];exact oF_next
     have hbag:updS l left|||bit (bst l left)=fBag P (lft v) k:=by unfold fBag;rw [hfb,←hl',←hleft]
     have hbag8:fBag P (lft v) k<256:=by rw [←hbag];exact or_lt hS8 (bit_lt (by omega))
     have hsh:=u_shl (v:=bst l left) (by omega)
     have hor:=u_or hS8 (bit_lt (v:=bst l left) (by omega))
     rw [hbag] at hor
     have hli:=list_w hbag8
     have hitS:=all_iter (updS l left) hS8
     have hdf:=u_an hlt (bit_lt (v:=bst l left) (by omega))
     have hbn:bF P v k++[.fz 1 (Ns (els (fBag P (lft v) k)))]=bF P v (k+1):=bF_next
     have ha2:(k+1)*24≤140737488355328:=by omega
     have hui0:((l.map U).map AV.f)=((updI l left 0).map U).map .f:=by rw [updI_zero]
     have hbne:=bF_ne (P:=P) (n:=v) (k:=k)
     have hs3:sl 7 1 (bF P v (k+1))=.own 7 1 0 (k+1):=by rw [sl_pos hbne,bF_len]
     have ho3:ob 23 1 (bF P v (k+1))=some ⟨23,1,(bF P v (k+1)).map .f⟩:=ob_pos hbne
     rcases Nat.eq_zero_or_pos k with hk0|hk0
     have hb1:[AV.f (.fz 1 (Ns (els (fBag P (lft v) k))))]=(bF P v (k+1)).map .f:=by rw [←hbn,show bF P v k=[] by rw [hk0];rfl];rfl
     have hs0:sl 7 1 (bF P v k)=AV.f nilV:=by rw [hk0];rfl
     have ho0:ob 23 1 (bF P v k)=none:=by rw [hk0];rfl
     have hk1:AV.own 13 1 0 (k+1)=AV.own 13 1 0 1:=by rw [hk0]
     simp only [go_sem]
     rw [hs0,ho0]
     (repeat (first|(with_reducible first|refine W_seq fun K hK=>?_|refine J_region ?_|refine J_orders (id:=24) [7] (.one 0 (.one 1 (.one 2 (.one 3 (.one 4 (.one 5 (.one 6 (.one 7 (.one 8 .leaf))))))))) mixed (by kernel_rfl) ?_ |refine J_drawn mixed (by kernel_rfl) ?_|refine aApp_sl ?_|(refine Kont.go (by assumption) ?_)|(simp (config:={ maxSteps:=3000000 }) (disch:=omega) only [go_sem,Nat.reduceEqDiff,↓reduceIte,Nat.reduceAdd,Nat.reduceLeDiff,gb,han2,ha1,hsO,hsh,hor]))|refine And.intro (by omega) ?_))
     (first|refine call_f (hli) rfl ?_|refine callQ_f (hli) rfl ?_|refine callHK_f (hli) rfl ?_|refine callH_f (hli) rfl ?_)
     (repeat (first|(with_reducible first|refine W_seq fun K hK=>?_|refine J_block ?_|refine J_region ?_|(refine Kont.go (by assumption) ?_)|(simp (config:={ maxSteps:=3000000 }) (disch:=omega) only [go_sem,↓reduceIte,Nat.reduceLeDiff]))|refine And.intro (by omega) ?_))
     rw [hb1]
     rotate_left
     have hne:bF P v k≠[]:=fun e=>by have:=congrArg List.length e;rw [bF_len] at this;simp at this;omega
     have hs1:sl 7 1 (bF P v k)=.own 7 1 0 k:=by rw [sl_pos hne,bF_len]
     have ho1:ob 23 1 (bF P v k)=some ⟨23,1,(bF P v k).map .f⟩:=ob_pos hne
     have hb1:((bF P v k).map AV.f).take k++[AV.f (.fz 1 (Ns (els (fBag P (lft v) k))))]=(bF P v (k+1)).map .f:=by
      rw [←hbn,List.map_append,List.take_of_length_le (by rw [List.length_map,bF_len];omega)];rfl
     have hbl:=bF_len (P:=P) (n:=v) (k:=k)
     have hk1:(True∧True)=True:=and_self _
     simp only [go_sem]
     rw [hs1,ho1]
     (repeat (first|(with_reducible first|refine W_seq fun K hK=>?_|refine J_region ?_|refine J_orders (id:=24) [7] (.one 0 (.one 1 (.one 2 (.one 3 (.one 4 (.one 5 (.one 6 (.one 7 (.one 8 .leaf))))))))) mixed (by kernel_rfl) ?_ |refine J_drawn mixed (by kernel_rfl) ?_|refine aApp_sl ?_|(refine Kont.go (by assumption) ?_)|(simp (config:={ maxSteps:=3000000 }) (disch:=omega) only [go_sem,Nat.reduceEqDiff,↓reduceIte,Nat.reduceAdd,Nat.reduceLeDiff,gb,han2,ha1,hsO,hsh,hor]))|refine And.intro (by omega) ?_))
     (first|refine call_f (hli) rfl ?_|refine callQ_f (hli) rfl ?_|refine callHK_f (hli) rfl ?_|refine callH_f (hli) rfl ?_)
     (repeat (first|(with_reducible first|refine W_seq fun K hK=>?_|refine J_block ?_|refine J_region ?_|(refine Kont.go (by assumption) ?_)|(simp (config:={ maxSteps:=3000000 }) (disch:=omega) only [go_sem,↓reduceIte,Nat.reduceLeDiff,ha2,hb1,hbl]))|refine And.intro (by omega) ?_))
     all_goals
      rw [hui0]
      refine J_mask [51,70,71,72,73,74,75,76,77,78,79,80,81,82,83,84,85,86,87] (by refine weak_of ?_ ?_<;>simp (disch:=omega) only [go_sem,Nat.reduceAdd]<;>first|rfl|exact ⟨rfl,rfl⟩|exact Or.inl rfl|exact ⟨Or.inl rfl,Or.inl rfl⟩|trivial|assumption|omega|(symm;assumption)|((repeat' apply And.intro)<;>first|rfl|omega|trivial|exact .inr ⟨rfl,rfl⟩|exact .inr rfl|(right;symm;assumption)|(symm;assumption)|assumption)) ?_;simp only [go_sem]
      refine J_rangeW hrd [18,90,91,92,93,94,95,96,97,98,99,100] (fun i=>[some ⟨23,1,[.f nilV]⟩,some ⟨22,1,[.f nilV]⟩,some ⟨25,1,[.f (I 0)]⟩,some ⟨56,1,((updI l left i).map U).map .f⟩,some ⟨52,1,[.own 3 1 0 v]⟩,some ⟨56,1,[.f (U left)]⟩,ob 3 1 (oF P v (k+1)),none,some ⟨3,1,[.f (I ((bst l left:Nat):Int))]⟩,none,some ⟨56,1,[.f (U (updS l left))]⟩,none,none,some ⟨23,1,(bF P v (k+1)).map .f⟩]) rfl (hitS) (by kernel_rfl) (by refine weak_of ?_ ?_<;>simp (disch:=omega) only [go_sem,Nat.reduceAdd]<;>first|rfl|exact ⟨rfl,rfl⟩|trivial|((repeat' apply And.intro)<;>first|rfl|trivial|exact .inl rfl|exact .inr ⟨rfl,rfl⟩|exact .inr rfl)) (by decide) (by kernel_rfl) (by kernel_rfl) ?_ ?_
      ·rintro i y hy X1 hX1 K hK
       obtain ⟨u,rfl,hu8,hus,hui,htk⟩:=els_take hy
       have huv:u<v:=hgr.below (bst l left) u (by unfold updS at hus;rw [Nat.testBit_and] at hus;exact (Bool.and_eq_true_iff.1 hus).1)
       have hcur:=updI_cur hui (by omega:u<l.length)
       have gu:(((updI l left i).map U).map AV.f)[u]?=some (.f (U (l.getD u 0))):=by
        rw [List.getElem?_map,sets_get (by rw [updI_len];omega),hcur];rfl
       have hmlI:(((updI l left i).map U).map AV.f).length=v:=by rw [List.length_map,List.length_map,updI_len,hgl]
       have hsu:=u_shl hu8
       have hd:=u_an hS8 (bit_lt hu8)
       have ho2:=u_or (hgr.lt (v:=u)) (dif_lt (b:=bit u) hS8)
       have hst:=updI_step hui (by omega:u<l.length)
       simp only [go_sem]
       (repeat (with_reducible first|refine J_region ?_|(refine Kont.go (by assumption) ?_)|(simp (config:={ maxSteps:=3000000 }) (disch:=omega) only [go_sem])))
       intro X2 hX2
       (repeat (first|(with_reducible first|refine J_block ?_|refine J_drawn mixed (by kernel_rfl) ?_|(simp (config:={ maxSteps:=3000000 }) (disch:=omega) only [go_sem,↓reduceIte,gu,hsu,hd,ho2,hst]))|refine And.intro (by omega) ?_))
       refine rpost_n (weak_of ?_ ?_)<;>(try simp (disch:=omega) only [go_sem,Nat.reduceAdd])<;>(try first|done|omega|rfl|exact ⟨rfl,rfl⟩|trivial)
      ·have hel:((els (updS l left)).map Int.ofNat).length=(els (updS l left)).length:=by rw [List.length_map]
       have hnf:fS P (lft v) (k+1)=(updL l left,dif left (bit (bst l left))):=by
        show (updL _ _,dif _ (bit (bst _ _)))=_
        rw [←hl',←hleft]
       rw [hel,updI_all hS8]
       simp only [go_sem]
       (repeat (with_reducible first|refine J_drawn mixed (by kernel_rfl) ?_|(refine Kont.go (by assumption) ?_)|(simp (config:={ maxSteps:=3000000 }) (disch:=omega) only [go_sem,↓reduceIte,hsh,hdf])))
       refine ⟨k+1,by omega,by omega,weak_ren [0,1,2,3,4,5,6,13] ⟨by decide,by first|decide|(simp;done)⟩ ?_ ?_⟩<;>(try simp (disch:=omega) only [go_sem,Nat.reduceAdd,hnf,hs3,ho3,hk1])<;>(try first|done|omega|rfl|exact ⟨rfl,rfl⟩|trivial)
end Go.Proofs.YtgjnbcfencallaaDoor
