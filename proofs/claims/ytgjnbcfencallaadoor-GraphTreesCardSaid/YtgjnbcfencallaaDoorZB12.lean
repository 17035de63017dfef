/- Fill: walked. Conditions: what slices may hold. -/
import Derived.Test.YtgjnbcfencallaaDoorZB10
import Derived.Test.YtgjnbcfencallaaDoorZB11
set_option linter.unusedVariables false
set_option linter.unusedSimpArgs false
namespace Go.Proofs.YtgjnbcfencallaaDoor
open Go Go.RowKit
def oF (P:List Nat) (n k:Nat):List FV:=Ns ((List.range k).map (fB P (lft n)))
def bF (P:List Nat) (n k:Nat):List FV:=gvs ((List.range k).map (fBag P (lft n)))
section
variable {P : List Nat} {n k : Nat}
theorem oF_len:(oF P n k).length=k:=by unfold oF;rw [Ns_len];simp
theorem bF_len:(bF P n k).length=k:=by unfold bF;rw [gvs_len];simp
theorem oF_next:oF P n k++[I ((fB P (lft n) k:Nat):Int)]=oF P n (k+1):=by
 unfold oF;rw [List.range_succ,List.map_append];exact Ns_snoc
theorem bF_next:bF P n k++[.fz 1 (Ns (els (fBag P (lft n) k)))]=bF P n (k+1):=by
 unfold bF;rw [List.range_succ,List.map_append];unfold gvs;rw [List.map_append];rfl
theorem bF_ne:bF P n (k+1)≠[]:=fun e=>by have:=congrArg List.length e;rw [bF_len] at this;cases this
end
def badO:AO:=⟨0,1,[.tup []]⟩
def rpostP (T:List AV) (H:AH) (I:Prop) (Qr:AS→Prop):Exit→AS→Prop
 | .normal,s=>Weak s ⟨T,H⟩∧I
 | .ret,s=>∃H',Weak s ⟨T,H'⟩∧Qr ⟨T,H'⟩
 | _,_=>False
section
variable {P : Program} {X : Cx} {s : AS}
theorem J_mask (ws:List Nat) {c:Code} {Q:Exit→AS→Prop} {t:List AV} {H:AH} (hw:Weak ⟨t,H⟩ ⟨msk ws t,H⟩) (hJ:J X P c Q ⟨msk ws t,H⟩):J X P c Q ⟨t,H⟩:=J_weak hw hJ
theorem J_bad {c:Code} {Q:Exit→AS→Prop} (h:s.H[0]?=some (some badO)):J X P c Q s:=fun hk a w ⟨F,loc,R⟩=>by
 obtain ⟨hu,_⟩:=R.obj 0 _ h
 have:=(hu (.tup []) (List.mem_singleton.2 rfl)).2
 cases this
open Classical in
theorem J_rangeP (hrd:X.rd=none) (ws:List Nat) (hp:Nat→AH) (I:Nat→Prop) {g:Operand} {p:Tmp} {assign body:Code} {Q:Exit→AS→Prop} {gf:FuncId} {sv:Value} {xs:List Int} {t:List AV} {H:AH} (h0:I 0)
  (hg:AS.ev ⟨t,H⟩ g=.fn gf [.f (.v sv)] []) (hit:IterW P gf #[sv] xs) (hok:enterOk P gf=true) (hw:Weak ⟨t,H⟩ ⟨msk ws t,hp 0⟩) (hpw:kpOf ws p=false) (hka:okC (kpOf ws) assign=true) (hkb:okC (kpOf ws) body=true)
  (hQb:∀s,s.H[0]?=some (some badO)→Q .normal s)
  (round:∀(i:Nat) x,xs[i]?=some x→I i→∀X1:Cx,X1.kp=kpOf ws→∀K:AS→Prop,Kont K (fun s'=>∀X2:Cx,X2.kp=kpOf ws→J X2 P body (rpostP (msk ws t) (hp (i+1)) (I (i+1)) (Q .ret)) s')→J X1 P assign (athen K fun _ _=>False) ⟨(msk ws t).set p (.f (.v (.int .i64 x))),hp i⟩)
  (hQ:I xs.length→Q .normal ⟨msk ws t,hp xs.length⟩):J X P (.rangeFunc g #[p] assign body) Q ⟨t,H⟩:=by
 refine J_rangeW hrd ws (fun i=>if I i then hp i else [some badO]) hg hit hok (by rw [if_pos h0];exact hw) hpw hka hkb (fun i x hx X1 hX1 K hK=>?_) ?_
 ·by_cases hi:I i
  ·rw [if_pos hi]
   refine round i x hx hi X1 hX1 K fun s' hs'=>hK s' fun X2 hX2=>J_mono (hs' X2 hX2) fun e s hq=>?_
   cases e with
   | normal =>
    obtain ⟨h1,h2⟩:=hq
    show Weak s ⟨_,_⟩
    rw [if_pos h2];exact h1
   | ret=>exact hq
   | _=>exact hq
  ·rw [if_neg hi]
   exact J_bad rfl
 ·by_cases hi:I xs.length
  ·rw [if_pos hi];exact hQ hi
  ·rw [if_neg hi];exact hQb _ rfl
end
set_option maxRecDepth 100000 in
set_option maxHeartbeats 8000000 in
theorem Fill_w (L:List (List Int)) (hL:OkIss L):Good Tryd.prog 20 [.fz 1 (L.map ints)] (.tup [.fz 1 (Ns (filO L)),.fz 1 (gvs (filB L)),I (filE L)]):=by
 have hrs0:=reads_w L hL
 obtain ⟨vO,hvO⟩:∃vO,vO=filO L:=⟨_,rfl⟩
 obtain ⟨vB,hvB⟩:∃vB,vB=filB L:=⟨_,rfl⟩
 obtain ⟨vE,hvE⟩:∃vE,vE=filE L:=⟨_,rfl⟩
 rw [←hvO,←hvB,←hvE]
 have bad:¬(listsB L=true∧symB L=true)→vO=[]∧vB=[]∧vE=11:=fun h=>by
  rw [hvO,hvB,hvE]
  unfold filO filB filE
  rw [if_neg h,if_neg h,if_neg h]
  exact ⟨rfl,rfl,rfl⟩
 have g0:gvs []=[]:=rfl
 have n0:Ns []=[]:=rfl
 refine good_of Tryd.func20 rfl (by kernel_rfl) fun X hO hrd=>?_;rw [Tryd.ntmps20,Tryd.results20];simp only [ast0,List.map_cons,List.map_nil,List.length_cons,List.length_nil,Nat.reduceAdd,Nat.reduceSub,List.replicate_succ,List.replicate_zero,List.cons_append,List.nil_append]
 (repeat (with_reducible first|refine W_seq fun K hK=>?_|refine J_region ?_|(refine Kont.go (by assumption) ?_)|(simp (config:={ maxSteps:=3000000 }) (disch:=omega) only [go_sem,Nat.reduceAdd])))
 refine call_ot hrs0 (FrzL.fs [_]) ?_
 cases hb:listsB L with
 | false =>
  obtain ⟨e1,e2,e3⟩:=bad (by rw [hb];simp)
  have e4:rdR L=.f nilV:=by unfold rdR;rw [hb];rfl
  rw [e4]
  (repeat (with_reducible first|refine W_seq fun K hK=>?_|refine J_ret ?_|refine J_region ?_|refine J_c ?_|refine Jc_true ?_|(refine Kont.go (by assumption) ?_)|(simp (config:={ maxSteps:=3000000 }) (disch:=omega) only [go_sem,↓reduceIte,Nat.reduceAdd])))
  rw [e1,e2,e3,g0,n0]
  exact ⟨_,rfl,FrzL.cons (.nil _) (FrzL.cons (.nil _) (FrzL.cons (.f _) (FrzL.nil _)))⟩
 | true =>
  have hg:=GP.of hb
  have e4:rdR L=.own 56 1 ((setsOf L).map U):=by unfold rdR;rw [hb];rfl
  rw [e4]
  have hsy:symB L=(List.range L.length).all fun v=>(els ((setsOf L).getD v 0)).all fun u=>((setsOf L).getD u 0).testBit v:=rfl
  have hok:=fun h=>symB_ok (L:=L) hb h
  obtain ⟨P,hP⟩:∃P,P=setsOf L:=⟨_,rfl⟩
  obtain ⟨n,hn⟩:∃n,n=L.length:=⟨_,rfl⟩
  rw [←hP,←hn] at hg hok hsy
  rw [←hP]
  have hl:=hg.len
  have hn8:=hg.n8
  have hgp:∀v,v<n→((P.map U).map AV.f)[v]?=some (.f (U (P.getD v 0))):=fun v hv=>by rw [List.getElem?_map,sets_get (by omega)];rfl
  have hpl:((P.map U).map AV.f).length=n:=by rw [List.length_map,List.length_map,hl]
  (repeat (with_reducible first|refine W_seq fun K hK=>?_|refine J_block ?_|refine J_skip ?_|refine J_region ?_|refine J_c ?_|refine Jc_false ?_|(refine Kont.go (by assumption) ?_)|(simp (config:={ maxSteps:=3000000 }) (disch:=omega) only [go_sem,↓reduceIte,Nat.reduceAdd,List.length_map,hl])))
  refine W_loop [7,8,9,28,29,30,31,32,33,34,35,36,37,38,39,40,41,42,43] (fun x:Nat=>[(19,.any),(21,.any),(28,.f (I x))]) (fun x:Nat=>[some ⟨23,1,[.f nilV]⟩,some ⟨22,1,[.f nilV]⟩,some ⟨25,1,[.f (I 0)]⟩,some ⟨56,1,(P.map U).map .f⟩,some ⟨52,1,[.own 3 1 0 n]⟩]) (fun x:Nat=>x≤n∧∀j,j<x→∀u,paO P u j=true→paO P j u=true) (fun x:Nat=>n-x) (0) (⟨Nat.zero_le _,fun j h=>by omega⟩) (by refine weak_of ?_ ?_<;>simp (disch:=omega) only [go_sem,Nat.reduceAdd]<;>first|rfl|exact ⟨rfl,rfl⟩|exact Or.inl rfl|exact ⟨Or.inl rfl,Or.inl rfl⟩|trivial|assumption|omega|(symm;assumption)|((repeat' apply And.intro)<;>first|rfl|omega|trivial|exact .inl rfl|exact .inr ⟨rfl,rfl⟩|exact .inr rfl|(right;symm;assumption)|(symm;assumption)|assumption)) ?_
  rintro v ⟨hv,hp⟩
  simp only [go_sem]
  (repeat (with_reducible first|refine W_seq fun K hK=>?_|refine J_region ?_|refine J_c ?_|(refine Kont.go (by assumption) ?_)|(simp (config:={ maxSteps:=3000000 }) (disch:=omega) only [go_sem])))
  refine Jc_if (fun hvn=>?_) (fun hvn=>?_)<;>try simp only [decide_eq_true_eq,decide_eq_false_iff_not] at hvn
  ·have gv:=hgp v hvn
   have hit:=all_iter (P.getD v 0) hg.lt8
   (repeat (first|(with_reducible first|refine W_seq fun K hK=>?_|refine J_block ?_|refine J_skip ?_|refine J_region ?_|(refine Kont.go (by assumption) ?_)|(simp (config:={ maxSteps:=3000000 }) (disch:=omega) only [go_sem,↓reduceIte,Nat.reduceAdd,gv]))|refine And.intro (by omega) ?_))
   refine J_rangeP hrd [9,35,36,37,38,39,40,41,42] (fun i=>[some ⟨23,1,[.f nilV]⟩,some ⟨22,1,[.f nilV]⟩,some ⟨25,1,[.f (I 0)]⟩,some ⟨56,1,(P.map U).map .f⟩,some ⟨52,1,[.own 3 1 0 n]⟩,some ⟨3,1,[.f (I (v:Int))]⟩]) (fun i=>∀u∈(els (P.getD v 0)).take i,paO P v u=true) (by simp) rfl (hit) (by kernel_rfl) (by refine weak_of ?_ ?_<;>simp (disch:=omega) only [go_sem,Nat.reduceAdd]<;>first|rfl|exact ⟨rfl,rfl⟩|trivial|((repeat' apply And.intro)<;>first|rfl|trivial|exact .inl rfl|exact .inr ⟨rfl,rfl⟩|exact .inr rfl)) (by decide) (by kernel_rfl) (by kernel_rfl) (fun s h=>by simp only [go_sem];exact Kont.go (by assumption) (J_bad h)) ?_ ?_
   ·rintro i y hy hI X1 hX1 K hK
    obtain ⟨u,rfl,hu8,hus,hui,htk⟩:=els_take hy
    have hun:=(hg.pa u v hus).1
    have gu:=hgp u hun
    have hh:=has_w (s:=P.getD u 0) (v:=v) hg.lt8 (by omega)
    simp only [go_sem]
    (repeat (with_reducible first|refine J_region ?_|(refine Kont.go (by assumption) ?_)|(simp (config:={ maxSteps:=3000000 }) (disch:=omega) only [go_sem])))
    intro X2 hX2
    (repeat (first|(with_reducible first|refine W_seq fun K hK=>?_|refine J_block ?_|refine J_drawn mixed (by kernel_rfl) ?_|(simp (config:={ maxSteps:=3000000 }) (disch:=omega) only [go_sem,↓reduceIte,gu]))|refine And.intro (by omega) ?_))
    (first|refine call_f (hh) rfl ?_|refine callQ_f (hh) rfl ?_|refine callHK_f (hh) rfl ?_|refine callH_f (hh) rfl ?_)
    cases hbt:(P.getD u 0).testBit v with
    | true =>
     have hI':∀u∈(els (P.getD v 0)).take (i+1),paO P v u=true:=fun w hw=>by
      rw [←htk] at hw
      rcases List.mem_append.1 hw with hw|hw
      ·exact hI w hw
      ·rw [List.mem_singleton.1 hw];exact hbt
     (repeat (with_reducible first|refine J_skip ?_|refine J_c ?_|refine Jc_false ?_|(refine Kont.go (by assumption) ?_)|(simp (config:={ maxSteps:=3000000 }) (disch:=omega) only [go_sem])))
     refine ⟨weak_of ?_ ?_,hI'⟩<;>(try simp (disch:=omega) only [go_sem,Nat.reduceAdd])<;>(try first|done|omega|rfl|exact ⟨rfl,rfl⟩|trivial)
    | false =>
     have hbd:symB L=false:=by
      rw [hsy,List.all_eq_false]
      refine ⟨v,List.mem_range.2 hvn,?_⟩
      rw [Bool.not_eq_true,List.all_eq_false]
      exact ⟨u,List.mem_of_getElem? hui,by rw [hbt];decide⟩
     obtain ⟨e1,e2,e3⟩:=bad (by rw [hbd];simp)
     (repeat (with_reducible first|refine W_seq fun K hK=>?_|refine J_ret ?_|refine J_region ?_|refine J_c ?_|refine Jc_true ?_|(refine Kont.go (by assumption) ?_)|(simp (config:={ maxSteps:=3000000 }) (disch:=omega) only [go_sem,↓reduceIte])))
     refine ⟨[some ⟨23,1,[.f nilV]⟩,some ⟨22,1,[.f nilV]⟩,some ⟨25,1,[.f (I 11)]⟩,none,none,none],weak_of ?_ ?_,?_⟩<;>(try simp (disch:=omega) only [go_sem,Nat.reduceAdd])<;>(try first|done|omega|rfl|exact ⟨rfl,rfl⟩|trivial)
     (skip)
     rw [e1,e2,e3,g0,n0]
     exact ⟨_,rfl,FrzL.cons (.nil _) (FrzL.cons (.nil _) (FrzL.cons (.f _) (FrzL.nil _)))⟩
   ·have hel:((els (P.getD v 0)).map Int.ofNat).length=(els (P.getD v 0)).length:=by rw [List.length_map]
    rw [hel,List.take_length]
    intro hI
    have hI2:∀u,paO P u v=true→paO P v u=true:=fun u hu=>hI u (els_mem.2 ⟨by have:=(hg.pa u v hu).1;omega,hu⟩)
    simp only [go_sem]
    (repeat (with_reducible first|refine J_region ?_|(refine Kont.go (by assumption) ?_)|(simp (config:={ maxSteps:=3000000 }) (disch:=omega) only [go_sem])))
    refine ⟨v+1,⟨by omega,upto_next (p:=fun j=>∀u,paO P u j=true→paO P j u=true) hp hI2⟩,by omega,weak_of ?_ ?_⟩<;>(try simp (disch:=omega) only [go_sem,Nat.reduceAdd])<;>(try first|done|omega|rfl|exact ⟨rfl,rfl⟩|trivial)
  ·have he:v=n:=by omega
   subst he
   have hsyt:symB L=true:=by
    rw [hsy,List.all_eq_true]
    intro a ha
    rw [List.all_eq_true]
    intro u hu
    exact hp a (List.mem_range.1 ha) u (els_mem.1 hu).2
   have hGr:=hok hsyt
   have hF:=FOk.all (left0:=lft v) hGr (fun u=>lft_bit hn8) (lft_lt hn8)
   have e1:vO=(List.range v).map (fB P (lft v)):=by rw [hvO];unfold filO;rw [if_pos ⟨hb,hsyt⟩,←hP,←hn]
   have e2:vB=(List.range v).map (fBag P (lft v)):=by rw [hvB];unfold filB;rw [if_pos ⟨hb,hsyt⟩,←hP,←hn]
   have e3:vE=0:=by rw [hvE];unfold filE;rw [if_pos ⟨hb,hsyt⟩]
   have hlf:=lft_shl v hn8
   (repeat (with_reducible first|refine W_seq fun K hK=>?_|refine J_block ?_|refine J_exit ?_|refine J_region ?_|(refine Kont.go (by assumption) ?_)|(simp (config:={ maxSteps:=3000000 }) (disch:=omega) only [go_sem,↓reduceIte,Nat.reduceAdd,hlf])))
   refine J_reserve ?_
   refine J_reserve ?_
   simp only [go_sem]
   have hfs0:P=(fS P (lft v) 0).1:=rfl
   have hS0:((P.map U).map AV.f)=(((fS P (lft v) 0).1.map U).map .f):=rfl
   have hL0:U (lft v)=U (fS P (lft v) 0).2:=rfl
   refine W_loop [10,11,13,14,15,16,17,18,48,49,50,51,52,53,54,55,56,57,58,59,60,61,62,63,64,65,66,67,68,69,70,71,72,73,74,75,76,77,78,79,80,81,82,83,84,85,86,87,88,89,90,91,92,93,94,95,96,97,98,99,100,101,102,103,104] (fun k:Nat=>[(10,sl 6 1 (oF P v k)),(11,sl 7 1 (bF P v k))]) (fun k:Nat=>[some ⟨23,1,[.f nilV]⟩,some ⟨22,1,[.f nilV]⟩,some ⟨25,1,[.f (I 0)]⟩,some ⟨56,1,((fS P (lft v) k).1.map U).map .f⟩,some ⟨52,1,[.own 3 1 0 v]⟩,some ⟨56,1,[.f (U (fS P (lft v) k).2)]⟩,ob 3 1 (oF P v k),ob 23 1 (bF P v k)]) (fun k:Nat=>k≤v) (fun k:Nat=>v-k) (0) (Nat.zero_le _) (by refine weak_of ?_ ?_<;>simp (disch:=omega) only [go_sem,Nat.reduceAdd]<;>first|rfl|exact ⟨rfl,rfl⟩|exact Or.inl rfl|exact ⟨Or.inl rfl,Or.inl rfl⟩|trivial|assumption|omega|(symm;assumption)|((repeat' apply And.intro)<;>first|rfl|omega|trivial|exact .inl rfl|exact .inr ⟨rfl,rfl⟩|exact .inr rfl|(right;symm;assumption)|(symm;assumption)|assumption)) ?_
   rintro k hk
   have hFk:=hF k hk
   obtain ⟨l,hl'⟩:∃l,l=(fS P (lft v) k).1:=⟨_,rfl⟩
   obtain ⟨left,hleft⟩:∃left,left=(fS P (lft v) k).2:=⟨_,rfl⟩
   rw [←hl',←hleft]
   have hgr:=hFk.gr
   have hlt:=hFk.lt
   rw [←hl'] at hgr
   rw [←hleft] at hlt
   have hgl:=hgr.len
   simp only [go_sem]
   (repeat (with_reducible first|refine W_seq fun K hK=>?_|refine J_region ?_|refine J_c ?_|(refine Kont.go (by assumption) ?_)|(simp (config:={ maxSteps:=3000000 }) (disch:=omega) only [go_sem,↓reduceIte])))
   by_cases hl0:left=0
   ·have hkv:k=v:=by
     rcases Nat.lt_or_ge k v with h|h
     ·have:=hFk.ne h;rw [←hleft] at this;exact absurd hl0 this
     ·omega
    subst hkv
    (repeat (with_reducible first|refine W_seq fun K hK=>?_|refine J_exit ?_|refine J_ret ?_|refine J_region ?_|refine Jc_false ?_|(refine Kont.go (by assumption) ?_)|(simp (config:={ maxSteps:=3000000 }) (disch:=omega) only [go_sem,↓reduceIte,hl0])))
    rw [e1,e2,e3]
    exact ⟨_,rfl,FrzL.cons (.sl rfl) (FrzL.cons (.sl rfl) (FrzL.cons (.f _) (FrzL.nil _)))⟩
   ·have hkv:k<v:=by
     rcases Nat.lt_or_ge k v with h|h
     ·exact h
     ·have e:k=v:=by omega
      subst e
      have:=hFk.end;rw [←hleft] at this;exact absurd this hl0
    have hit:=all_iter left hlt
    have hell:=els_len (s:=left)
    have hbB:=hFk.best hkv
    rw [←hl',←hleft] at hbB
    have hgb:∀u,u<v→((l.map U).map AV.f)[u]?=some (.f (U (l.getD u 0))):=fun u hu=>by rw [List.getElem?_map,sets_get (by omega)];rfl
    have hml:((l.map U).map AV.f).length=v:=by rw [List.length_map,List.length_map,hgl]
    have hb64:=fun i=>bA_le (l:=l) (left:=left) i
    (repeat (with_reducible first|refine W_seq fun K hK=>?_|refine J_block ?_|refine J_skip ?_|refine J_region ?_|refine Jc_true ?_|(refine Kont.go (by assumption) ?_)|(simp (config:={ maxSteps:=3000000 }) (disch:=omega) only [go_sem,↓reduceIte,Nat.reduceAdd,Int.reduceNeg,hl0])))
    refine J_rangeW hrd [15,16,52,53,54,55,56,57,58,59,60,61,62,63,64,65,66,67,68,69] (fun i=>[some ⟨23,1,[.f nilV]⟩,some ⟨22,1,[.f nilV]⟩,some ⟨25,1,[.f (I 0)]⟩,some ⟨56,1,(l.map U).map .f⟩,some ⟨52,1,[.own 3 1 0 v]⟩,some ⟨56,1,[.f (U left)]⟩,ob 3 1 (oF P v k),ob 23 1 (bF P v k),some ⟨3,1,[.f (I (bA l left i).1)]⟩,some ⟨3,1,[.f (I ((bA l left i).2:Nat))]⟩]) rfl (hit) (by kernel_rfl) (by refine weak_of ?_ ?_<;>simp (disch:=omega) only [go_sem,Nat.reduceAdd]<;>first|rfl|exact ⟨rfl,rfl⟩|trivial|((repeat' apply And.intro)<;>first|rfl|trivial|exact .inl rfl|exact .inr ⟨rfl,rfl⟩|exact .inr rfl)) (by decide) (by kernel_rfl) (by kernel_rfl) ?_ ?_
    ·rintro i y hy X1 hX1 K hK
     obtain ⟨u,rfl,hu8,hus,hui,htk⟩:=els_take hy
     have huv:u<v:=by
      have:=hFk.left u
      rw [←hleft,hus] at this
      exact of_decide_eq_true (Bool.and_eq_true_iff.1 this.symm).1
     have gu:=hgb u huv
     have han:=u_and hgr.lt hlt (a:=l.getD u 0) (b:=left)
     have hlc:=lacks_w (l:=l) (s:=l.getD u 0&&&left) (fun v=>hgr.lt) (by omega) (and_lt hgr.lt) (fun w hw=>by rw [Nat.testBit_and] at hw;rw [hgl];exact hgr.below u w (Bool.and_eq_true_iff.1 hw).1)
     rw [lack_prog hgr.sym] at hlc
     have hlk:lackN l (l.getD u 0&&&left)=lk l left u:=rfl
     rw [hlk] at hlc
     have hgi:(els left).getD i 0=u:=by rw [List.getD_eq_getElem?_getD,hui];rfl
     have hbn:bA l left (i+1)=if (bA l left i).1<0∨lk l left u<(bA l left i).2 then ((u:Int),lk l left u) else bA l left i:=by
      show (if _ then _ else _)=_
      rw [hgi]
     simp only [go_sem]
     (repeat (with_reducible first|refine J_region ?_|(refine Kont.go (by assumption) ?_)|(simp (config:={ maxSteps:=3000000 }) (disch:=omega) only [go_sem])))
     intro X2 hX2
     (repeat (first|(with_reducible first|refine W_seq fun K hK=>?_|refine J_block ?_|refine J_drawn mixed (by kernel_rfl) ?_|(simp (config:={ maxSteps:=3000000 }) (disch:=omega) only [go_sem,↓reduceIte,gu,han]))|refine And.intro (by omega) ?_))
     refine callQ_fl hlc (.v _) (FrzL.cons (Frz.own0 rfl (by rw [List.length_map,hgl])) (FrzL.cons (.f _) (FrzL.nil _))) ?_
     obtain ⟨b1,b2,b3⟩:=hb64 i
     have hlk64:=(hb64 (i+1)).1
     by_cases c1:(bA l left i).1<0
     ·rw [if_pos (.inl c1)] at hbn
      (repeat (with_reducible first|refine W_seq fun K hK=>?_|refine J_region ?_|refine J_c ?_|refine Jc_true ?_|(refine Kont.go (by assumption) ?_)|(simp (config:={ maxSteps:=3000000 }) (disch:=omega) only [go_sem,↓reduceIte,c1,true_and,and_self])))
      refine rpost_n (weak_of ?_ ?_)<;>(try simp (disch:=omega) only [go_sem,Nat.reduceAdd,hbn])<;>(try first|done|omega|rfl|exact ⟨rfl,rfl⟩|trivial)
     ·by_cases c2:lk l left u<(bA l left i).2
      ·rw [if_pos (.inr c2)] at hbn
       have c2':((lk l left u:Nat):Int)<(((bA l left i).2:Nat):Int):=by omega
       (repeat (with_reducible first|refine W_seq fun K hK=>?_|refine J_region ?_|refine J_c ?_|refine Jc_true ?_|(refine Kont.go (by assumption) ?_)|(simp (config:={ maxSteps:=3000000 }) (disch:=omega) only [go_sem,↓reduceIte,c1,c2',true_and,and_self])))
       refine rpost_n (weak_of ?_ ?_)<;>(try simp (disch:=omega) only [go_sem,Nat.reduceAdd,hbn])<;>(try first|done|omega|rfl|exact ⟨rfl,rfl⟩|trivial)
      ·rw [if_neg (fun h=>h.elim c1 c2)] at hbn
       have c2':¬((lk l left u:Nat):Int)<(((bA l left i).2:Nat):Int):=by omega
       (repeat (with_reducible first|refine W_seq fun K hK=>?_|refine J_skip ?_|refine J_region ?_|refine J_c ?_|refine Jc_false ?_|(refine Kont.go (by assumption) ?_)|(simp (config:={ maxSteps:=3000000 }) (disch:=omega) only [go_sem,↓reduceIte,c1,c2',true_and])))
       refine rpost_n (weak_of ?_ ?_)<;>(try simp (disch:=omega) only [go_sem,Nat.reduceAdd,hbn])<;>(try first|done|omega|rfl|exact ⟨rfl,rfl⟩|trivial)
    ·have hel:((els left).map Int.ofNat).length=(els left).length:=by rw [List.length_map]
     rw [hel,bA_end hl0 hlt]
     have hfb:bst l left=fB P (lft v) k:=by unfold fB;rw [←hl',←hleft]
     have hbv:bst l left<v:=by
      have h1:=hFk.left (fB P (lft v) k)
      rw [←hleft,hbB.mem] at h1
      rw [hfb]
      exact of_decide_eq_true (Bool.and_eq_true_iff.1 h1.symm).1
     have gb:=hgb _ hbv
     have hS8:updS l left<256:=and_lt hgr.lt
     have hSl:=els_len (s:=updS l left)
     have han2:=u_and hgr.lt hlt (a:=l.getD (bst l left) 0) (b:=left)
     rw [show l.getD (bst l left) 0&&&left=updS l left from rfl] at han2
     have ha1:((oF P v k).length+1)*8≤140737488355328:=by rw [oF_len];omega
     have hsO:oF P v k++[I ((bst l left:Nat):Int)]=oF P v (k+1):=by rw [hfb];exact oF_next
     have hbag:updS l left|||bit (bst l left)=fBag P (lft v) k:=by unfold fBag;rw [hfb,←hl',←hleft]
     have hbag8:fBag P (lft v) k<256:=by rw [←hbag];exact or_lt hS8 (bit_lt (by omega))
     have hsh:=u_shl (v:=bst l left) (by omega)
     have hor:=u_or hS8 (bit_lt (v:=bst l left) (by omega))
     rw [hbag] at hor
     have hli:=list_w hbag8
     have hitS:=all_iter (updS l left) hS8
     have hdf:=u_an hlt (bit_lt (v:=bst l left) (by omega))
     have hbn:bF P v k++[.fz 1 (Ns (els (fBag P (lft v) k)))]=bF P v (k+1):=bF_next
     have ha2:(k+1)*24≤140737488355328:=by omega
     have hui0:((l.map U).map AV.f)=((updI l left 0).map U).map .f:=by rw [updI_zero]
     have hbne:=bF_ne (P:=P) (n:=v) (k:=k)
     have hs3:sl 7 1 (bF P v (k+1))=.own 7 1 0 (k+1):=by rw [sl_pos hbne,bF_len]
     have ho3:ob 23 1 (bF P v (k+1))=some ⟨23,1,(bF P v (k+1)).map .f⟩:=ob_pos hbne
     rcases Nat.eq_zero_or_pos k with hk0|hk0
     have hb1:[AV.f (.fz 1 (Ns (els (fBag P (lft v) k))))]=(bF P v (k+1)).map .f:=by rw [←hbn,show bF P v k=[] by rw [hk0];rfl];rfl
     have hs0:sl 7 1 (bF P v k)=AV.f nilV:=by rw [hk0];rfl
     have ho0:ob 23 1 (bF P v k)=none:=by rw [hk0];rfl
     have hk1:AV.own 13 1 0 (k+1)=AV.own 13 1 0 1:=by rw [hk0]
     simp only [go_sem]
     rw [hs0,ho0]
     (repeat (first|(with_reducible first|refine W_seq fun K hK=>?_|refine J_region ?_|refine J_orders (id:=24) [7] (.one 0 (.one 1 (.one 2 (.one 3 (.one 4 (.one 5 (.one 6 (.one 7 (.one 8 .leaf))))))))) mixed (by kernel_rfl) ?_ |refine J_drawn mixed (by kernel_rfl) ?_|refine aApp_sl ?_|(refine Kont.go (by assumption) ?_)|(simp (config:={ maxSteps:=3000000 }) (disch:=omega) only [go_sem,Nat.reduceEqDiff,↓reduceIte,Nat.reduceAdd,Nat.reduceLeDiff,gb,han2,ha1,hsO,hsh,hor]))|refine And.intro (by omega) ?_))
     (first|refine call_f (hli) rfl ?_|refine callQ_f (hli) rfl ?_|refine callHK_f (hli) rfl ?_|refine callH_f (hli) rfl ?_)
     (repeat (first|(with_reducible first|refine W_seq fun K hK=>?_|refine J_block ?_|refine J_region ?_|(refine Kont.go (by assumption) ?_)|(simp (config:={ maxSteps:=3000000 }) (disch:=omega) only [go_sem,↓reduceIte,Nat.reduceLeDiff]))|refine And.intro (by omega) ?_))
     rw [hb1]
     rotate_left
     have hne:bF P v k≠[]:=fun e=>by have:=congrArg List.length e;rw [bF_len] at this;simp at this;omega
     have hs1:sl 7 1 (bF P v k)=.own 7 1 0 k:=by rw [sl_pos hne,bF_len]
     have ho1:ob 23 1 (bF P v k)=some ⟨23,1,(bF P v k).map .f⟩:=ob_pos hne
     have hb1:((bF P v k).map AV.f).take k++[AV.f (.fz 1 (Ns (els (fBag P (lft v) k))))]=(bF P v (k+1)).map .f:=by
      rw [←hbn,List.map_append,List.take_of_length_le (by rw [List.length_map,bF_len];omega)];rfl
     have hbl:=bF_len (P:=P) (n:=v) (k:=k)
     have hk1:(True∧True)=True:=and_self _
     simp only [go_sem]
     rw [hs1,ho1]
     (repeat (first|(with_reducible first|refine W_seq fun K hK=>?_|refine J_region ?_|refine J_orders (id:=24) [7] (.one 0 (.one 1 (.one 2 (.one 3 (.one 4 (.one 5 (.one 6 (.one 7 (.one 8 .leaf))))))))) mixed (by kernel_rfl) ?_ |refine J_drawn mixed (by kernel_rfl) ?_|refine aApp_sl ?_|(refine Kont.go (by assumption) ?_)|(simp (config:={ maxSteps:=3000000 }) (disch:=omega) only [go_sem,Nat.reduceEqDiff,↓reduceIte,Nat.reduceAdd,Nat.reduceLeDiff,gb,han2,ha1,hsO,hsh,hor]))|refine And.intro (by omega) ?_))
     (first|refine call_f (hli) rfl ?_|refine callQ_f (hli) rfl ?_|refine callHK_f (hli) rfl ?_|refine callH_f (hli) rfl ?_)
     (repeat (first|(with_reducible first|refine W_seq fun K hK=>?_|refine J_block ?_|refine J_region ?_|(refine Kont.go (by assumption) ?_)|(simp (config:={ maxSteps:=3000000 }) (disch:=omega) only [go_sem,↓reduceIte,Nat.reduceLeDiff,ha2,hb1,hbl]))|refine And.intro (by omega) ?_))
     all_goals
      rw [hui0]
      refine J_mask [51,70,71,72,73,74,75,76,77,78,79,80,81,82,83,84,85,86,87] (by refine weak_of ?_ ?_<;>simp (disch:=omega) only [go_sem,Nat.reduceAdd]<;>first|rfl|exact ⟨rfl,rfl⟩|exact Or.inl rfl|exact ⟨Or.inl rfl,Or.inl rfl⟩|trivial|assumption|omega|(symm;assumption)|((repeat' apply And.intro)<;>first|rfl|omega|trivial|exact .inr ⟨rfl,rfl⟩|exact .inr rfl|(right;symm;assumption)|(symm;assumption)|assumption)) ?_;simp only [go_sem]
      refine J_rangeW hrd [18,90,91,92,93,94,95,96,97,98,99,100] (fun i=>[some ⟨23,1,[.f nilV]⟩,some ⟨22,1,[.f nilV]⟩,some ⟨25,1,[.f (I 0)]⟩,some ⟨56,1,((updI l left i).map U).map .f⟩,some ⟨52,1,[.own 3 1 0 v]⟩,some ⟨56,1,[.f (U left)]⟩,ob 3 1 (oF P v (k+1)),none,some ⟨3,1,[.f (I ((bst l left:Nat):Int))]⟩,none,some ⟨56,1,[.f (U (updS l left))]⟩,none,none,some ⟨23,1,(bF P v (k+1)).map .f⟩]) rfl (hitS) (by kernel_rfl) (by refine weak_of ?_ ?_<;>simp (disch:=omega) only [go_sem,Nat.reduceAdd]<;>first|rfl|exact ⟨rfl,rfl⟩|trivial|((repeat' apply And.intro)<;>first|rfl|trivial|exact .inl rfl|exact .inr ⟨rfl,rfl⟩|exact .inr rfl)) (by decide) (by kernel_rfl) (by kernel_rfl) ?_ ?_
      ·rintro i y hy X1 hX1 K hK
       obtain ⟨u,rfl,hu8,hus,hui,htk⟩:=els_take hy
       have huv:u<v:=hgr.below (bst l left) u (by unfold updS at hus;rw [Nat.testBit_and] at hus;exact (Bool.and_eq_true_iff.1 hus).1)
       have hcur:=updI_cur hui (by omega:u<l.length)
       have gu:(((updI l left i).map U).map AV.f)[u]?=some (.f (U (l.getD u 0))):=by
        rw [List.getElem?_map,sets_get (by rw [updI_len];omega),hcur];rfl
       have hmlI:(((updI l left i).map U).map AV.f).length=v:=by rw [List.length_map,List.length_map,updI_len,hgl]
       have hsu:=u_shl hu8
       have hd:=u_an hS8 (bit_lt hu8)
       have ho2:=u_or (hgr.lt (v:=u)) (dif_lt (b:=bit u) hS8)
       have hst:=updI_step hui (by omega:u<l.length)
       simp only [go_sem]
       (repeat (with_reducible first|refine J_region ?_|(refine Kont.go (by assumption) ?_)|(simp (config:={ maxSteps:=3000000 }) (disch:=omega) only [go_sem])))
       intro X2 hX2
       (repeat (first|(with_reducible first|refine J_block ?_|refine J_drawn mixed (by kernel_rfl) ?_|(simp (config:={ maxSteps:=3000000 }) (disch:=omega) only [go_sem,↓reduceIte,gu,hsu,hd,ho2,hst]))|refine And.intro (by omega) ?_))
       refine rpost_n (weak_of ?_ ?_)<;>(try simp (disch:=omega) only [go_sem,Nat.reduceAdd])<;>(try first|done|omega|rfl|exact ⟨rfl,rfl⟩|trivial)
      ·have hel:((els (updS l left)).map Int.ofNat).length=(els (updS l left)).length:=by rw [List.length_map]
       have hnf:fS P (lft v) (k+1)=(updL l left,dif left (bit (bst l left))):=by
        show (updL _ _,dif _ (bit (bst _ _)))=_
        rw [←hl',←hleft]
       rw [hel,updI_all hS8]
       simp only [go_sem]
       (repeat (with_reducible first|refine J_drawn mixed (by kernel_rfl) ?_|(refine Kont.go (by assumption) ?_)|(simp (config:={ maxSteps:=3000000 }) (disch:=omega) only [go_sem,↓reduceIte,hsh,hdf])))
       refine ⟨k+1,by omega,by omega,weak_ren [0,1,2,3,4,5,6,13] ⟨by decide,by first|decide|(simp;done)⟩ ?_ ?_⟩<;>(try simp (disch:=omega) only [go_sem,Nat.reduceAdd,hnf,hs3,ho3,hk1])<;>(try first|done|omega|rfl|exact ⟨rfl,rfl⟩|trivial)
end Go.Proofs.YtgjnbcfencallaaDoor
set_option linter.unusedVariables false
set_option linter.unusedSimpArgs false
namespace Go.Proofs.YtgjnbcfencallaaDoor
open Go Go.RowKit
theorem least_nat {p:Nat→Prop} (h:∃n,p n):∃n,p n∧∀m,m<n→¬p m:=by
 obtain ⟨n,hn⟩:=h
 induction n using Nat.strongRecOn with
 | _ n ih =>
  by_cases hh:∃m,m<n∧p m
  ·obtain ⟨m,hm,hp⟩:=hh;exact ih m hm hp
  ·exact ⟨n,hn,fun m hm hp=>hh ⟨m,hm,hp⟩⟩
section
variable {n left0 : Nat} {l0 : List Nat} (hF : ∀ k, k ≤ n → FOk n l0 left0 k)
include hF
theorem fl_step {k a b:Nat} (hk:k<n) (h:((fS l0 left0 k).1.getD a 0).testBit b=true):((fS l0 left0 (k+1)).1.getD a 0).testBit b=true:=by
 have hg:=(hF k (by omega)).gr
 have ha:a<n:=hg.below b a (by rw [hg.sym];exact h)
 show ((updL (fS l0 left0 k).1 (fS l0 left0 k).2).getD a 0).testBit b=true
 rw [upd_bit hg ha,h];rfl
theorem fl_mono {k a b:Nat}:∀d,k+d≤n→((fS l0 left0 k).1.getD a 0).testBit b=true→((fS l0 left0 (k+d)).1.getD a 0).testBit b=true:=by
 intro d
 induction d with
 | zero=>intro _ h;exact h
 | succ d ih=>intro hd h;exact fl_step hF (k:=k+d) (by omega) (ih (by omega) h)
theorem fl_clique {k a b:Nat} (hk:k<n) (ha:(updS (fS l0 left0 k).1 (fS l0 left0 k).2).testBit a=true) (hb:(updS (fS l0 left0 k).1 (fS l0 left0 k).2).testBit b=true) (hne:a≠b):((fS l0 left0 (k+1)).1.getD a 0).testBit b=true:=by
 have hg:=(hF k (by omega)).gr
 have han:a<n:=by
  unfold updS at ha
  exact hg.below _ a (and_bit.1 ha).1
 show ((updL (fS l0 left0 k).1 (fS l0 left0 k).2).getD a 0).testBit b=true
 rw [upd_bit hg han,ha,hb,decide_eq_true hne];simp
theorem fl_left {k u:Nat} (hk:k≤n):(fS l0 left0 k).2.testBit u=true↔u<n∧∀i,i<k→u≠fB l0 left0 i:=by
 rw [(hF k hk).left,Bool.and_eq_true,decide_eq_true_iff,decide_eq_true_iff,List.mem_map]
 exact ⟨fun ⟨h1,h2⟩=>⟨h1,fun i hi e=>h2 ⟨i,List.mem_range.2 hi,e.symm⟩⟩,fun ⟨h1,h2⟩=>⟨h1,fun ⟨i,hi,e⟩=>h2 i (List.mem_range.1 hi) e.symm⟩⟩
theorem fl_here {k:Nat} (hk:k<n):(fS l0 left0 k).2.testBit (fB l0 left0 k)=true:=((hF k (by omega)).best hk).mem
theorem fl_ne {i j:Nat} (hij:i<j) (hj:j<n):fB l0 left0 j≠fB l0 left0 i:=((fl_left hF (by omega)).1 (fl_here hF hj)).2 i hij
theorem fl_all {u:Nat} (hu:u<n):∃k,k<n∧fB l0 left0 k=u:=by
 refine Classical.byContradiction fun hn=>?_
 have h0:=(hF n (Nat.le_refl _)).end
 have:(fS l0 left0 n).2.testBit u=true:=(fl_left hF (Nat.le_refl _)).2 ⟨hu,fun i hi e=>hn ⟨i,hi,e.symm⟩⟩
 rw [h0,Nat.zero_testBit] at this;cases this
omit hF in
theorem bag_own {k:Nat}:(fBag l0 left0 k).testBit (fB l0 left0 k)=true:=by
 unfold fBag;rw [Nat.testBit_or,bit_bit,decide_eq_true rfl,Bool.or_true]
omit hF in
theorem bag_bit {k u:Nat}:(fBag l0 left0 k).testBit u=true↔(updS (fS l0 left0 k).1 (fS l0 left0 k).2).testBit u=true∨u=fB l0 left0 k:=by
 unfold fBag;rw [Nat.testBit_or,bit_bit,Bool.or_eq_true,decide_eq_true_iff]
 exact ⟨fun h=>h.imp id Eq.symm,fun h=>h.imp id Eq.symm⟩
theorem fill_elim:Elim n (fBag l0 left0) (fB l0 left0):=by
 have hS:∀k u,(updS (fS l0 left0 k).1 (fS l0 left0 k).2).testBit u=true↔((fS l0 left0 k).1.getD (fB l0 left0 k) 0).testBit u=true∧(fS l0 left0 k).2.testBit u=true:=fun k u=>by
  unfold updS;exact and_bit
 refine ⟨fun k hk=>bag_own,fun k j hkj hj=>?_,fun k hk=>?_⟩
 ·cases h:(fBag l0 left0 j).testBit (fB l0 left0 k) with
  | false=>rfl
  | true =>
   rcases bag_bit.1 h with h|h
   ·exact absurd rfl (((fl_left hF (by omega)).1 ((hS _ _).1 h).2).2 k hkj)
   ·exact absurd h.symm (fl_ne hF hkj hj)
 ·by_cases hone:∀u,(fBag l0 left0 k).testBit u=true→u=fB l0 left0 k
  ·exact .inl hone
  ·refine .inr ?_
   obtain ⟨u0,hu0⟩:=Classical.not_forall.1 hone
   obtain ⟨hb0,hne0⟩:=Classical.not_imp.1 hu0
   have hs0:=(bag_bit.1 hb0).resolve_right hne0
   obtain ⟨h1,h2⟩:=(fl_left hF (by omega)).1 ((hS _ _).1 hs0).2
   obtain ⟨j0,hj0,e0⟩:=fl_all hF h1
   have hj0k:k<j0:=by
    refine Classical.byContradiction fun hn=>?_
    by_cases e:j0=k
    ·subst e;exact hne0 e0.symm
    ·exact h2 j0 (by omega) e0.symm
   obtain ⟨j,⟨p1,p2,p3⟩,hmin⟩:=least_nat (p:=fun j=>k<j∧j<n∧(updS (fS l0 left0 k).1 (fS l0 left0 k).2).testBit (fB l0 left0 j)=true) ⟨j0,hj0k,hj0,by rw [e0];exact hs0⟩
   refine ⟨j,p1,p2,fun u hu hne=>?_⟩
   have hsu:=(bag_bit.1 hu).resolve_right hne
   refine bag_bit.2 ?_
   by_cases e:u=fB l0 left0 j
   ·exact .inr e
   ·refine .inl ((hS _ _).2 ⟨?_,?_⟩)
    ·have:=fl_clique hF hk p3 hsu (fun h=>e h.symm)
     have:=fl_mono hF (j-(k+1)) (by omega) this
     rwa [show k+1+(j-(k+1))=j by omega] at this
    ·obtain ⟨q1,q2⟩:=(fl_left hF (by omega)).1 ((hS _ _).1 hsu).2
     refine (fl_left hF (by omega)).2 ⟨q1,fun i hi ei=>?_⟩
     by_cases hik:i<k
     ·exact q2 i hik ei
     ·by_cases hik2:i=k
      ·subst hik2;exact hne ei
      ·exact hmin i hi ⟨by omega,by omega,by rw [←ei];exact hsu⟩
theorem fill_edge {a b:Nat} (h:(l0.getD a 0).testBit b=true):∃k,k<n∧(fBag l0 left0 k).testBit a=true∧(fBag l0 left0 k).testBit b=true:=by
 have hg:GrOk n l0:=(hF 0 (Nat.zero_le _)).gr
 have key:∀i j,i<j→j<n→(l0.getD (fB l0 left0 i) 0).testBit (fB l0 left0 j)=true→(fBag l0 left0 i).testBit (fB l0 left0 j)=true:=fun i j hij hj h=>by
  refine bag_bit.2 (.inl ?_)
  unfold updS
  refine and_bit.2 ⟨?_,(fl_left hF (by omega)).2 ⟨((fl_left hF (by omega)).1 (fl_here hF hj)).1,fun m hm e=>fl_ne hF (show m<j by omega) hj e⟩⟩
  have:=fl_mono hF (k:=0) i (by omega) h
  rwa [Nat.zero_add] at this
 have hb:b<n:=hg.below a b h
 have ha:a<n:=hg.below b a (by rw [hg.sym];exact h)
 obtain ⟨i,hi,rfl⟩:=fl_all hF ha
 obtain ⟨j,hj,rfl⟩:=fl_all hF hb
 by_cases e:i<j
 ·exact ⟨i,hi,bag_own,key i j e hj h⟩
 ·by_cases e2:i=j
  ·subst e2;rw [hg.irr] at h;cases h
  ·exact ⟨j,hj,key j i (by omega) hi (by rw [hg.sym];exact h),bag_own⟩
end
section
variable {n : Nat} {B v : Nat → Nat} {S : List Nat}
theorem Elim.inj (h:Elim n B v) {i j:Nat} (hi:i<n) (hj:j<n) (e:B i=B j):i=j:=by
 rcases Nat.lt_trichotomy i j with hij|hij|hij
 ·have h1:=h.own i hi;rw [e,h.out i j hij hj] at h1;cases h1
 ·exact hij
 ·have h1:=h.own j hj;rw [←e,h.out j i hij hi] at h1;cases h1
theorem inO_iff (h:Elim n B v) (hl:S.length=n) (hS:∀i,i<n→S.getD i 0=B i) {i:Nat} (hi:i<n):inO S i=true↔∃q,q<n∧q≠i∧Sb (B i) (B q):=by
 unfold inO inA inC
 rw [Bool.or_eq_true,List.any_eq_true,List.any_eq_true]
 have gt:∀q,q<i→(S.take i).getD q 0=B q:=fun q hq=>by
  rw [List.getD_eq_getElem?_getD,List.getElem?_take,if_pos hq,←List.getD_eq_getElem?_getD,hS q (by omega)]
 have gd:∀q,i+1+q<n→(S.drop (i+1)).getD q 0=B (i+1+q):=fun q hq=>by
  rw [List.getD_eq_getElem?_getD,List.getElem?_drop,←List.getD_eq_getElem?_getD,hS _ hq]
 constructor
 ·rintro (⟨q,hq,h1⟩|⟨q,hq,h1⟩)
  ·have hq:=List.mem_range.1 hq
   rw [List.length_take] at hq
   rw [gt q (by omega),hS i hi] at h1
   exact ⟨q,by omega,by omega,dif_zero.1 (of_decide_eq_true h1)⟩
  ·have hq:=List.mem_range.1 hq
   rw [List.length_drop] at hq
   rw [gd q (by omega),hS i hi] at h1
   exact ⟨i+1+q,by omega,by omega,dif_zero.1 (of_decide_eq_true (Bool.and_eq_true_iff.1 h1).1)⟩
 ·rintro ⟨q,hq,hne,hs⟩
  by_cases hqi:q<i
  ·refine .inl ⟨q,List.mem_range.2 (by rw [List.length_take];omega),?_⟩
   rw [gt q hqi,hS i hi];exact decide_eq_true (dif_zero.2 hs)
  ·refine .inr ⟨q-(i+1),List.mem_range.2 (by rw [List.length_drop];omega),?_⟩
   rw [gd _ (by omega),show i+1+(q-(i+1))=q by omega,hS i hi,decide_eq_true (dif_zero.2 hs),decide_eq_false fun e=>hne (h.inj hq hi e.symm)];rfl
theorem kpT_mem {x m:Nat}:x∈kpT S m↔∃i,i<m∧inO S i=false∧S.getD i 0=x:=by
 unfold kpT
 rw [List.mem_map]
 constructor
 ·rintro ⟨i,hi,e⟩
  obtain ⟨h1,h2⟩:=List.mem_filter.1 hi
  exact ⟨i,List.mem_range.1 h1,by simpa using h2,e⟩
 ·rintro ⟨i,h1,h2,e⟩
  exact ⟨i,List.mem_filter.2 ⟨List.mem_range.2 h1,by rw [h2];rfl⟩,e⟩
theorem kpT_nodup (h:Elim n B v) (hS:∀i,i<n→S.getD i 0=B i):(kpT S n).Nodup:=by
 unfold kpT List.Nodup
 rw [List.pairwise_map]
 refine List.Pairwise.imp_of_mem (fun {a b} ha hb hne e=>hne ?_) (List.Pairwise.filter _ (List.nodup_range (n:=n)))
 have ha:=List.mem_range.1 (List.mem_filter.1 ha).1
 have hb:=List.mem_range.1 (List.mem_filter.1 hb).1
 rw [hS a ha,hS b hb] at e
 exact h.inj ha hb e
theorem kpT_rip (h:Elim n B v) (h1:1≤n) (hl:S.length=n) (hS:∀i,i<n→S.getD i 0=B i):(∃E,Rip (kpT S n) E)∧(∀j,j<n→∃M∈kpT S n,Sb (B j) M):=by
 obtain ⟨K,E,hm,hr⟩:=elim_tree h (n-1) 0 (by omega)
 have hmem:∀x,x∈kpT S n↔x∈K:=fun x=>by
  rw [kpT_mem]
  constructor
  ·rintro ⟨i,hi,h2,rfl⟩
   obtain ⟨M,hM,hs⟩:=hm.all i (Nat.zero_le _) hi
   obtain ⟨q,_,hq,rfl⟩:=hm.src M hM
   by_cases e:q=i
   ·subst e;rw [hS q hq];exact hM
   ·have:=(inO_iff h hl hS hi).2 ⟨q,hq,e,hs⟩
    rw [h2] at this;cases this
  ·intro hx
   obtain ⟨j,_,hj,rfl⟩:=hm.src x hx
   refine ⟨j,hj,?_,hS j hj⟩
   cases ho:inO S j with
   | false=>rfl
   | true =>
    obtain ⟨q,hq,hne,hs⟩:=(inO_iff h hl hS hj).1 ho
    obtain ⟨N,hN,hs2⟩:=hm.all q (Nat.zero_le _) hq
    have e:=hm.anti _ hx N hN (hs.trans hs2)
    have hs3:Sb (B q) (B j):=by rw [e];exact hs2
    exact absurd (h.inj hj hq (ext_bits' fun u=>by rw [Bool.eq_iff_iff];exact ⟨hs u,hs3 u⟩)) (fun e=>hne e.symm)
 have hlen:(kpT S n).length=K.length:=Nat.le_antisymm (List.Nodup.length_le_of_subset (kpT_nodup h hS) fun x hx=>(hmem x).1 hx) (List.Nodup.length_le_of_subset hm.nd fun x hx=>(hmem x).2 hx)
 refine ⟨⟨E,fun x hx y hy=>hr.cn x ((hmem x).1 hx) y ((hmem y).1 hy),fun p hp=>⟨(hmem _).2 (hr.ends p hp).1,(hmem _).2 (hr.ends p hp).2⟩,by rw [hlen];exact hr.len⟩,fun j hj=>?_⟩
 obtain ⟨M,hM,hs⟩:=hm.all j (Nat.zero_le _) hj
 exact ⟨M,(hmem M).2 hM,hs⟩
end
section
variable {K : List Nat} {done a b : Nat} {o : Option (Nat × Nat)}
theorem stpB_le:mostI K o≤mostI K (stpB K done a o b):=by
 unfold stpB
 split
 ·rename_i h;exact Int.le_of_lt h.2
 ·exact Int.le_refl _
theorem stpB_ge (h:done.testBit b=false):(cnt K a b:Int)≤mostI K (stpB K done a o b):=by
 unfold stpB
 split
 ·exact Int.le_refl _
 ·rename_i hn
  exact Int.not_lt.1 fun hlt=>hn ⟨h,hlt⟩
theorem rowL_le:∀x,mostI K o≤mostI K (rowL K done a o x):=by
 intro x
 induction x with
 | zero=>exact Int.le_refl _
 | succ x ih=>rw [rowL_next];exact Int.le_trans ih stpB_le
theorem rowL_ge (h:done.testBit b=false):∀x,b<x→(cnt K a b:Int)≤mostI K (rowL K done a o x):=by
 intro x
 induction x with
 | zero=>intro h;omega
 | succ x ih =>
  intro hx
  rw [rowL_next]
  by_cases e:b=x
  ·subst e;exact stpB_ge h
  ·exact Int.le_trans (ih (by omega)) stpB_le
theorem rowsL_le:∀(l:List Nat) (o:Option (Nat × Nat)),mostI K o≤mostI K (l.foldl (fun o a=>rowL K done a o K.length) o):=by
 intro l
 induction l with
 | nil=>intro o;exact Int.le_refl _
 | cons c l ih=>intro o;exact Int.le_trans (rowL_le _) (ih _)
theorem rowsL_ge (hb:b<K.length) (h:done.testBit b=false):∀(l:List Nat) (o:Option (Nat × Nat)),a∈l→(cnt K a b:Int)≤mostI K (l.foldl (fun o a=>rowL K done a o K.length) o):=by
 intro l
 induction l with
 | nil=>intro o h;cases h
 | cons c l ih =>
  intro o hm
  rcases List.mem_cons.1 hm with rfl|hm
  ·exact Int.le_trans (rowL_ge h _ hb) (rowsL_le l _)
  ·exact ih _ hm
theorem bst_most {j:Nat} (h:TrOk K j) (hm:K.length≤8) (hj:j+1<K.length) (ha:(trS K j).2.testBit a=true) (hb:b<K.length) (hf:(trS K j).2.testBit b=false):cnt K a b≤cnt K (bstL K (trS K j).2).1 (bstL K (trS K j).2).2:=by
 have h1:=(h.best hm hj).1
 have h2:=rowsL_ge hb hf (els (trS K j).2) none (els_mem.2 ⟨bits_lt8 h.lt ha,ha⟩)
 unfold rowsL at h1
 rw [h1] at h2
 exact Int.ofNat_le.1 h2
end
def fE (K:List Nat) (l:List (Nat × Nat)):List (Nat × Nat):=l.map fun p=>(K.getD p.1 0,K.getD p.2 0)
theorem getD_inj {K:List Nat} (hK:K.Nodup) {i j:Nat} (hi:i<K.length) (hj:j<K.length) (e:K.getD i 0=K.getD j 0):i=j:=by
 rw [lget_lt K 0 hi,lget_lt K 0 hj] at e
 refine Classical.byContradiction fun hne=>?_
 have hp:=List.pairwise_iff_getElem.1 hK
 rcases Nat.lt_or_gt_of_ne hne with h|h
 ·exact hp i j hi hj h e
 ·exact hp j i hj hi h e.symm
theorem prim {K:List Nat} (hK:K.Nodup) (h8:K.length≤8) (hlt:∀v,K.getD v 0<256) {E0:List (Nat × Nat)} (h0:Rip K E0) :
  ∀j,j+1≤K.length→(∃G,Rip K (fE K (trS K j).1++G))∧∀p∈(trS K j).1,(trS K j).2.testBit p.1=true∧(trS K j).2.testBit p.2=true:=by
 intro j
 induction j with
 | zero=>intro _;exact ⟨⟨E0,h0⟩,fun p hp=>by cases hp⟩
 | succ j ih =>
  intro hj
  obtain ⟨⟨G,hG⟩,hin⟩:=ih (by omega)
  have hT:=TrOk.all (K:=K) (by omega) h8 j (by omega)
  obtain ⟨b1,b2,b3,b4,b5⟩:=hT.best h8 (by omega)
  have hmost:∀a b,(trS K j).2.testBit a=true→b<K.length→(trS K j).2.testBit b=false→cnt K a b≤cnt K (bstL K (trS K j).2).1 (bstL K (trS K j).2).2:=fun a b ha hb hf=>bst_most hT h8 (by omega) ha hb hf
  have hs1:(trS K (j+1)).1=(trS K j).1++[bstL K (trS K j).2]:=rfl
  have hs2:(trS K (j+1)).2=(trS K j).2|||bit (bstL K (trS K j).2).2:=rfl
  obtain ⟨p,hp⟩:∃p,p=bstL K (trS K j).2:=⟨_,rfl⟩
  obtain ⟨done,hd⟩:∃done,done=(trS K j).2:=⟨_,rfl⟩
  rw [←hp] at hs1 hs2 b2 b3 b4 b5 hmost
  rw [←hd] at hs2 b2 b3 hmost hin
  have hbelow:∀u,done.testBit u=true→u<K.length:=by rw [hd];exact hT.below
  refine ⟨?_,fun q hq=>?_⟩
  ·have gm:∀i,i<K.length→K.getD i 0∈K:=fun i hi=>by rw [lget_lt K 0 hi];exact List.getElem_mem hi
   have hcnt:∀i i',cnt K i i'=(els (K.getD i 0&&&K.getD i' 0)).length:=fun _ _=>rfl
   obtain ⟨G',hG'⟩:=exchange (fun x=>∃i,i<K.length∧done.testBit i=true∧K.getD i 0=x) hG (fun q hq=>by
    obtain ⟨r,hr,rfl⟩:=List.mem_map.1 hq
    obtain ⟨r1,r2⟩:=hin r hr
    exact ⟨⟨r.1,hbelow _ r1,r1,rfl⟩,⟨r.2,hbelow _ r2,r2,rfl⟩⟩) (gm p.1 b4) (gm p.2 b5) ⟨p.1,b4,b2,rfl⟩ (fun ⟨i,hi,h1,h2⟩=>by
     have:=getD_inj hK hi b5 h2
     rw [this,b3] at h1;cases h1) (fun c hc d hd' hDc hDd hs=>by
     obtain ⟨i,hi,hi2,rfl⟩:=hDc
     obtain ⟨i',hi',rfl⟩:=List.getElem_of_mem hd'
     have hf:done.testBit i'=false:=by
      cases h:done.testBit i' with
      | false=>rfl
      | true=>exact absurd ⟨i',hi',h,lget_lt K 0 hi'⟩ hDd
     have hle:=hmost i i' hi2 hi' hf
     rw [←lget_lt K 0 hi'] at hs ⊢
     rw [hcnt,hcnt] at hle
     by_cases e:K.getD p.1 0&&&K.getD p.2 0=K.getD i 0&&&K.getD i' 0
     ·rw [e];exact Sb.refl _
     ·have:=(els_lt (and_lt (hlt _)) (and_lt (hlt _)) (dif_zero.2 hs)).2 e
      omega)
   refine ⟨G',?_⟩
   have e:fE K (trS K (j+1)).1++G'=fE K (trS K j).1++(K.getD p.1 0,K.getD p.2 0)::G':=by
    rw [hs1];unfold fE;rw [List.map_append,List.append_assoc];rfl
   rw [e];exact hG'
  ·rw [hs1] at hq
   rw [hs2,Nat.testBit_or,Nat.testBit_or]
   rcases List.mem_append.1 hq with hq|hq
   ·obtain ⟨q1,q2⟩:=hin q hq
    rw [q1,q2];exact ⟨rfl,rfl⟩
   ·rw [List.mem_singleton.1 hq,b2,bit_bit,bit_bit,decide_eq_true (rfl:p.2=p.2),Bool.or_true];exact ⟨rfl,rfl⟩
theorem prim_end {K:List Nat} (hK:K.Nodup) (h8:K.length≤8) (h1:1≤K.length) (hlt:∀v,K.getD v 0<256) {E0:List (Nat × Nat)} (h0:Rip K E0):Rip K (fE K (trS K (K.length-1)).1)∧∀p∈(trS K (K.length-1)).1,p.1<K.length∧p.2<K.length:=by
 obtain ⟨⟨G,hG⟩,hin⟩:=prim hK h8 hlt h0 (K.length-1) (by omega)
 have hT:=TrOk.all (K:=K) h1 h8 (K.length-1) (by omega)
 have hl:=hG.len
 have hG0:G=[]:=by
  refine List.length_eq_zero_iff.1 ?_
  have:=hT.len
  unfold fE at hl
  rw [List.length_append,List.length_map] at hl
  omega
 rw [hG0,List.append_nil] at hG
 exact ⟨hG,fun p hp=>⟨hT.below _ (hin p hp).1,hT.below _ (hin p hp).2⟩⟩
end Go.Proofs.YtgjnbcfencallaaDoor
