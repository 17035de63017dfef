/- Fill, the document's way: walked. Conditions: what slices may hold. -/
import Derived.Test.YtgjnbcfencallaaDoorZB11
import Derived.Test.YtgjnbcfencallaaDoorZGrQ
import Derived.Test.YtgjnbcfencallaaDoorZB06
import Derived.Test.YtgjnbcfencallaaDoorZB07
set_option linter.unusedVariables false
set_option linter.unusedSimpArgs false
namespace Go.Proofs.YtgjnbcfencallaaDoor
open Go Go.RowKit
def wt (P:List Nat) (v u:Nat):Wx:=fun a b=>if a<v∨(a=v∧b<u) then wl P a b else false
set_option maxRecDepth 100000 in
set_option maxHeartbeats 8000000 in
theorem rFill_w (L:List (List Int)) (hL:OkIss L):Good Tryd.prog 21 [.fz 1 (L.map ints)] (.tup [.fz 1 (Ns (filO L)),.fz 1 (gvs (filB L)),I (filE L)]):=by
 have hlo:=listsOK_w L hL
 obtain ⟨vO,hvO⟩:∃vO,vO=filO L:=⟨_,rfl⟩
 obtain ⟨vB,hvB⟩:∃vB,vB=filB L:=⟨_,rfl⟩
 obtain ⟨vE,hvE⟩:∃vE,vE=filE L:=⟨_,rfl⟩
 rw [←hvO,←hvB,←hvE]
 have bad:¬(listsB L=true∧symB L=true)→vO=[]∧vB=[]∧vE=11:=fun h=>by
  rw [hvO,hvB,hvE]
  unfold filO filB filE
  rw [if_neg h,if_neg h,if_neg h]
  exact ⟨rfl,rfl,rfl⟩
 have g0:gvs []=[]:=rfl
 have n0:Ns []=[]:=rfl
 refine good_of Tryd.func21 rfl (by kernel_rfl) fun X hO hrd=>?_;rw [Tryd.ntmps21,Tryd.results21];simp only [ast0,List.map_cons,List.map_nil,List.length_cons,List.length_nil,Nat.reduceAdd,Nat.reduceSub,List.replicate_succ,List.replicate_zero,List.cons_append,List.nil_append]
 (repeat (with_reducible first|refine W_seq fun K hK=>?_|refine J_region ?_ |(refine Kont.go (by assumption) ?_)|(simp (config:={ maxSteps:=3000000 }) (disch:=omega) only [go_sem])))
 refine call_f hlo rfl ?_
 cases hb:listsB L with
 | false =>
  obtain ⟨e1,e2,e3⟩:=bad (by rw [hb];simp)
  (repeat (with_reducible first|refine W_seq fun K hK=>?_|refine J_ret ?_|refine J_region ?_ |refine J_c ?_|refine Jc_true ?_|(refine Kont.go (by assumption) ?_)|(simp (config:={ maxSteps:=3000000 }) (disch:=omega) only [go_sem])))
  rw [e1,e2,e3,g0,n0]
  exact ⟨_,rfl,FrzL.cons (.nil _) (FrzL.cons (.nil _) (FrzL.cons (.f _) (FrzL.nil _)))⟩
 | true =>
  have hg:=GP.of hb
  rw [gvs_of hb]
  have hsy:symB L=(List.range L.length).all fun v=>(els ((setsOf L).getD v 0)).all fun u=>((setsOf L).getD u 0).testBit v:=rfl
  have hok:=fun h=>symB_ok (L:=L) hb h
  obtain ⟨P,hP⟩:∃P,P=setsOf L:=⟨_,rfl⟩
  obtain ⟨n,hn⟩:∃n,n=L.length:=⟨_,rfl⟩
  rw [←hP,←hn] at hg hok hsy
  rw [←hP]
  have hl:=hg.len
  have hn8:=hg.n8
  have hgl:(gvs P).length=n:=by rw [gvs_len,hl]
  have hgg:∀v,v<n→(gvs P)[v]?=some (.fz 1 (Ns (els (P.getD v 0)))):=fun v hv=>gvs_get (by omega)
  have hin:∀u v,u<n→Good Tryd.prog 26 [I (u:Int),.fz 1 (Ns (els (P.getD v 0)))] (Bo (wl P v u)):=fun u v hu=>by
   have h:=rinN_w u (els (P.getD v 0)) (by omega) (Nat.le_trans els_len (by omega))
   have e:decide (u∈els (P.getD v 0))=wl P v u:=by
    unfold wl
    cases hv:(P.getD v 0).testBit u with
    | false=>exact decide_eq_false fun hm=>by rw [(els_mem.1 hm).2] at hv;cases hv
    | true=>exact decide_eq_true (els_mem.2 ⟨by omega,hv⟩)
   rwa [e] at h
  (repeat (with_reducible first|refine W_seq fun K hK=>?_|refine J_skip ?_|((fail_if_success refine J_region (id:=5) ?_);refine J_region ?_) |refine J_c ?_|refine Jc_false ?_|(refine Kont.go (by assumption) ?_)|(simp (config:={ maxSteps:=3000000 }) (disch:=omega) only [go_sem,hgl])))
  refine J_reserve ?_
  refine J_reserve ?_
  refine J_reserve ?_
  (repeat (first|(with_reducible first|refine W_seq fun K hK=>?_|refine J_block ?_|refine J_region ?_ |(refine Kont.go (by assumption) ?_)|(simp (config:={ maxSteps:=3000000 }) (disch:=omega) only [go_sem,Nat.reduceAdd,oesF_zero (c:=4)]))|refine And.intro (by omega) ?_))
  have hH:[none,none,none,some (AO.mk 70 1 (oesF 4 n 0))]=dy [none,none,none,some (AO.mk 70 1 (oesF 4 n 0))] 4 1 (rowsB n (wt P 0 0) 0) []:=rfl
  rw [hH]
  refine W_loop [2,3,4,8,9,10,31,32,33,34,35,36,37,38,39,40,41,42,43,44,45,46,47,48,49,50,51,52,53,54,55,56,57,58,59,60,61,62,63,64,65,66,67,68,69,70,71,72] (fun x:Nat=>[(8,.f (I x))]) (fun x:Nat=>dy [none,none,none,some ⟨70,1,oesF 4 n x⟩] 4 1 (rowsB n (wt P x 0) x) []) (fun x:Nat=>x≤n∧∀a,a<x→∀b,b<n→wl P a b=wl P b a) (fun x:Nat=>n-x) (0) (⟨Nat.zero_le _,fun a h=>by omega⟩) (by refine weak_of ?_ ?_<;>simp (disch:=omega) only [go_sem,Nat.reduceAdd]<;>first|rfl|exact ⟨rfl,rfl⟩|exact Or.inl rfl|exact ⟨Or.inl rfl,Or.inl rfl⟩|trivial|assumption|omega|(symm;assumption)|((repeat' apply And.intro)<;>first|rfl|omega|trivial|exact .inl rfl|exact .inr ⟨rfl,rfl⟩|exact .inr rfl|(right;symm;assumption)|(symm;assumption)|assumption)) ?_
  rintro v ⟨hv,hp⟩
  simp only [go_sem]
  (repeat (with_reducible first|refine W_seq fun K hK=>?_|refine J_region ?_ |refine J_c ?_|(refine Kont.go (by assumption) ?_)|(simp (config:={ maxSteps:=3000000 }) (disch:=omega) only [go_sem])))
  refine Jc_if (fun hvn=>?_) (fun hvn=>?_)<;>try simp only [decide_eq_true_eq,decide_eq_false_iff_not] at hvn
  ·have hRl:(rowsB n (wt P v 0) v).length=v:=rowsB_len
   have hrf:=rowB_false (n:=n) (W:=wt P v 0) (i:=v) (fun u hu=>by unfold wt;rw [if_neg (by omega)])
   have hos:=oesF_set (c:=4) (x:=v) (n:=n) hvn
   have hov:(oesF 4 n v)[v]?=some (.f nilV):=by simp [oesF,hvn]
   have hR1:∀x,rowsB n (wt P v x) v++[rowB n (wt P v x) v]=rowsB n (wt P v x) (v+1):=fun x=>rowsB_next
   (repeat (first|(with_reducible first|refine W_seq fun K hK=>?_|refine J_block ?_|refine J_skip ?_|refine J_region ?_ |(refine Kont.go (by assumption) ?_)|(simp (config:={ maxSteps:=3000000 }) (disch:=omega) only [go_sem,↓reduceIte,Nat.reduceAdd,hov,hrf,hos,dy_close,hR1]))|refine And.intro (by omega) ?_))
   refine W_loop [2,3,4,9,10,41,42,43,44,45,46,47,48,49,50,51,52,53,54,55,56,57,58,59,60,61,62,63,64,65,66,67,68,69,70,71,72] (fun x:Nat=>[(9,.f (I x))]) (fun x:Nat=>dy [none,none,none,some ⟨70,1,oesF 4 n (v+1)⟩] 4 1 (rowsB n (wt P v x) (v+1)) []) (fun x:Nat=>x≤n∧∀b,b<x→wl P v b=wl P b v) (fun x:Nat=>n-x) (0) (⟨Nat.zero_le _,fun a h=>by omega⟩) (by refine weak_of ?_ ?_<;>simp (disch:=omega) only [go_sem,Nat.reduceAdd]<;>first|rfl|exact ⟨rfl,rfl⟩|exact Or.inl rfl|exact ⟨Or.inl rfl,Or.inl rfl⟩|trivial|assumption|omega|(symm;assumption)|((repeat' apply And.intro)<;>first|rfl|omega|trivial|exact .inl rfl|exact .inr ⟨rfl,rfl⟩|exact .inr rfl|(right;symm;assumption)|(symm;assumption)|assumption)) ?_
   rintro u ⟨hu,hq⟩
   simp only [go_sem]
   (repeat (with_reducible first|refine W_seq fun K hK=>?_|refine J_region ?_ |refine J_c ?_|(refine Kont.go (by assumption) ?_)|(simp (config:={ maxSteps:=3000000 }) (disch:=omega) only [go_sem])))
   refine Jc_if (fun hun=>?_) (fun hun=>?_)<;>try simp only [decide_eq_true_eq,decide_eq_false_iff_not] at hun
   ·have gv:=hgg v hvn
    have gu:=hgg u hun
    have i1:=hin u v hun
    have i2:=hin v u hvn
    have o1:=oesF_get (c:=4) (n:=n) (x:=v+1) (i:=v) (by omega) hvn
    (repeat (first|(with_reducible first|refine W_seq fun K hK=>?_|refine J_block ?_|refine J_skip ?_|refine J_drawn mixed (by kernel_rfl) ?_|(refine Kont.go (by assumption) ?_)|(simp (config:={ maxSteps:=3000000 }) (disch:=omega) only [go_sem,↓reduceIte,gv,o1]))|refine And.intro (by omega) ?_))
    have A0:AO:=⟨70,1,oesF 4 n (v+1)⟩
    have hup:(rowsB n (wt P v u) (v+1)).set v ((rowB n (wt P v u) v).set u (Bo (wl P v u)))=rowsB n (wt P v (u+1)) (v+1):=rowsB_upd (by omega) hun fun a b ha hb=>by
     unfold wt
     by_cases e:a=v∧b=u
     ·rw [if_pos e,if_pos (by omega),e.1,e.2]
     ·rw [if_neg e]
      have:(a<v∨a=v∧b<u+1)=(a<v∨a=v∧b<u):=propext ⟨fun h=>by omega,fun h=>by omega⟩
      simp only [this]
    have hmap:((rowB n (wt P v u) v).map AV.f).set u (.f (Bo (wl P v u)))=((rowB n (wt P v u) v).set u (Bo (wl P v u))).map .f:=by rw [List.map_set]
    have g1:∀(a b c d:Option AO) (x:Nat),(dy [a,b,c,d] 4 1 (rowsB n (wt P v x) (v+1)) [])[4+v]?=some (some ⟨4,1,(rowB n (wt P v x) v).map .f⟩):=fun a b c d x=>dy_getR rfl (rowsB_get (by omega))
    have hset:∀(a b c d:Option AO),(dy [a,b,c,d] 4 1 (rowsB n (wt P v u) (v+1)) []).set (4+v) (some ⟨4,1,((rowB n (wt P v u) v).set u (Bo (wl P v u))).map .f⟩)=dy [a,b,c,d] 4 1 (rowsB n (wt P v (u+1)) (v+1)) []:=fun a b c d=>by
     rw [dy_setR (a:=4) rfl (by rw [rowsB_len];omega),hup]
    have v1:=rowB_get (n:=n) (W:=wt P v u) (i:=v) (j:=u) hun
    have v2:=rowB_get (n:=n) (W:=wt P v (u+1)) (i:=v) (j:=u) hun
    have v3:wt P v (u+1) v u=wl P v u:=by unfold wt;rw [if_pos (by omega)]
    rw [v3] at v2
    (first|refine call_f (i1) rfl ?_|refine callQ_f (i1) rfl ?_|refine callHK_f (i1) rfl ?_|refine callH_f (i1) rfl ?_)
    (repeat (with_reducible first|refine W_seq fun K hK=>?_|refine J_region ?_ |(refine Kont.go (by assumption) ?_)|(simp (config:={ maxSteps:=3000000 }) (disch:=omega) only [go_sem,↓reduceIte,g1,v1,hmap,hset,hun,gu])))
    (first|refine call_f (i2) rfl ?_|refine callQ_f (i2) rfl ?_|refine callHK_f (i2) rfl ?_|refine callH_f (i2) rfl ?_)
    by_cases e:wl P v u=wl P u v
    ·have eb:(wl P v u==wl P u v)=true:=beq_iff_eq.2 e
     (repeat (first|(with_reducible first|refine W_seq fun K hK=>?_|refine J_skip ?_|refine J_region ?_ |refine J_c ?_|refine Jc_false ?_|(refine Kont.go (by assumption) ?_)|(simp (config:={ maxSteps:=3000000 }) (disch:=omega) only [go_sem,↓reduceIte,g1,v2,o1,eb,bin_neb Tryd.underlying4,Bool.not_true]))|refine And.intro (by omega) ?_))
     refine ⟨u+1,⟨by omega,upto_next (p:=fun b=>wl P v b=wl P b v) hq e⟩,by omega,weak_of ?_ ?_⟩<;>(try simp (disch:=omega) only [go_sem,Nat.reduceAdd])<;>(try first|done|omega|rfl|exact ⟨rfl,rfl⟩|trivial)
    ·have hns:¬(listsB L=true∧symB L=true):=fun h=>e ((hok h.2).sym v u)
     obtain ⟨e1,e2,e3⟩:=bad hns
     have eb:(wl P v u==wl P u v)=false:=beq_eq_false_iff_ne.2 e
     (repeat (first|(with_reducible first|refine W_seq fun K hK=>?_|refine J_ret ?_|refine J_region ?_ |refine J_c ?_|refine Jc_true ?_|(refine Kont.go (by assumption) ?_)|(simp (config:={ maxSteps:=3000000 }) (disch:=omega) only [go_sem,↓reduceIte,g1,v2,o1,eb,bin_neb Tryd.underlying4,Bool.not_false]))|refine And.intro (by omega) ?_))
     rw [e1,e2,e3,g0,n0]
     exact ⟨_,rfl,FrzL.cons (.nil _) (FrzL.cons (.nil _) (FrzL.cons (.f _) (FrzL.nil _)))⟩
   ·have he:u=n:=by omega
    subst he
    have hR2:rowsB u (wt P v u) (v+1)=rowsB u (wt P (v+1) 0) (v+1):=rowsB_congr fun a b ha hb=>by
     unfold wt;rw [if_pos (by omega),if_pos (by omega)]
    (repeat (with_reducible first|refine J_exit ?_|refine J_region ?_ |(refine Kont.go (by assumption) ?_)|(simp (config:={ maxSteps:=3000000 }) (disch:=omega) only [go_sem,↓reduceIte])))
    rw [hR2]
    refine ⟨v+1,⟨by omega,upto_next (p:=fun a=>∀b,b<u→wl P a b=wl P b a) hp hq⟩,by omega,weak_of ?_ ?_⟩<;>(try simp (disch:=omega) only [go_sem,Nat.reduceAdd])<;>(try first|done|omega|rfl|exact ⟨rfl,rfl⟩|trivial)
  ·have he:n=v:=by omega
   subst he
   have hsyt:symB L=true:=by
    rw [hsy,List.all_eq_true]
    intro a ha
    rw [List.all_eq_true]
    intro u hu
    have hu1:=(els_mem.1 hu).2
    have:=hp a (List.mem_range.1 ha) u (hg.lt a u hu1)
    unfold wl at this
    rw [←this];exact hu1
   have hGr:=hok hsyt
   have hF:=FOk.all (left0:=lft n) hGr (fun u=>lft_bit hn8) (lft_lt hn8)
   have e1:vO=(List.range n).map (fB P (lft n)):=by rw [hvO];unfold filO;rw [if_pos ⟨hb,hsyt⟩,←hP,←hn]
   have e2:vB=(List.range n).map (fBag P (lft n)):=by rw [hvB];unfold filB;rw [if_pos ⟨hb,hsyt⟩,←hP,←hn]
   have e3:vE=0:=by rw [hvE];unfold filE;rw [if_pos ⟨hb,hsyt⟩]
   have hR0:rowsB n (wt P n 0) n=rowsB n (wl (fS P (lft n) 0).1) n:=rowsB_congr fun a b ha _=>by unfold wt;rw [if_pos (.inl ha)];rfl
   (repeat (with_reducible first|refine W_seq fun K hK=>?_|refine J_block ?_|refine J_exit ?_|refine J_region ?_ |(refine Kont.go (by assumption) ?_)|(simp (config:={ maxSteps:=3000000 }) (disch:=omega) only [go_sem,↓reduceIte])))
   rw [hR0]
   refine W_loop [11,12,13,14,15,16,17,18,19,20,21,22,73,74,75,76,77,78,79,80,81,82,83,84,85,86,87,88,89,90,91,92,93,94,95,96,97,98,99,100,101,102,103,104,105,106,107,108,109,110,111,112,113,114,115,116,117,118,119,120,121,122,123,124,125,126,127,128,129,130,131,132,133,134,135,136,137,138,139,140,141,142,143,144,145,146,147,148,149,150,151,152,153,154,155,156,157,158,159,160,161,162,163,164,165,166,167,168] (fun k:Nat=>[(11,sl 0 1 (oF P n k)),(12,sl 1 1 (bF P n k))]) (fun k:Nat=>dy [ob 3 1 (oF P n k),ob 23 1 (bF P n k),none,some ⟨70,1,oesF 4 n n⟩] 4 1 (rowsB n (wl (fS P (lft n) k).1) n) []) (fun k:Nat=>k≤n) (fun k:Nat=>n-k) (0) (Nat.zero_le _) (by refine weak_of ?_ ?_<;>simp (disch:=omega) only [go_sem,Nat.reduceAdd]<;>first|rfl|exact ⟨rfl,rfl⟩|exact Or.inl rfl|exact ⟨Or.inl rfl,Or.inl rfl⟩|trivial|assumption|omega|(symm;assumption)|((repeat' apply And.intro)<;>first|rfl|omega|trivial|exact .inl rfl|exact .inr ⟨rfl,rfl⟩|exact .inr rfl|(right;symm;assumption)|(symm;assumption)|assumption)) ?_
   rintro k hk
   have hFk:=hF k hk
   obtain ⟨l,hl'⟩:∃l,l=(fS P (lft n) k).1:=⟨_,rfl⟩
   obtain ⟨left,hleft⟩:∃left,left=(fS P (lft n) k).2:=⟨_,rfl⟩
   rw [←hl']
   have hgr:=hFk.gr
   have hlt:=hFk.lt
   have hlb:=hFk.left
   rw [←hl'] at hgr
   rw [←hleft] at hlt hlb
   have hol:=oF_len (P:=P) (n:=n) (k:=k)
   simp only [go_sem]
   (repeat (with_reducible first|refine W_seq fun K hK=>?_|refine J_region ?_ |refine J_c ?_|(refine Kont.go (by assumption) ?_)|(simp (config:={ maxSteps:=3000000 }) (disch:=omega) only [go_sem,hol])))
   refine Jc_if (fun hkn=>?_) (fun hkn=>?_)<;>try simp only [decide_eq_true_eq,decide_eq_false_iff_not] at hkn
   ·have hl0:left≠0:=by rw [hleft];exact hFk.ne hkn
    have hbl:∀u,left.testBit u=true→u<n:=fun u hu=>by
     rw [hlb] at hu;exact of_decide_eq_true (Bool.and_eq_true_iff.1 hu).1
    have hin2:∀u,u<n→Good Tryd.prog 26 [I (u:Int),.fz 1 (oF P n k)] (Bo (!left.testBit u)):=fun u hu=>by
     have h:=rinN_w u ((List.range k).map (fB P (lft n))) (by omega) (by simp;omega)
     have e:decide (u∈(List.range k).map (fB P (lft n)))=!left.testBit u:=by
      rw [hlb,decide_eq_true hu,Bool.true_and,decide_not,Bool.not_not]
     rwa [e] at h
    have hlc:∀u,u<n→Good Tryd.prog 48 [.fz 1 ((List.range n).map fun v=>.fz 1 (rowB n (wl l) v)),I (u:Int),.fz 1 (oF P n k)] (I ((lk l left u:Nat):Int)):=fun u hu=>by
     have h:=dlacks_w (n:=n) (l:=l) (o:=(List.range k).map (fB P (lft n))) hn8 hu (by simp;omega)
     rwa [dl_lk hgr hlb] at h
    have hfz:∀a b c:Option AO,Frz (dy [a,b,c,some ⟨70,1,oesF 4 n n⟩] 4 1 (rowsB n (wl l) n) []) (.own 3 1 0 n) (.fz 1 ((List.range n).map fun v=>.fz 1 (rowB n (wl l) v))):=fun a b c=>frz_rows rfl rfl
    have hfo:∀b c d:Option AO,Frz (dy [ob 3 1 (oF P n k),b,c,d] 4 1 (rowsB n (wl l) n) []) (sl 0 1 (oF P n k)) (.fz 1 (oF P n k)):=fun b c d=>.sl rfl
    have hz0:I ((n:Int)-1)=I ((n:Int)-1-((0:Nat):Int)):=by rw [Int.natCast_zero,Int.sub_zero]
    (repeat (with_reducible first|refine W_seq fun K hK=>?_|refine J_block ?_|refine J_skip ?_|refine J_region ?_ |(refine Kont.go (by assumption) ?_)|(simp (config:={ maxSteps:=3000000 }) (disch:=omega) only [go_sem,Int.reduceNeg])))
    refine W_loop [13,14,15,16,17,79,80,81,82,83,84,85,86,87,88,89,90,91,92,93,94,95,96,97,98,99] (fun j:Nat=>[(13,.f (I (bD l left n j).1)),(14,.f (I (((bD l left n j).2:Nat):Int))),(15,.f (I ((n:Int)-1-(j:Int))))]) (fun j:Nat=>dy [ob 3 1 (oF P n k),ob 23 1 (bF P n k),none,some ⟨70,1,oesF 4 n n⟩] 4 1 (rowsB n (wl l) n) []) (fun j:Nat=>j≤n) (fun j:Nat=>n-j) (0) (Nat.zero_le _) (by refine weak_of ?_ ?_<;>simp (disch:=omega) only [go_sem,Nat.reduceAdd]<;>first|rfl|exact ⟨rfl,rfl⟩|exact Or.inl rfl|exact ⟨Or.inl rfl,Or.inl rfl⟩|trivial|assumption|omega|(symm;assumption)|((repeat' apply And.intro)<;>first|rfl|omega|trivial|exact .inl rfl|exact .inr ⟨rfl,rfl⟩|exact .inr rfl|(right;symm;assumption)|(symm;assumption)|assumption)) ?_
    rintro j hj
    obtain ⟨b1,b2,b3⟩:=bD_le (l:=l) (left:=left) hbl hn8 hj
    simp only [go_sem]
    (repeat (with_reducible first|refine W_seq fun K hK=>?_|refine J_region ?_ |refine J_c ?_|(refine Kont.go (by assumption) ?_)|(simp (config:={ maxSteps:=3000000 }) (disch:=omega) only [go_sem])))
    refine Jc_if (fun hjn=>?_) (fun hjn=>?_)<;>try simp only [decide_eq_true_eq,decide_eq_false_iff_not] at hjn
    ·have hju:(n:Int)-1-(j:Int)=((n-1-j:Nat):Int):=by omega
     have hun:n-1-j<n:=by omega
     have hbn:bD l left n (j+1)=if left.testBit (n-1-j)=true∧((bD l left n j).1<0∨lk l left (n-1-j)≤(bD l left n j).2) then (((n-1-j:Nat):Int),lk l left (n-1-j)) else bD l left n j:=rfl
     obtain ⟨u,hu⟩:∃u,u=n-1-j:=⟨_,rfl⟩
     rw [←hu] at hju hun hbn
     have hi:=hin2 u (by omega)
     have hlcu:=hlc u (by omega)
     have hnx:I ((u:Int)-1)=I ((n:Int)-1-((j+1:Nat):Int)):=by rw [show (u:Int)-1=(n:Int)-1-((j+1:Nat):Int) by omega]
     rw [hju]
     (repeat (with_reducible first|refine W_seq fun K hK=>?_|refine J_block ?_|refine J_skip ?_|refine J_region ?_ |(refine Kont.go (by assumption) ?_)|(simp (config:={ maxSteps:=3000000 }) (disch:=omega) only [go_sem])))
     (first|refine call_fl (hi) (by first|exact .v _|exact .agg _ (by intro j c h;simp at h;subst h;exact .v _)) (by repeat (first|exact FrzL.nil _|refine FrzL.cons (by first|exact .f _|exact .nil _|exact .sl rfl|exact .sl (by simp;done)) ?_)) ?_|refine callQ_fl (hi) (by first|exact .v _|exact .agg _ (by intro j c h;simp at h;subst h;exact .v _)) (by repeat (first|exact FrzL.nil _|refine FrzL.cons (by first|exact .f _|exact .nil _|exact .sl rfl|exact .sl (by simp;done)) ?_)) ?_|refine callH_fl (hi) (by first|exact .v _|exact .agg _ (by intro j c h;simp at h;subst h;exact .v _)) (by repeat (first|exact FrzL.nil _|refine FrzL.cons (by first|exact .f _|exact .nil _|exact .sl rfl|exact .sl (by simp;done)) ?_)) ?_)
     cases ht:left.testBit u with
     | false =>
      rw [if_neg (fun h=>by rw [ht] at h;cases h.1)] at hbn
      (repeat (with_reducible first|refine W_seq fun K hK=>?_|refine J_exit ?_|refine J_region ?_ |refine J_c ?_|refine Jc_true ?_|(refine Kont.go (by assumption) ?_)|(simp (config:={ maxSteps:=3000000 }) (disch:=omega) only [go_sem,↓reduceIte,Bool.not_false])))
      refine ⟨j+1,by omega,by omega,weak_of ?_ ?_⟩<;>(try simp (disch:=omega) only [go_sem,Nat.reduceAdd,hbn,hnx])<;>(try first|done|omega|rfl|exact ⟨rfl,rfl⟩|trivial)
     | true =>
      (repeat (with_reducible first|refine W_seq fun K hK=>?_|refine J_skip ?_|refine J_region ?_ |refine J_c ?_|refine Jc_false ?_|(refine Kont.go (by assumption) ?_)|(simp (config:={ maxSteps:=3000000 }) (disch:=omega) only [go_sem,Bool.not_true])))
      refine call_fl hlcu (.v _) (FrzL.cons (hfz _ _ _) (FrzL.cons (.f _) (FrzL.cons (hfo _ _ _) (FrzL.nil _)))) ?_
      by_cases c1:(bD l left n j).1<0
      ·rw [if_pos ⟨ht,.inl c1⟩] at hbn
       (repeat (with_reducible first|refine W_seq fun K hK=>?_|refine J_region ?_ |refine J_c ?_|refine Jc_true ?_|(refine Kont.go (by assumption) ?_)|(simp (config:={ maxSteps:=3000000 }) (disch:=omega) only [go_sem,c1])))
       refine ⟨j+1,by omega,by omega,weak_of ?_ ?_⟩<;>(try simp (disch:=omega) only [go_sem,Nat.reduceAdd,hbn,hnx])<;>(try first|done|omega|rfl|exact ⟨rfl,rfl⟩|trivial)
      ·by_cases c2:lk l left u≤(bD l left n j).2
       ·rw [if_pos ⟨ht,.inr c2⟩] at hbn
        have c2':((lk l left u:Nat):Int)≤(((bD l left n j).2:Nat):Int):=by omega
        (repeat (with_reducible first|refine W_seq fun K hK=>?_|refine J_region ?_ |refine J_c ?_|refine Jc_true ?_|(refine Kont.go (by assumption) ?_)|(simp (config:={ maxSteps:=3000000 }) (disch:=omega) only [go_sem,c1,c2'])))
        refine ⟨j+1,by omega,by omega,weak_of ?_ ?_⟩<;>(try simp (disch:=omega) only [go_sem,Nat.reduceAdd,hbn,hnx])<;>(try first|done|omega|rfl|exact ⟨rfl,rfl⟩|trivial)
       ·rw [if_neg (fun h=>h.2.elim c1 c2)] at hbn
        have c2':¬((lk l left u:Nat):Int)≤(((bD l left n j).2:Nat):Int):=by omega
        (repeat (with_reducible first|refine W_seq fun K hK=>?_|refine J_skip ?_|refine J_region ?_ |refine J_c ?_|refine Jc_false ?_|(refine Kont.go (by assumption) ?_)|(simp (config:={ maxSteps:=3000000 }) (disch:=omega) only [go_sem,c1,c2'])))
        refine ⟨j+1,by omega,by omega,weak_of ?_ ?_⟩<;>(try simp (disch:=omega) only [go_sem,Nat.reduceAdd,hbn,hnx])<;>(try first|done|omega|rfl|exact ⟨rfl,rfl⟩|trivial)
    ·rw [show j=n by omega,bD_end hl0 hlt hbl hn8]
     obtain ⟨b,hbb⟩:∃b,b=bst l left:=⟨_,rfl⟩
     have hIB:=bst_lt (l:=l) hl0 hlt
     rw [←hbb] at hIB ⊢
     have hbn:=hbl b hIB.mem
     obtain ⟨s,hs⟩:∃s,s=updS l left|||bit b:=⟨_,rfl⟩
     have hbag:s=fBag P (lft n) k:=by rw [hs,hbb,hl',hleft];rfl
     have hfb:b=fB P (lft n) k:=by rw [hbb,hl',hleft];rfl
     have hsb:∀u,s.testBit u=(wl l b u&&left.testBit u||decide (b=u)):=fun u=>by
      rw [hs,Nat.testBit_or,bit_bit];unfold updS;rw [Nat.testBit_and,←hbb];rfl
     have hob:=oesF_get (c:=4) (n:=n) (x:=n) (i:=b) hbn hbn
     have hrw:∀(a b' c d:Option AO) (B:AH),(dy [a,b',c,d] 4 1 (rowsB n (wl l) n) B)[4+b]?=some (some ⟨4,1,(rowB n (wl l) b).map .f⟩):=fun a b' c d B=>dy_getR rfl (rowsB_get hbn)
     have hgN:∀r,4≤r→gNm 4 [0,1,4+n,3] r=r:=fun r h=>gNm_ge h
     have hre:(oesF 4 n n).map (AV.ren (gNm 4 [0,1,4+n,3]))=oesF 4 n n:=oesF_ren hgN
     have hg0:gNm 4 [0,1,4+n,3] 0=0:=rfl
     have hg1:gNm 4 [0,1,4+n,3] 1=1:=rfl
     have hg2:gNm 4 [0,1,4+n,3] 2=4+n:=rfl
     have hg3:gNm 4 [0,1,4+n,3] 3=3:=rfl
     have hRn:(rowsB n (wl l) n).length=n:=rowsB_len
     have hgB0:∀(a b' c d:Option AO) (B:AH),(dy [a,b',c,d] 4 1 (rowsB n (wl l) n) B)[4+n]?=B[0]?:=fun a b' c d B=>dy_getB0 rfl hRn
     (repeat (with_reducible first|refine W_seq fun K hK=>?_|refine J_block ?_|refine J_exit ?_|refine J_region ?_ |(refine Kont.go (by assumption) ?_)|(simp (config:={ maxSteps:=3000000 }) (disch:=omega) only [go_sem,↓reduceIte])))
     refine W_loop [18,19,20,100,101,102,103,104,105,106,107,108,109,110,111,112,113,114,115,116,117,118,119,120,121,122,123,124,125,126,127] (fun x:Nat=>[(18,sl 2 1 (Ns (bgT s x))),(19,.f (I x))]) (fun x:Nat=>dy [ob 3 1 (oF P n k),ob 23 1 (bF P n k),ob 3 1 (Ns (bgT s x)),some ⟨70,1,oesF 4 n n⟩] 4 1 (rowsB n (wl l) n) []) (fun x:Nat=>x≤n) (fun x:Nat=>n-x) (0) (Nat.zero_le _) (by refine weak_of ?_ ?_<;>simp (disch:=omega) only [go_sem,Nat.reduceAdd]<;>first|rfl|exact ⟨rfl,rfl⟩|exact Or.inl rfl|exact ⟨Or.inl rfl,Or.inl rfl⟩|trivial|assumption|omega|(symm;assumption)|((repeat' apply And.intro)<;>first|rfl|omega|trivial|exact .inl rfl|exact .inr ⟨rfl,rfl⟩|exact .inr rfl|(right;symm;assumption)|(symm;assumption)|assumption)) ?_
     rintro u hu
     have hbgl:=bgT_len (s:=s) (x:=u)
     simp only [go_sem]
     (repeat (with_reducible first|refine W_seq fun K hK=>?_|refine J_region ?_ |refine J_c ?_|(refine Kont.go (by assumption) ?_)|(simp (config:={ maxSteps:=3000000 }) (disch:=omega) only [go_sem])))
     refine Jc_if (fun hun=>?_) (fun hun=>?_)<;>try simp only [decide_eq_true_eq,decide_eq_false_iff_not] at hun
     ·have hi:=hin2 u hun
      have hru:=rowB_get (n:=n) (W:=wl l) (i:=b) (j:=u) hun
      have hsu:=hsb u
      have hal:((Ns (bgT s u)).length+1)*8≤140737488355328:=by rw [Ns_len];omega
      (repeat (with_reducible first|refine W_seq fun K hK=>?_|refine J_block ?_|refine J_skip ?_|refine J_region ?_ |(refine Kont.go (by assumption) ?_)|(simp (config:={ maxSteps:=3000000 }) (disch:=omega) only [go_sem])))
      (first|refine call_fl (hi) (by first|exact .v _|exact .agg _ (by intro j c h;simp at h;subst h;exact .v _)) (by repeat (first|exact FrzL.nil _|refine FrzL.cons (by first|exact .f _|exact .nil _|exact .sl rfl|exact .sl (by simp;done)) ?_)) ?_|refine callQ_fl (hi) (by first|exact .v _|exact .agg _ (by intro j c h;simp at h;subst h;exact .v _)) (by repeat (first|exact FrzL.nil _|refine FrzL.cons (by first|exact .f _|exact .nil _|exact .sl rfl|exact .sl (by simp;done)) ?_)) ?_|refine callH_fl (hi) (by first|exact .v _|exact .agg _ (by intro j c h;simp at h;subst h;exact .v _)) (by repeat (first|exact FrzL.nil _|refine FrzL.cons (by first|exact .f _|exact .nil _|exact .sl rfl|exact .sl (by simp;done)) ?_)) ?_)
      cases ht:left.testBit u with
      | false =>
       have hsf:s.testBit u=false:=by
        rw [hsu,ht,decide_eq_false (fun e=>by rw [←e,hIB.mem] at ht;cases ht)];simp
       have ho:=bgT_out (x:=u) hsf
       (repeat (with_reducible first|refine W_seq fun K hK=>?_|refine J_skip ?_|refine J_region ?_ |refine J_c ?_|refine Jc_false ?_|(refine Kont.go (by assumption) ?_)|(simp (config:={ maxSteps:=3000000 }) (disch:=omega) only [go_sem,Bool.not_false])))
       refine ⟨u+1,by omega,by omega,weak_of ?_ ?_⟩<;>(try simp (disch:=omega) only [go_sem,Nat.reduceAdd,ho])<;>(try first|done|omega|rfl|exact ⟨rfl,rfl⟩|trivial)
      | true =>
       by_cases e:u=b
       ·have hst:s.testBit u=true:=by rw [hsu,e];simp
        have hin3:=bgT_in hst
        have heT:(u=b)=True:=eq_true e
        (repeat (first|(with_reducible first|refine W_seq fun K hK=>?_|refine J_region ?_ |refine aApp_sl ?_|refine J_c ?_|refine Jc_true ?_|(refine Kont.go (by assumption) ?_)|(simp (config:={ maxSteps:=3000000 }) (disch:=omega) only [go_sem,Nat.reduceEqDiff,↓reduceIte,Nat.reduceAdd,Nat.reduceLeDiff,Bool.not_true,heT,Int.natCast_inj,decide_true,hal,hin3,hRn,hgB0]))|refine And.intro (by omega) ?_))
        refine ⟨u+1,by omega,by omega,weak_of ?_ ?_⟩<;>(try simp (disch:=omega) only [go_sem,Nat.reduceAdd])<;>(try first|done|omega|rfl|exact ⟨rfl,rfl⟩|trivial)
       ·cases hw:wl l b u with
        | false =>
         have hsf:s.testBit u=false:=by rw [hsu,hw,decide_eq_false (fun h=>e h.symm)];rfl
         have ho:=bgT_out (x:=u) hsf
         rw [hw] at hru
         (repeat (first|(with_reducible first|refine W_seq fun K hK=>?_|refine J_skip ?_|refine J_region ?_ |refine J_c ?_|refine Jc_false ?_|(refine Kont.go (by assumption) ?_)|(simp (config:={ maxSteps:=3000000 }) (disch:=omega) only [go_sem,↓reduceIte,Bool.not_true,e,Int.natCast_inj,hob,hrw,hru,decide_false]))|refine And.intro (by omega) ?_))
         refine ⟨u+1,by omega,by omega,weak_of ?_ ?_⟩<;>(try simp (disch:=omega) only [go_sem,Nat.reduceAdd,ho])<;>(try first|done|omega|rfl|exact ⟨rfl,rfl⟩|trivial)
        | true =>
         have hst:s.testBit u=true:=by rw [hsu,hw,ht];rfl
         have hin3:=bgT_in hst
         rw [hw] at hru
         (repeat (first|(with_reducible first|refine W_seq fun K hK=>?_|refine J_region ?_ |refine aApp_sl ?_|refine J_c ?_|refine Jc_true ?_|(refine Kont.go (by assumption) ?_)|(simp (config:={ maxSteps:=3000000 }) (disch:=omega) only [go_sem,Nat.reduceEqDiff,↓reduceIte,Nat.reduceAdd,Nat.reduceLeDiff,Bool.not_true,e,Int.natCast_inj,hob,hrw,hru,decide_false,hal,hin3,hRn,hgB0]))|refine And.intro (by omega) ?_))
         refine ⟨u+1,by omega,by omega,weak_of ?_ ?_⟩<;>(try simp (disch:=omega) only [go_sem,Nat.reduceAdd])<;>(try first|done|omega|rfl|exact ⟨rfl,rfl⟩|trivial)
     ·have hsn:∀u,s.testBit u=true→u<n:=fun u hu=>by
       rw [hsb] at hu
       cases h:decide (b=u) with
       | true=>rw [←of_decide_eq_true h];exact hbn
       | false=>rw [h,Bool.or_false] at hu;exact hbl u (Bool.and_eq_true_iff.1 hu).2
      rw [show u=n by omega,bgT_end hn8 hsn]
      obtain ⟨B,hB⟩:∃B,B=els s:=⟨_,rfl⟩
      have hBn:∀i y,B[i]?=some y→y<n:=fun i y h=>by
       have hm:=List.mem_of_getElem? h
       rw [hB] at hm
       exact hsn y (els_mem.1 hm).2
      have hB8:B.length≤8:=by rw [hB];exact els_len
      have hBe:bF P n k++[.fz 1 (Ns B)]=bF P n (k+1):=by rw [hB,hbag];exact bF_next
      have hWe:rowsB n (wb (wl l) B B.length 0) n=rowsB n (wl (fS P (lft n) (k+1)).1) n:=by
       have hnf:(fS P (lft n) (k+1)).1=updL l left:=by rw [hl',hleft];rfl
       rw [wb_end,hnf]
       refine rowsB_congr fun a c ha hc=>?_
       rw [bag_upd hgr ha,←hbb,←hs]
       have hd:∀v,v<n→decide (v∈B)=s.testBit v:=fun v hv=>by
        rw [hB]
        cases h:s.testBit v with
        | false=>exact decide_eq_false fun hm=>by rw [(els_mem.1 hm).2] at h;cases h
        | true=>exact decide_eq_true (els_mem.2 ⟨by omega,h⟩)
       rw [hd a ha,hd c hc]
      rw [←hB]
      have hBl:(Ns B).length=B.length:=Ns_len
      have hW0:rowsB n (wl l) n=rowsB n (wb (wl l) B 0 0) n:=by rw [wb_zero]
      refine J_freeze (j:=18) rfl rfl ?_
      simp only [go_sem,Nat.reduceEqDiff]
      (repeat (with_reducible first|refine W_seq fun K hK=>?_|refine J_block ?_|refine J_exit ?_|refine J_region ?_ |(refine Kont.go (by assumption) ?_)|(simp (config:={ maxSteps:=3000000 }) (disch:=omega) only [go_sem,↓reduceIte])))
      rw [hW0]
      refine W_loop [21,22,128,129,130,131,132,133,134,135,136,137,138,139,140,141,142,143,144,145,146,147,148,149,150,151,152,153,154,155,156,157,158,159,160] (fun i:Nat=>[(21,.f (I i))]) (fun i:Nat=>dy [ob 3 1 (oF P n k),ob 23 1 (bF P n k),none,some ⟨70,1,oesF 4 n n⟩] 4 1 (rowsB n (wb (wl l) B i 0) n) []) (fun i:Nat=>i≤B.length) (fun i:Nat=>B.length-i) (0) (Nat.zero_le _) (by refine weak_of ?_ ?_<;>simp (disch:=omega) only [go_sem,Nat.reduceAdd]<;>first|rfl|exact ⟨rfl,rfl⟩|exact Or.inl rfl|exact ⟨Or.inl rfl,Or.inl rfl⟩|trivial|assumption|omega|(symm;assumption)|((repeat' apply And.intro)<;>first|rfl|omega|trivial|exact .inl rfl|exact .inr ⟨rfl,rfl⟩|exact .inr rfl|(right;symm;assumption)|(symm;assumption)|assumption)) ?_
      rintro i hi
      simp only [go_sem]
      (repeat (with_reducible first|refine W_seq fun K hK=>?_|refine J_region ?_ |refine J_c ?_|(refine Kont.go (by assumption) ?_)|(simp (config:={ maxSteps:=3000000 }) (disch:=omega) only [go_sem,hBl])))
      refine Jc_if (fun hil=>?_) (fun hil=>?_)<;>try simp only [decide_eq_true_eq,decide_eq_false_iff_not] at hil
      ·obtain ⟨y,hy⟩:∃y,y=B[i]:=⟨_,rfl⟩
       have gi:B[i]?=some y:=by rw [hy];exact List.getElem?_eq_getElem hil
       have hyn:=hBn i y gi
       (repeat (with_reducible first|refine W_seq fun K hK=>?_|refine J_block ?_|refine J_skip ?_|refine J_region ?_ |(refine Kont.go (by assumption) ?_)|(simp (config:={ maxSteps:=3000000 }) (disch:=omega) only [go_sem])))
       refine W_loop [22,134,135,136,137,138,139,140,141,142,143,144,145,146,147,148,149,150,151,152,153,154,155,156,157,158,159,160] (fun m:Nat=>[(22,.f (I m))]) (fun m:Nat=>dy [ob 3 1 (oF P n k),ob 23 1 (bF P n k),none,some ⟨70,1,oesF 4 n n⟩] 4 1 (rowsB n (wb (wl l) B i m) n) []) (fun m:Nat=>m≤B.length) (fun m:Nat=>B.length-m) (0) (Nat.zero_le _) (by refine weak_of ?_ ?_<;>simp (disch:=omega) only [go_sem,Nat.reduceAdd]<;>first|rfl|exact ⟨rfl,rfl⟩|exact Or.inl rfl|exact ⟨Or.inl rfl,Or.inl rfl⟩|trivial|assumption|omega|(symm;assumption)|((repeat' apply And.intro)<;>first|rfl|omega|trivial|exact .inl rfl|exact .inr ⟨rfl,rfl⟩|exact .inr rfl|(right;symm;assumption)|(symm;assumption)|assumption)) ?_
       rintro m hm
       simp only [go_sem]
       (repeat (with_reducible first|refine W_seq fun K hK=>?_|refine J_region ?_ |refine J_c ?_|(refine Kont.go (by assumption) ?_)|(simp (config:={ maxSteps:=3000000 }) (disch:=omega) only [go_sem,hBl])))
       refine Jc_if (fun hml=>?_) (fun hml=>?_)<;>try simp only [decide_eq_true_eq,decide_eq_false_iff_not] at hml
       ·obtain ⟨z,hz⟩:∃z,z=B[m]:=⟨_,rfl⟩
        have gm:B[m]?=some z:=by rw [hz];exact List.getElem?_eq_getElem hml
        have hzn:=hBn m z gm
        have ny:(Ns B)[i]?=some (I (y:Int)):=by unfold Ns;rw [List.getElem?_map,gi];rfl
        have nz:(Ns B)[m]?=some (I (z:Int)):=by unfold Ns;rw [List.getElem?_map,gm];rfl
        by_cases e:y=z
        ·have ws:=wb_same (W:=wl l) gi (e▸gm)
         have heT:(y=z)=True:=eq_true e
         (repeat (with_reducible first|refine W_seq fun K hK=>?_|refine J_block ?_|refine J_skip ?_|refine J_region ?_ |refine J_drawn mixed (by kernel_rfl) ?_|refine J_c ?_|refine Jc_false ?_|(refine Kont.go (by assumption) ?_)|(simp (config:={ maxSteps:=3000000 }) (disch:=omega) only [go_sem,↓reduceIte,ny,nz,heT,Int.natCast_inj,decide_true,Bool.not_true,true_and])))
         refine ⟨m+1,by omega,by omega,weak_of ?_ ?_⟩<;>(try simp (disch:=omega) only [go_sem,Nat.reduceAdd,ws])<;>(try first|done|omega|rfl|exact ⟨rfl,rfl⟩|trivial)
        ·have oy:=oesF_get (c:=4) (n:=n) (x:=n) (i:=y) hyn hyn
         have hup:(rowsB n (wb (wl l) B i m) n).set y ((rowB n (wb (wl l) B i m) y).set z (Bo true))=rowsB n (wb (wl l) B i (m+1)) n:=rowsB_upd hyn hzn fun a c ha hc=>wb_set gi gm e a c
         have hmap:((rowB n (wb (wl l) B i m) y).map AV.f).set z (.f (Bo true))=((rowB n (wb (wl l) B i m) y).set z (Bo true)).map .f:=by rw [List.map_set]
         have g1:∀(a b c d:Option AO),(dy [a,b,c,d] 4 1 (rowsB n (wb (wl l) B i m) n) [])[4+y]?=some (some ⟨4,1,(rowB n (wb (wl l) B i m) y).map .f⟩):=fun a b c d=>dy_getR rfl (rowsB_get hyn)
         have hset:∀(a b c d:Option AO),(dy [a,b,c,d] 4 1 (rowsB n (wb (wl l) B i m) n) []).set (4+y) (some ⟨4,1,((rowB n (wb (wl l) B i m) y).set z (Bo true)).map .f⟩)=dy [a,b,c,d] 4 1 (rowsB n (wb (wl l) B i (m+1)) n) []:=fun a b c d=>by
          rw [dy_setR (a:=4) rfl (by rw [rowsB_len];exact hyn),hup]
         have v1:=rowB_get (n:=n) (W:=wb (wl l) B i m) (i:=y) (j:=z) hzn
         (repeat (first|(with_reducible first|refine W_seq fun K hK=>?_|refine J_block ?_|refine J_skip ?_|refine J_region ?_ |refine J_drawn mixed (by kernel_rfl) ?_|refine J_c ?_|refine Jc_true ?_|(refine Kont.go (by assumption) ?_)|(simp (config:={ maxSteps:=3000000 }) (disch:=omega) only [go_sem,↓reduceIte,ny,nz,e,Int.natCast_inj,decide_false,Bool.not_false,oy,g1,v1,hmap,hset,hzn,true_and,and_self]))|refine And.intro (by omega) ?_))
         refine ⟨m+1,by omega,by omega,weak_of ?_ ?_⟩<;>(try simp (disch:=omega) only [go_sem,Nat.reduceAdd])<;>(try first|done|omega|rfl|exact ⟨rfl,rfl⟩|trivial)
       ·rw [show m=B.length by omega,wb_row gi]
        (repeat (with_reducible first|refine J_exit ?_|refine J_region ?_ |(refine Kont.go (by assumption) ?_)|(simp (config:={ maxSteps:=3000000 }) (disch:=omega) only [go_sem,↓reduceIte])))
        refine ⟨i+1,by omega,by omega,weak_of ?_ ?_⟩<;>(try simp (disch:=omega) only [go_sem,Nat.reduceAdd])<;>(try first|done|omega|rfl|exact ⟨rfl,rfl⟩|trivial)
      ·rw [show i=B.length by omega,hWe]
       have ha1:((oF P n k).length+1)*8≤140737488355328:=by rw [oF_len];omega
       have hsO:oF P n k++[I (b:Int)]=oF P n (k+1):=by rw [hfb];exact oF_next
       have ha2:((bF P n k).length+1)*24≤140737488355328:=by rw [bF_len];omega
       have hRe:(rowsB n (wl (fS P (lft n) (k+1)).1) n).length=n:=rowsB_len
       have hgC:∀(a b' c d:Option AO) (B:AH) (j:Nat),(dy [a,b',c,d] 4 1 (rowsB n (wl (fS P (lft n) (k+1)).1) n) B)[4+(n+j)]?=B[j]?:=fun a b' c d B j=>dy_getB rfl hRe
       have hgC0:∀(a b' c d:Option AO) (B:AH),(dy [a,b',c,d] 4 1 (rowsB n (wl (fS P (lft n) (k+1)).1) n) B)[4+n]?=B[0]?:=fun a b' c d B=>dy_getB0 rfl hRe
       (repeat (first|(with_reducible first|refine W_seq fun K hK=>?_|refine J_exit ?_|refine J_region ?_ |refine aApp_sl ?_|(refine Kont.go (by assumption) ?_)|(simp (config:={ maxSteps:=3000000 }) (disch:=omega) only [go_sem,Nat.reduceEqDiff,↓reduceIte,Nat.reduceAdd,Nat.reduceLeDiff,ha1,hsO,ha2,hBe,hRe,hgC,hgC0]))|refine And.intro (by omega) ?_))
       refine ⟨k+1,by omega,by omega,weak_of ?_ ?_⟩<;>(try simp (disch:=omega) only [go_sem,Nat.reduceAdd])<;>(try first|done|omega|rfl|exact ⟨rfl,rfl⟩|trivial)
   ·have he:k=n:=by omega
    subst he
    (repeat (with_reducible first|refine W_seq fun K hK=>?_|refine J_exit ?_|refine J_ret ?_|refine J_region ?_ |(refine Kont.go (by assumption) ?_)|(simp (config:={ maxSteps:=3000000 }) (disch:=omega) only [go_sem,↓reduceIte])))
    rw [e1,e2,e3]
    exact ⟨_,rfl,FrzL.cons (.sl rfl) (FrzL.cons (.sl rfl) (FrzL.cons (.f _) (FrzL.nil _)))⟩
end Go.Proofs.YtgjnbcfencallaaDoor
set_option linter.unusedVariables false
set_option linter.unusedSimpArgs false
namespace Go.Proofs.YtgjnbcfencallaaDoor
open Go Go.RowKit
set_option maxRecDepth 100000 in
theorem sameInts_w (l:List Int) (hn:l.length≤140737488355328):Good Tryd.prog 10 [ints l,ints l] (Bo true):=by
 refine good_of Tryd.func10 rfl (by kernel_rfl) fun X hO hrd=>?_;rw [Tryd.ntmps10,Tryd.results10];simp only [ast0,List.map_cons,List.map_nil,List.length_cons,List.length_nil,Nat.reduceAdd,Nat.reduceSub,List.replicate_succ,List.replicate_zero,List.cons_append,List.nil_append]
 (repeat (with_reducible first|refine W_seq fun K hK=>?_|refine J_block ?_|refine J_skip ?_|refine J_region ?_ |refine J_c ?_|refine Jc_false ?_|(refine Kont.go (by assumption) ?_)|(simp (config:={ maxSteps:=3000000 }) (disch:=omega) only [go_sem,List.length_map])))
 refine W_loop [4,5,11,12,13,14,15,16,17,18,19,20,21,22,23,24,25] (fun x:Nat=>[(5,.f (I x))]) (fun x:Nat=>[]) (fun x:Nat=>x≤l.length) (fun x:Nat=>l.length-x) (0) (Nat.zero_le _) (by refine weak_of ?_ ?_<;>simp (disch:=omega) only [go_sem]<;>first|rfl|exact ⟨rfl,rfl⟩|exact Or.inl rfl|exact ⟨Or.inl rfl,Or.inl rfl⟩|trivial|assumption|omega|(symm;assumption)|((repeat' apply And.intro)<;>first|rfl|omega|trivial|exact .inl rfl|exact .inr ⟨rfl,rfl⟩|exact .inr rfl|(right;symm;assumption)|(symm;assumption)|assumption)) ?_
 rintro i hi
 simp only [go_sem]
 (repeat (with_reducible first|refine W_seq fun K hK=>?_|refine J_region ?_ |refine J_c ?_|(refine Kont.go (by assumption) ?_)|(simp (config:={ maxSteps:=3000000 }) (disch:=omega) only [go_sem,List.length_map])))
 refine Jc_if (fun hlt=>?_) (fun hlt=>?_)<;>try simp only [decide_eq_true_eq,decide_eq_false_iff_not] at hlt
 ·(repeat (with_reducible first|refine W_seq fun K hK=>?_|refine J_block ?_|refine J_skip ?_|refine J_region ?_ |refine J_drawn mixed (by kernel_rfl) ?_|refine J_c ?_|refine Jc_false ?_|(refine Kont.go (by assumption) ?_)|(simp (config:={ maxSteps:=3000000 }) (disch:=omega) only [go_sem,↓reduceIte,map_get I l hlt,hlt])))
  refine ⟨i+1,by omega,by omega,weak_of ?_ ?_⟩<;>(try simp (disch:=omega) only [go_sem])<;>(try first|done|omega|rfl|exact ⟨rfl,rfl⟩|trivial)
 ·(repeat (with_reducible first|refine W_seq fun K hK=>?_|refine J_exit ?_|refine J_ret ?_|refine J_region ?_ |exact Frz.f _|(refine Kont.go (by assumption) ?_)|(simp (config:={ maxSteps:=3000000 }) (disch:=omega) only [go_sem,↓reduceIte])))
set_option maxRecDepth 100000 in
theorem sameLists_w (m:List (List Int)) (hn:m.length≤140737488355328) (hr:∀r∈m,r.length≤140737488355328):Good Tryd.prog 19 [.fz 1 (m.map ints),.fz 1 (m.map ints)] (Bo true):=by
 refine good_of Tryd.func19 rfl (by kernel_rfl) fun X hO hrd=>?_;rw [Tryd.ntmps19,Tryd.results19];simp only [ast0,List.map_cons,List.map_nil,List.length_cons,List.length_nil,Nat.reduceAdd,Nat.reduceSub,List.replicate_succ,List.replicate_zero,List.cons_append,List.nil_append]
 (repeat (with_reducible first|refine W_seq fun K hK=>?_|refine J_block ?_|refine J_skip ?_|refine J_region ?_ |refine J_c ?_|refine Jc_false ?_|(refine Kont.go (by assumption) ?_)|(simp (config:={ maxSteps:=3000000 }) (disch:=omega) only [go_sem,List.length_map])))
 refine W_loop [4,5,11,12,13,14,15,16,17,18,19,20,21,22,23,24,25,26] (fun x:Nat=>[(5,.f (I x))]) (fun x:Nat=>[]) (fun x:Nat=>x≤m.length) (fun x:Nat=>m.length-x) (0) (Nat.zero_le _) (by refine weak_of ?_ ?_<;>simp (disch:=omega) only [go_sem]<;>first|rfl|exact ⟨rfl,rfl⟩|exact Or.inl rfl|exact ⟨Or.inl rfl,Or.inl rfl⟩|trivial|assumption|omega|(symm;assumption)|((repeat' apply And.intro)<;>first|rfl|omega|trivial|exact .inl rfl|exact .inr ⟨rfl,rfl⟩|exact .inr rfl|(right;symm;assumption)|(symm;assumption)|assumption)) ?_
 rintro i hi
 simp only [go_sem]
 (repeat (with_reducible first|refine W_seq fun K hK=>?_|refine J_region ?_ |refine J_c ?_|(refine Kont.go (by assumption) ?_)|(simp (config:={ maxSteps:=3000000 }) (disch:=omega) only [go_sem,List.length_map])))
 refine Jc_if (fun hlt=>?_) (fun hlt=>?_)<;>try simp only [decide_eq_true_eq,decide_eq_false_iff_not] at hlt
 ·(repeat (with_reducible first|refine W_seq fun K hK=>?_|refine J_block ?_|refine J_skip ?_|refine J_drawn mixed (by kernel_rfl) ?_|(refine Kont.go (by assumption) ?_)|(simp (config:={ maxSteps:=3000000 }) (disch:=omega) only [go_sem,↓reduceIte,map_get ints m hlt,hlt])))
  refine callQ_f (sameInts_w m[i] (hr _ (List.getElem_mem _))) rfl ?_
  (repeat (with_reducible first|refine J_skip ?_|refine J_region ?_ |refine J_c ?_|refine Jc_false ?_|(refine Kont.go (by assumption) ?_)|(simp (config:={ maxSteps:=3000000 }) (disch:=omega) only [go_sem])))
  refine ⟨i+1,by omega,by omega,weak_of ?_ ?_⟩<;>(try simp (disch:=omega) only [go_sem])<;>(try first|done|omega|rfl|exact ⟨rfl,rfl⟩|trivial)
 ·(repeat (with_reducible first|refine W_seq fun K hK=>?_|refine J_exit ?_|refine J_ret ?_|refine J_region ?_ |exact Frz.f _|(refine Kont.go (by assumption) ?_)|(simp (config:={ maxSteps:=3000000 }) (disch:=omega) only [go_sem,↓reduceIte])))
def hvGo (n:Nat):List (List Int)→Nat
 | []=>n
 | r::l=>if n≤512 then hvGo (n+r.length) l else n
set_option maxRecDepth 100000 in
theorem heavyLists_w (L:List (List Int)) (hl:L.length≤140737488355328) (hr:∀r∈L,r.length≤140737488355328):∃b,Good Tryd.prog 7 [.fz 1 (L.map ints)] (Bo b):=by
 obtain ⟨g,hg⟩:∃g,g=hvGo L.length L:=⟨_,rfl⟩
 refine ⟨decide ((512:Int)<((g:Nat):Int)),?_⟩
 refine good_of Tryd.func7 rfl (by kernel_rfl) fun X hO hrd=>?_;rw [Tryd.ntmps7,Tryd.results7];simp only [ast0,List.map_cons,List.map_nil,List.length_cons,List.length_nil,Nat.reduceAdd,Nat.reduceSub,List.replicate_succ,List.replicate_zero,List.cons_append,List.nil_append]
 (repeat (with_reducible first|refine W_seq fun K hK=>?_|refine J_block ?_|refine J_region ?_ |(refine Kont.go (by assumption) ?_)|(simp (config:={ maxSteps:=3000000 }) (disch:=omega) only [go_sem,List.length_map])))
 refine W_loop [3,4,7,8,9,10,11,12,13,14,15,16,17,18,19,20,21,22,23] (fun x:Nat × Nat=>[(3,.f (I x.2)),(4,.f (I x.1))]) (fun x:Nat × Nat=>[]) (fun x:Nat × Nat=>x.1≤L.length∧hvGo x.2 (L.drop x.1)=g∧x.2≤281474976710656) (fun x:Nat × Nat=>L.length-x.1) ((0,L.length)) (⟨Nat.zero_le _,hg.symm,by simp only;omega⟩) (by refine weak_of ?_ ?_<;>simp (disch:=omega) only [go_sem]<;>first|rfl|exact ⟨rfl,rfl⟩|exact Or.inl rfl|exact ⟨Or.inl rfl,Or.inl rfl⟩|trivial|assumption|omega|(symm;assumption)|((repeat' apply And.intro)<;>first|rfl|omega|trivial|exact .inl rfl|exact .inr ⟨rfl,rfl⟩|exact .inr rfl|(right;symm;assumption)|(symm;assumption)|assumption)) ?_
 rintro ⟨i,n⟩ ⟨hi,hn,hb⟩
 simp only at hi hn hb
 simp only [go_sem]
 by_cases hlt:i<L.length
 ·have hd:L.drop i=L[i]::L.drop (i+1):=List.drop_eq_getElem_cons hlt
  rw [hd] at hn
  unfold hvGo at hn
  have hri:=hr _ (List.getElem_mem hlt)
  by_cases hle:n≤512
  ·rw [if_pos hle] at hn
   have hle':(n:Int)≤512:=by omega
   (repeat (with_reducible first|refine W_seq fun K hK=>?_|refine J_block ?_|refine J_skip ?_|refine J_region ?_ |refine J_c ?_|refine Jc_true ?_|(refine Kont.go (by assumption) ?_)|(simp (config:={ maxSteps:=3000000 }) (disch:=omega) only [go_sem,↓reduceIte,List.length_map,hlt,hle',map_get ints L hlt,true_and])))
   refine ⟨(i+1,n+L[i].length),⟨by simp only;omega,hn,by simp only;omega⟩,by simp only;omega,weak_of ?_ ?_⟩<;>(try simp (disch:=omega) only [go_sem])<;>(try first|done|omega|rfl|exact ⟨rfl,rfl⟩|trivial)
  ·rw [if_neg hle] at hn
   have hle':¬(n:Int)≤512:=by omega
   (repeat (with_reducible first|refine W_seq fun K hK=>?_|refine J_exit ?_|refine J_ret ?_|refine J_region ?_ |refine J_c ?_|refine Jc_false ?_|(refine Kont.go (by assumption) ?_)|(simp (config:={ maxSteps:=3000000 }) (disch:=omega) only [go_sem,↓reduceIte,List.length_map,hlt,hle',true_and])))
   rw [hn];exact Frz.f _
 ·have hd:L.drop i=[]:=List.drop_of_length_le (by omega)
  rw [hd] at hn
  unfold hvGo at hn
  (repeat (with_reducible first|refine W_seq fun K hK=>?_|refine J_exit ?_|refine J_ret ?_|refine J_region ?_ |refine J_c ?_|refine Jc_false ?_|(refine Kont.go (by assumption) ?_)|(simp (config:={ maxSteps:=3000000 }) (disch:=omega) only [go_sem,↓reduceIte,List.length_map,hlt,true_and])))
  rw [hn];exact Frz.f _
end Go.Proofs.YtgjnbcfencallaaDoor
