/- chain.Back: walked. Conditions: numbers of 10^4 bytes each. -/
import Derived.Test.YtcgagiimlkjcpaaGreatDoorZB19
import Derived.Test.YtcgagiimlkjcpaaGreatDoorZB22
set_option linter.unusedVariables false
set_option linter.unusedSimpArgs false
namespace Go.Proofs.YtcgagiimlkjcpaaGreatDoor
open Go Go.RowKit
def bV (m:List (List Rat)) (l:List Nat) (i:Nat):Mx:=fun n k=>if l.getD k 0=i then (if l.getD n 0=l.getD k 0 then 1 else 0) else (if l.getD n 0=l.getD k 0 then 1 else 0)-at2 m (l.getD n 0) (l.getD k 0)
def bTo (m:List (List Rat)) (l:List Nat) (i n x:Nat):List FV:=(List.range x).map fun k=>fr (bV m l i n k)
def bRw (m:List (List Rat)) (l:List Nat) (i n:Nat):List Rat:=(List.range l.length).map (bV m l i n)
def bckR (m:List (List Rat)) (l:List Nat) (i:Nat):List Rat:=solR ((List.range l.length).map (bRw m l i)) ((List.range l.length).map fun _=>1)
section
variable {m : List (List Rat)} {l : List Nat} {i n x : Nat}
theorem bTo_zero:bTo m l i n 0=[]:=rfl
theorem bTo_len:(bTo m l i n x).length=x:=by simp [bTo]
theorem bTo_next:bTo m l i n x++[fr (bV m l i n x)]=bTo m l i n (x+1):=by simp [bTo,List.range_succ]
theorem bV_fz {b:Nat} {ys:List FV} (hm:SqM b ys m) (h1:1≤b) (hlm:∀s∈l,s<m.length):∀a k,a<l.length→k<l.length→Fz (bV m l i a k) (b+9):=fun a k ha hk=>by
 have hone:Fz (1:Rat) (b+9):=(Fz.int (n:=1) (by decide)).up (by omega)
 have hzero:Fz (0:Rat) (b+9):=(Fz.int (n:=0) (by decide)).up (by omega)
 have hgl:∀q,q<l.length→l.getD q 0<m.length:=fun q hq=>by rw [lget_lt l 0 hq];exact hlm _ (List.getElem_mem _)
 unfold bV
 split
 ·split
  ·exact hone
  ·exact hzero
 ·refine Fz.up (Fz.sub (j:=8) (k:=b) ?_ (hm.f2 h1 (hgl a ha) (hgl k hk))) (by omega)
  split
  ·exact Fz.int (n:=1) (by decide)
  ·exact Fz.int (n:=0) (by decide)
end
attribute [go_sem] bTo_zero
set_option maxRecDepth 100000 in
theorem indexFuncL_w {L:List (List Nat)} {g:FuncId} {a b:List FV} {p:Nat→Bool} (hl:L.length≤1000) (hg:∀i,i<L.length→Good Tryz.prog g (a++[.fz 1 (Ns (L.getD i []))]++b) (Bo (p i))) :
  Good Tryz.prog 118 [.fz 1 (L.map fun l=>.fz 1 (Ns l)),.fn g a b] (I (firstI p L.length)):=by
 refine good_of Tryz.func118 rfl (by kernel_rfl) fun X hO hrd=>?_;rw [Tryz.ntmps118,Tryz.results118];simp only [ast0,List.map_cons,List.map_nil,List.length_cons,List.length_nil,Nat.reduceAdd,Nat.reduceSub,List.replicate_succ,List.replicate_zero,List.cons_append,List.nil_append]
 repeat (with_reducible first|refine W_seq fun K hK=>?_|refine J_block ?_|refine J_region ?_ |(refine Kont.go (by assumption) ?_)|(simp (config:={ maxSteps:=3000000 }) (disch:=omega) only [go_sem,List.length_map]))
 refine W_loop [4,5,8,9,10,11,12,13,14,15,16,17,18] (fun x:Nat=>[(8,.f (I x))]) (fun x:Nat=>[]) (fun x:Nat=>x≤L.length∧∀j,j<x→p j=false) (fun x:Nat=>L.length-x) (0) (⟨Nat.zero_le _,fun j h=>by omega⟩) (by refine weak_of ?_ ?_<;>simp (disch:=omega) only [go_sem]<;>first|rfl|exact ⟨rfl,rfl⟩|exact Or.inl rfl|exact ⟨Or.inl rfl,Or.inl rfl⟩|trivial|assumption|omega|(symm;assumption)|((repeat' apply And.intro)<;>first|rfl|omega|trivial|exact .inr ⟨rfl,rfl⟩|exact .inr rfl|(right;symm;assumption)|(symm;assumption)|assumption)) ?_
 rintro i ⟨hi,hp⟩
 simp only [go_sem]
 repeat (with_reducible first|refine W_seq fun K hK=>?_|refine J_region ?_ |refine J_c ?_|(refine Kont.go (by assumption) ?_)|(simp (config:={ maxSteps:=3000000 }) (disch:=omega) only [go_sem]))
 refine Jc_if (fun hlt=>?_) (fun hlt=>?_)<;>try simp only [decide_eq_true_eq,decide_eq_false_iff_not] at hlt
 ·have hx:(L.map fun l=>FV.fz 1 (Ns l))[i]?=some (.fz 1 (Ns (L.getD i []))):=by rw [map_get (fun l=>FV.fz 1 (Ns l)) L hlt,lget_lt L [] hlt]
  have hc:=hg i hlt
  repeat (with_reducible first|refine W_seq fun K hK=>?_|refine J_block ?_|refine J_skip ?_|refine J_region ?_ |(refine Kont.go (by assumption) ?_)|(simp (config:={ maxSteps:=3000000 }) (disch:=omega) only [go_sem,↓reduceIte,hx]))
  refine call_f hc (by simp) ?_
  repeat (with_reducible first|refine J_c ?_|(refine Kont.go (by assumption) ?_)|(simp (config:={ maxSteps:=3000000 }) (disch:=omega) only [go_sem]))
  refine Jc_if (fun hpi=>?_) (fun hpi=>?_)<;>try simp only [decide_eq_true_eq,decide_eq_false_iff_not,Bool.not_eq_true',Bool.not_eq_false',Bool.not_true,Bool.not_false,Int.ofNat_lt,Int.ofNat_le,Int.natCast_inj,Classical.not_not] at hpi
  ·have e:firstI p L.length=i:=firstI_some hlt hpi hp
   repeat (with_reducible first|refine W_seq fun K hK=>?_|refine J_ret ?_|refine J_region ?_ |(refine Kont.go (by assumption) ?_)|(simp (config:={ maxSteps:=3000000 }) (disch:=omega) only [go_sem]))
   rw [e]
   exact Frz.f _
  ·have hpf:p i=false:=by simpa using hpi
   repeat (with_reducible first|refine J_skip ?_|refine J_region ?_ |(refine Kont.go (by assumption) ?_)|(simp (config:={ maxSteps:=3000000 }) (disch:=omega) only [go_sem]))
   refine ⟨i+1,⟨by omega,upto_next (p:=fun j=>p j=false) hp hpf⟩,by omega,weak_of ?_ ?_⟩<;>(try simp (disch:=omega) only [go_sem])<;>(try first|done|omega|rfl|exact ⟨rfl,rfl⟩|trivial)
 ·have he:i=L.length:=by omega
  subst he
  have e:firstI p L.length=-1:=firstI_none hp
  repeat (with_reducible first|refine W_seq fun K hK=>?_|refine J_exit ?_|refine J_ret ?_|refine J_region ?_ |(refine Kont.go (by assumption) ?_)|(simp (config:={ maxSteps:=3000000 }) (disch:=omega) only [go_sem,↓reduceIte,Int.reduceNeg]))
  rw [e]
  exact Frz.f _
set_option maxRecDepth 100000 in
theorem back1_w {l:List Nat} {i:Nat} (hl:l.length≤1000) (hi:i≤1000) (hlm:∀s∈l,s≤1000):Good Tryz.prog 119 [.fz 1 (Ns l),.fp (I (i:Int)) 0] (Bo (decide (i∈l))):=by
 have h:=containsI_w hl hi hlm
 refine good_of Tryz.func119 rfl (by kernel_rfl) fun X hO hrd=>?_;rw [Tryz.ntmps119,Tryz.results119];simp only [ast0,List.map_cons,List.map_nil,List.length_cons,List.length_nil,Nat.reduceAdd,Nat.reduceSub,List.replicate_succ,List.replicate_zero,List.cons_append,List.nil_append]
 repeat (with_reducible first|refine W_seq fun K hK=>?_|refine J_region ?_ |(refine Kont.go (by assumption) ?_)|(simp (config:={ maxSteps:=3000000 }) (disch:=omega) only [go_sem,↓reduceIte]))
 refine call_f h rfl ?_
 repeat (with_reducible first|refine J_ret ?_|exact Frz.f _|(refine Kont.go (by assumption) ?_)|(simp (config:={ maxSteps:=3000000 }) (disch:=omega) only [go_sem]))
structure BckOk (m : List (List Rat)) (i q : Nat) (l : List Nat) : Prop where
  hi : i < m.length
  hq : q < (repL m.length (wsh (edg m) m.length) m.length).length
  hl : (repL m.length (wsh (edg m) m.length) m.length).getD q [] = l
  hil : i ∈ l
  hno : ∀ j, j < q → i ∉ (repL m.length (wsh (edg m) m.length) m.length).getD j []
  hall : ∀ j, ∀ s ∈ (repL m.length (wsh (edg m) m.length) m.length).getD j [], s < m.length
  hlen : ∀ j, ((repL m.length (wsh (edg m) m.length) m.length).getD j []).length ≤ 6
  hsz : (shutL m.length (wsh (edg m) m.length) m.length).length = (repL m.length (wsh (edg m) m.length) m.length).length
  h6 : (repL m.length (wsh (edg m) m.length) m.length).length ≤ 6
abbrev zF:FV:=.agg [.v (.bool false),.v (.string ⟨#[]⟩),.v (.string ⟨#[]⟩)]
set_option maxRecDepth 100000 in
set_option maxHeartbeats 8000000 in
theorem back_w {b:Nat} {ys:List FV} {m:List (List Rat)} {l:List Nat} {i q c:Nat} (hm0:FrM b ys m) (h1:1≤b) (hb:b≤10000) (hmx:m.length≤140737488355328) (h0:chkM m=0)
  (hB:BckOk m i q l) (hc:c<l.length) (hci:l.getD c 0=i) (hcf:∀j,j<c→l.getD j 0≠i) (hRl:(bckR m l i).length=l.length) :
  Good Tryz.prog 28 [.fz 1 ys,I (i:Int)] (.tup (if (shutL m.length (wsh (edg m) m.length) m.length).getD q false=true then [fr ((bckR m l i).getD c 0),I 0] else [zF,I 16])):=by
 have hk:=check_w hm0 h1 (by omega) hmx
 rw [h0] at hk
 have hcl:=classes_w hm0 h1 (by omega) hmx h0
 obtain ⟨hm,hn1,hch⟩:=chk_sq hm0 h0
 obtain ⟨hi,hq,hl,hil,hno,hall,hlen,hsz,h6⟩:=hB
 obtain ⟨C,hC⟩:∃C,C=repL m.length (wsh (edg m) m.length) m.length:=⟨_,rfl⟩
 obtain ⟨S,hS⟩:∃S,S=shutL m.length (wsh (edg m) m.length) m.length:=⟨_,rfl⟩
 have e1:repF m.length (wsh (edg m) m.length) m.length=C.map fun l=>.fz 1 (Ns l):=by rw [hC];rfl
 have e2:shutF m.length (wsh (edg m) m.length) m.length=S.map Bo:=by rw [hS];rfl
 rw [e1,e2] at hcl
 rw [←hC] at hq hl hno hall hlen hsz h6
 rw [←hS] at hsz ⊢
 have hn6:=hm.le
 have hyl:ys.length=m.length:=hm0.len
 have hidx:=indexFuncL_w (L:=C) (g:=119) (a:=[]) (b:=[.fp (I (i:Int)) 0]) (p:=fun j=>decide (i∈C.getD j [])) (by omega) (fun j hj=>back1_w (by have:=hlen j;omega) (by omega) (fun s hs=>by have:=hall j s hs;omega))
 rw [firstI_some hq (decide_eq_true (hl▸hil)) fun j hj=>decide_eq_false (hno j hj)] at hidx
 have gS:(S.map Bo)[q]?=some (Bo (S.getD q false)):=by rw [map_get Bo S (by omega),lget_lt S false (by omega)]
 have gC:(C.map fun l=>FV.fz 1 (Ns l))[q]?=some (.fz 1 (Ns l)):=by rw [map_get (fun l=>FV.fz 1 (Ns l)) C hq,←lget_lt C [] hq,hl]
 have lS:(S.map Bo).length=C.length:=by rw [List.length_map];exact hsz
 have lC:(C.map fun l=>FV.fz 1 (Ns l)).length=C.length:=by rw [List.length_map]
 have hneg:¬((i:Int)<0):=by omega
 have hnl:¬(m.length≤i):=by omega
 have hl6:l.length≤6:=by have:=hlen q;rw [hl] at this;exact this
 have hlm:∀s∈l,s<m.length:=fun s hs=>hall q s (by rw [hl];exact hs)
 have hix:=indexI_w (l:=l) (k:=i) (by omega) (by omega) (fun s hs=>by have:=hlm s hs;omega)
 rw [firstI_some hc (decide_eq_true hci) fun j hj=>decide_eq_false (hcf j hj)] at hix
 obtain ⟨n,hn⟩:∃n,n=l.length:=⟨_,rfl⟩
 have hNl:(Ns l).length=n:=by unfold Ns;rw [List.length_map];exact hn.symm
 have hNg:∀q,q<n→(Ns l)[q]?=some (I (l.getD q 0:Nat)):=fun q hq=>by unfold Ns;rw [map_get (fun k:Nat=>I (k:Int)) l (by omega),lget_lt l 0 (by omega)]
 have hgl:∀q,q<n→l.getD q 0<m.length:=fun q hq=>by rw [lget_lt l 0 (by omega)];exact hlm _ (List.getElem_mem _)
 have hz1:List.replicate n (AV.f nilV)=(fillL n 0 (fun a=>frs (bRw m l i a)) nilV).map .f:=by rw [fill_zero,List.map_replicate]
 have hz2:∀z,List.replicate n (AV.f z)=(fillL n 0 (fun _=>fr ((1:Int):Rat)) z).map .f:=fun z=>by rw [fill_zero,List.map_replicate]
 refine good_of Tryz.func28 rfl (by kernel_rfl) fun X hO hrd=>?_;rw [Tryz.ntmps28,Tryz.results28];simp only [ast0,List.map_cons,List.map_nil,List.length_cons,List.length_nil,Nat.reduceAdd,Nat.reduceSub,List.replicate_succ,List.replicate_zero,List.cons_append,List.nil_append]
 repeat (with_reducible first|refine W_seq fun K hK=>?_|refine J_region ?_|(refine Kont.go (by assumption) ?_)|(simp (config:={ maxSteps:=3000000 }) (disch:=omega) only [go_sem,Nat.reduceAdd]))
 refine call_f hk rfl ?_
 repeat (with_reducible first|refine W_seq fun K hK=>?_|refine J_skip ?_|refine J_region ?_|refine J_c ?_|refine Jc_false ?_|(refine Kont.go (by assumption) ?_)|(simp (config:={ maxSteps:=3000000 }) (disch:=omega) only [go_sem,↓reduceIte,hyl,hneg,hnl]))
 refine call_f hcl rfl ?_
 repeat (with_reducible first|refine W_seq fun K hK=>?_|refine J_region ?_|(refine Kont.go (by assumption) ?_)|(simp (config:={ maxSteps:=3000000 }) (disch:=omega) only [go_sem]))
 refine call_fl hidx (.v _) (FrzL.cons (.f _) (FrzL.cons (Frz.fn _ _ _ _ _ rfl (fun j c d h=>by simp at h) rfl fun j cc d h h'=>?_) (FrzL.nil _))) ?_
 ·cases j with
  | zero=>cases h;cases h';exact Frz.ptr0 rfl rfl
  | succ j=>simp at h
 cases hSq:S.getD q false with
 | false =>
  rw [hSq] at gS
  repeat (with_reducible first|refine W_seq fun K hK=>?_|refine J_ret ?_|refine J_region ?_|refine J_c ?_|refine Jc_true ?_|(refine Kont.go (by assumption) ?_)|(simp (config:={ maxSteps:=3000000 }) (disch:=omega) only [go_sem,↓reduceIte,Nat.reduceAdd,gS,true_and,and_self]))
  rw [if_neg (by rw [hSq];decide)]
  exact ⟨_,rfl,FrzL.fs [_,_]⟩
 | true =>
 rw [hSq] at gS
 repeat (with_reducible first|refine W_seq fun K hK=>?_|refine J_skip ?_|refine J_region ?_|refine J_orders (id:=11) [2,5] (.one 0 (.one 1 (.one 3 (.one 4 (.br (.alt 2 (.one 6 (.one 5 (.one 7 .leaf))) (.alt 5 (.one 2 (.one 6 (.one 7 .leaf))) .fin))))))) mixed (by kernel_rfl) ?_|refine J_c ?_|refine Jc_false ?_|(refine Kont.go (by assumption) ?_)|(simp (config:={ maxSteps:=3000000 }) (disch:=omega) only [go_sem,Nat.reduceEqDiff,↓reduceIte,Nat.reduceAdd,gS,gC,hNl,hz1,hz2,Nat.le_refl,true_and,and_true,and_self]))
 refine (fun h:_∧_=>⟨⟨by omega,by omega,h.1⟩,by omega,by omega,h.2⟩) (kont_two (by assumption) (weak_ren [0,1,3,2] ⟨by decide,by first|decide|(simp;done)⟩ ?_ ?_) ?_)
 ·simp (disch:=omega) only [go_sem,Nat.reduceAdd]
  exact ⟨rfl,rfl⟩
 ·simp (disch:=omega) only [go_sem,Nat.reduceAdd]
 obtain ⟨zf,hzf⟩:∃zf:FV,zf=.agg [.v (.bool false),.v (.string ⟨#[]⟩),.v (.string ⟨#[]⟩)]:=⟨_,rfl⟩
 rw [←hzf]
 repeat (with_reducible first|refine W_seq fun K hK=>?_|refine J_block ?_|refine J_region ?_|(refine Kont.go (by assumption) ?_)|(simp (config:={ maxSteps:=3000000 }) (disch:=omega) only [go_sem,hNl,true_and]))
 refine W_loop [14,15,17,18,61,62,63,64,65,66,67,68,69,70,71,72,73,74,75,76,77,78,79,80,81,82,83,84,85,86,87,88,89,90,91,92,93,94,95,96,97,98,99,100,101,102,103,104] (fun x:Nat=>[(61,.f (I x))]) (fun x:Nat=>[some ⟨3,1,[.f (I (i:Int))]⟩,some ⟨44,3,[.f zf]⟩,some ⟨23,1,(fillL n x (fun a=>frs (bRw m l i a)) nilV).map .f⟩,some ⟨44,3,(fillL n x (fun _=>fr ((1:Int):Rat)) zf).map .f⟩]) (fun x:Nat=>x≤n) (fun x:Nat=>n-x) (0) (Nat.zero_le _) (by refine weak_of ?_ ?_<;>simp (disch:=omega) only [go_sem,Nat.reduceAdd]<;>first|rfl|exact ⟨rfl,rfl⟩|exact Or.inl rfl|exact ⟨Or.inl rfl,Or.inl rfl⟩|trivial|assumption|omega|(symm;assumption)|((repeat' apply And.intro)<;>first|rfl|omega|trivial|exact .inr ⟨rfl,rfl⟩|exact .inr rfl|(right;symm;assumption)|(symm;assumption)|assumption)) ?_
 rintro a ha
 simp only [go_sem]
 repeat (with_reducible first|refine W_seq fun K hK=>?_|refine J_region ?_|refine J_c ?_|(refine Kont.go (by assumption) ?_)|(simp (config:={ maxSteps:=3000000 }) (disch:=omega) only [go_sem]))
 refine Jc_if (fun hal=>?_) (fun hal=>?_)<;>try simp only [decide_eq_true_eq,decide_eq_false_iff_not] at hal
 ·have g1:=hNg a hal
  have hfs:=fillA_set (n:=n) (k:=a) (f:=fun _=>fr ((1:Int):Rat)) (z:=zf) hal rfl
  have hfg:((fillL n a (fun _=>fr ((1:Int):Rat)) zf).map AV.f)[a]?=some (.f zf):=by rw [fillA_get hal,if_neg (by omega)]
  have hf2:(fillL n a (fun _=>fr ((1:Int):Rat)) zf).length=n:=fill_len
  repeat (first|(with_reducible first|refine W_seq fun K hK=>?_|refine J_block ?_|refine J_skip ?_|refine J_region ?_|(refine Kont.go (by assumption) ?_)|(simp (config:={ maxSteps:=3000000 }) (disch:=omega) only [go_sem,↓reduceIte,Nat.reduceAdd,hNl,g1,hfs,hfg,true_and,and_self]))|refine call_f (of_good (by omega) (by omega)) rfl ?_|refine And.intro (by omega) ?_)
  refine J_reserve ?_
  rw [fillA_z hal]
  refine W_loop [17,18,72,73,74,75,76,77,78,79,80,81,82,83,84,85,86,87,88,89,90,91,92,93,94,95,96,97,98,99,100,101,102,103] (fun x:Nat=>[(72,.f (I x))]) (fun x:Nat=>[some ⟨3,1,[.f (I (i:Int))]⟩,some ⟨44,3,[.f zf]⟩,some ⟨23,1,((fillL n a (fun a=>frs (bRw m l i a)) nilV).map .f).set a (sl 4 3 (bTo m l i a x))⟩,some ⟨44,3,(fillL n (a+1) (fun _=>fr ((1:Int):Rat)) zf).map .f⟩,ob 44 3 (bTo m l i a x)]) (fun x:Nat=>x≤n) (fun x:Nat=>n-x) (0) (Nat.zero_le _) (by refine weak_of ?_ ?_<;>simp (disch:=omega) only [go_sem,Nat.reduceAdd]<;>first|rfl|exact ⟨rfl,rfl⟩|exact Or.inl rfl|exact ⟨Or.inl rfl,Or.inl rfl⟩|trivial|assumption|omega|(symm;assumption)|((repeat' apply And.intro)<;>first|rfl|omega|trivial|exact .inr ⟨rfl,rfl⟩|exact .inr rfl|(right;symm;assumption)|(symm;assumption)|assumption)) ?_
  rintro x hx
  simp only [go_sem]
  repeat (with_reducible first|refine W_seq fun K hK=>?_|refine J_region ?_|refine J_c ?_|(refine Kont.go (by assumption) ?_)|(simp (config:={ maxSteps:=3000000 }) (disch:=omega) only [go_sem]))
  refine Jc_if (fun hxl=>?_) (fun hxl=>?_)<;>try simp only [decide_eq_true_eq,decide_eq_false_iff_not] at hxl
  ·have g2:=hNg x hxl
   have hfl:(fillL n a (fun a=>frs (bRw m l i a)) nilV).length=n:=fill_len
   have hgt:∀y,(((fillL n a (fun a=>frs (bRw m l i a)) nilV).map AV.f).set a y)[a]?=some y:=fun y=>List.getElem?_set_self (by rw [List.length_map,hfl];exact hal)
   have hnx:=bTo_next (m:=m) (l:=l) (i:=i) (n:=a) (x:=x)
   have hbl:=bTo_len (m:=m) (l:=l) (i:=i) (n:=a) (x:=x)
   have hne1:bTo m l i a (x+1)≠[]:=fun e=>by have:=congrArg List.length e;rw [bTo_len] at this;simp at this
   have hsl1:sl 7 3 (bTo m l i a (x+1))=.own 7 3 0 (x+1):=by rw [sl_pos hne1,bTo_len]
   have hob1:ob 44 3 (bTo m l i a (x+1))=some ⟨44,3,(bTo m l i a (x+1)).map .f⟩:=ob_pos hne1
   have htk:((bTo m l i a x).map AV.f).take x++[AV.f (fr (bV m l i a x))]=(bTo m l i a (x+1)).map AV.f:=by rw [List.take_of_length_le (by rw [List.length_map,hbl];omega),←hnx,List.map_append];rfl
   have hq1:(bTo m l i a (0+1)).map AV.f=[AV.f (fr (bV m l i a 0))]:=rfl
   have hone2:=chone_w (decide (l.getD a 0=l.getD x 0))
   obtain ⟨c2,hc2⟩:∃c:Int,c=if decide (l.getD a 0=l.getD x 0)=true then 1 else 0:=⟨_,rfl⟩
   have hc21:0≤c2∧c2≤1:=by rw [hc2];split<;>omega
   rw [←hc2] at hone2
   have ec3:((c2:Int):Rat)=if l.getD a 0=l.getD x 0 then 1 else 0:=by
    rw [hc2]
    by_cases e:l.getD a 0=l.getD x 0
    ·rw [if_pos e,if_pos (by simpa using e)];rfl
    ·rw [if_neg e,if_neg (by simpa using e)];rfl
   obtain ⟨xs,gg,nn,dd,z1,z2,z3⟩:=hm.at2 (hgl a hal) (hgl x hxl)
   have r2:IsFr (fr ((c2:Int):Rat)) ((c2:Int):Rat) 8:=IsFr.int (by omega) (by omega)
   repeat (with_reducible first|refine W_seq fun K hK=>?_|refine J_block ?_|refine J_skip ?_|refine J_region ?_|(refine Kont.go (by assumption) ?_)|(simp (config:={ maxSteps:=3000000 }) (disch:=omega) only [go_sem,↓reduceIte,g2,Int.natCast_inj,true_and]))
   refine call_f hone2 rfl ?_
   by_cases hto:l.getD x 0=i
   ·have hv:fr ((c2:Int):Rat)=fr (bV m l i a x):=by congr 1;rw [ec3];unfold bV;rw [if_pos hto]
    by_cases hx0:x=0
    ·subst hx0
     repeat (first|(with_reducible first|refine W_seq fun K hK=>?_|refine J_skip ?_|refine J_region ?_|refine J_orders (id:=22) [8] (.one 0 (.one 1 (.one 2 (.one 3 (.one 4 (.one 5 (.one 6 (.one 7 (.one 8 (.one 9 (.one 10 .leaf))))))))))) mixed (by kernel_rfl) ?_|refine J_c ?_|refine Jc_false ?_|(refine Kont.go (by assumption) ?_)|(simp (config:={ maxSteps:=3000000 }) (disch:=omega) only [go_sem,Nat.reduceEqDiff,↓reduceIte,Nat.reduceAdd,Nat.reduceLeDiff,Int.reduceAdd,hgt,hto,bTo_zero,sl_nil,ob_nil,List.set_set,hv,Nat.reduceMul,Nat.le_refl,true_and,and_self]))|refine call_f (of_good (by omega) (by omega)) rfl ?_|refine And.intro (by omega) ?_)
     refine ⟨0+1,by omega,by omega,weak_ren [0,1,2,3,7] ⟨by decide,by first|decide|(simp;done)⟩ ?_ ?_⟩<;>(try simp (disch:=omega) only [go_sem,Nat.reduceAdd,hsl1,hob1,hq1])<;>(try first|done|omega|rfl|exact ⟨rfl,rfl⟩|trivial)
    ·have hne:bTo m l i a x≠[]:=fun e=>by rw [e] at hbl;simp at hbl;omega
     have hsl:sl 4 3 (bTo m l i a x)=.own 4 3 0 x:=by rw [sl_pos hne,hbl]
     have hob:ob 44 3 (bTo m l i a x)=some ⟨44,3,(bTo m l i a x).map .f⟩:=ob_pos hne
     repeat (first|(with_reducible first|refine W_seq fun K hK=>?_|refine J_skip ?_|refine J_region ?_|refine J_orders (id:=22) [8] (.one 0 (.one 1 (.one 2 (.one 3 (.one 4 (.one 5 (.one 6 (.one 7 (.one 8 (.one 9 (.one 10 .leaf))))))))))) mixed (by kernel_rfl) ?_|refine J_c ?_|refine Jc_false ?_|(refine Kont.go (by assumption) ?_)|(simp (config:={ maxSteps:=3000000 }) (disch:=omega) only [go_sem,Nat.reduceEqDiff,↓reduceIte,Nat.reduceAdd,Nat.reduceLeDiff,hgt,hto,hsl,hob,hbl,List.set_set,htk,hv,Nat.reduceMul,Nat.le_refl,true_and,and_self]))|refine call_f (of_good (by omega) (by omega)) rfl ?_|refine And.intro (by omega) ?_)
     refine ⟨x+1,by omega,by omega,weak_ren [0,1,2,3,7] ⟨by decide,by first|decide|(simp;done)⟩ ?_ ?_⟩<;>(try simp (disch:=omega) only [go_sem,Nat.reduceAdd,hsl1,hob1])<;>(try first|done|omega|rfl|exact ⟨rfl,rfl⟩|trivial)
   ·have hv:fr (((c2:Int):Rat)-at2 m (l.getD a 0) (l.getD x 0))=fr (bV m l i a x):=by congr 1;rw [ec3];unfold bV;rw [if_neg hto]
    by_cases hx0:x=0
    ·subst hx0
     repeat (first|(with_reducible first|refine W_seq fun K hK=>?_|refine J_region ?_|refine J_orders (id:=22) [8] (.one 0 (.one 1 (.one 2 (.one 3 (.one 4 (.one 5 (.one 6 (.one 7 (.one 8 (.one 9 (.one 10 .leaf))))))))))) mixed (by kernel_rfl) ?_|refine J_drawn mixed (by kernel_rfl) ?_|refine J_c ?_|refine Jc_true ?_|(refine Kont.go (by assumption) ?_)|(simp (config:={ maxSteps:=3000000 }) (disch:=omega) only [go_sem,Nat.reduceEqDiff,↓reduceIte,Nat.reduceAdd,Nat.reduceLeDiff,Int.reduceAdd,hgt,hto,z1,z2,bTo_zero,sl_nil,ob_nil,List.set_set,hv,Int.natCast_inj,Nat.reduceMul,Nat.le_refl,true_and,and_self]))|refine call_f (of_good (by omega) (by omega)) rfl ?_|refine callQ_f (sub_w (by assumption) (by assumption) (by omega) (by omega)) rfl ?_|refine And.intro (by omega) ?_)
     refine ⟨0+1,by omega,by omega,weak_ren [0,1,2,3,7] ⟨by decide,by first|decide|(simp;done)⟩ ?_ ?_⟩<;>(try simp (disch:=omega) only [go_sem,Nat.reduceAdd,hsl1,hob1,hq1])<;>(try first|done|omega|rfl|exact ⟨rfl,rfl⟩|trivial)
    ·have hne:bTo m l i a x≠[]:=fun e=>by rw [e] at hbl;simp at hbl;omega
     have hsl:sl 4 3 (bTo m l i a x)=.own 4 3 0 x:=by rw [sl_pos hne,hbl]
     have hob:ob 44 3 (bTo m l i a x)=some ⟨44,3,(bTo m l i a x).map .f⟩:=ob_pos hne
     repeat (first|(with_reducible first|refine W_seq fun K hK=>?_|refine J_region ?_|refine J_orders (id:=22) [8] (.one 0 (.one 1 (.one 2 (.one 3 (.one 4 (.one 5 (.one 6 (.one 7 (.one 8 (.one 9 (.one 10 .leaf))))))))))) mixed (by kernel_rfl) ?_|refine J_drawn mixed (by kernel_rfl) ?_|refine J_c ?_|refine Jc_true ?_|(refine Kont.go (by assumption) ?_)|(simp (config:={ maxSteps:=3000000 }) (disch:=omega) only [go_sem,Nat.reduceEqDiff,↓reduceIte,Nat.reduceAdd,Nat.reduceLeDiff,hgt,hto,z1,z2,hsl,hob,hbl,List.set_set,htk,hv,Int.natCast_inj,Nat.reduceMul,Nat.le_refl,true_and,and_self]))|refine call_f (of_good (by omega) (by omega)) rfl ?_|refine callQ_f (sub_w (by assumption) (by assumption) (by omega) (by omega)) rfl ?_|refine And.intro (by omega) ?_)
     refine ⟨x+1,by omega,by omega,weak_ren [0,1,2,3,7] ⟨by decide,by first|decide|(simp;done)⟩ ?_ ?_⟩<;>(try simp (disch:=omega) only [go_sem,Nat.reduceAdd,hsl1,hob1])<;>(try first|done|omega|rfl|exact ⟨rfl,rfl⟩|trivial)
  ·have he:x=n:=by omega
   subst he
   have hbl:=bTo_len (m:=m) (l:=l) (i:=i) (n:=a) (x:=x)
   have hne:bTo m l i a x≠[]:=fun e=>by rw [e] at hbl;simp at hbl;omega
   have hsl:sl 4 3 (bTo m l i a x)=.own 4 3 0 x:=by rw [sl_pos hne,hbl]
   have hob:ob 44 3 (bTo m l i a x)=some ⟨44,3,(bTo m l i a x).map .f⟩:=ob_pos hne
   have hset:=fillA_set (n:=x) (f:=fun a=>frs (bRw m l i a)) (z:=nilV) hal rfl
   have hrw:FV.fz 3 (bTo m l i a x)=frs (bRw m l i a):=by unfold bTo bRw;show FV.fz 3 _=FV.fz 3 (((List.range l.length).map (bV m l i a)).map fr);rw [List.map_map,←hn];rfl
   rw [hsl,hob]
   refine J_freezeA (r:=4) (sz:=3) (l:=bTo m l i a x) rfl ?_
   repeat (with_reducible first|refine J_exit ?_|refine J_region ?_|(refine Kont.go (by assumption) ?_)|(simp (config:={ maxSteps:=3000000 }) (disch:=omega) only [go_sem,Nat.reduceEqDiff,↓reduceIte,hbl,and_self,hrw,hset]))
   refine ⟨a+1,by omega,by omega,weak_of ?_ ?_⟩<;>(try simp (disch:=omega) only [go_sem,Nat.reduceAdd])<;>(try first|done|omega|rfl|exact ⟨rfl,rfl⟩|trivial)
 ·have he:a=n:=by omega
  subst he
  have hA:fillL a a (fun b=>frs (bRw m l i b)) nilV=((List.range l.length).map (bRw m l i)).map frs:=by rw [fill_all,List.map_map,hn];rfl
  have hB':fillL a a (fun _=>fr ((1:Int):Rat)) zf=((List.range l.length).map fun _=>(1:Rat)).map fr:=by rw [fill_all,List.map_map,hn];rfl
  rw [hA,hB']
  refine J_freezeO (j:=13) rfl (by simp [hn]) rfl ?_
  have hW:=bV_fz (i:=i) hm h1 hlm
  have hone:Fz (1:Rat) (b+9):=(Fz.int (n:=1) (by decide)).up (by omega)
  have hAl:((List.range l.length).map (bRw m l i)).length=a:=by simp [hn]
  have hs:=solve_w (A:=(List.range l.length).map (bRw m l i)) (b:=(List.range l.length).map fun _=>1) (s:=b+9) (by omega) (by omega) (fun r hr=>by
    obtain ⟨a,_,rfl⟩:=List.mem_map.1 hr
    simp [bRw]) (by simp) (fun r hr=>by
    obtain ⟨a,ha,rfl⟩:=List.mem_map.1 hr
    intro z hz
    obtain ⟨k,hk,rfl⟩:=List.mem_map.1 hz
    exact hW a k (List.mem_range.1 ha) (List.mem_range.1 hk)) (fun z hz=>by
    obtain ⟨a,_,rfl⟩:=List.mem_map.1 hz
    exact hone) (by omega) (by omega)
  rw [hAl] at hs
  have hs:GoodM Tryz.prog 112 [.own 0 1 0 a,.f (frs ((List.range l.length).map fun _=>(1:Rat)))] [⟨23,1,(((List.range l.length).map (bRw m l i)).map frs).map .f⟩] (frs (bckR m l i)):=hs
  have gR:((bckR m l i).map fr)[c]?=some (fr ((bckR m l i).getD c 0)):=by rw [map_get fr (bckR m l i) (by omega),lget_lt (bckR m l i) 0 (by omega)]
  have hlt0:∀z∈[AV.own 0 1 0 a,AV.f (frs ((List.range l.length).map fun _=>(1:Rat)))],z.lt0 1=true:=fun z hz=>by
   rcases List.mem_cons.1 hz with rfl|hz
   ·rfl
   ·cases List.mem_singleton.1 hz;rfl
  repeat (with_reducible first|refine W_seq fun K hK=>?_|refine J_exit ?_|refine J_orders (id:=25) [2] (.one 0 (.one 1 (.one 3 (.br (.alt 2 (.one 4 (.one 5 (.one 6 (.one 7 (.one 8 (.one 9 .leaf)))))) (.alt 4 (.one 2 (.one 5 (.one 6 (.one 7 (.one 8 (.one 9 .leaf)))))) .fin)))))) mixed (by kernel_rfl) ?_ |(refine Kont.go (by assumption) ?_)|(simp (config:={ maxSteps:=3000000 }) (disch:=omega) only [go_sem,Nat.reduceEqDiff,↓reduceIte,true_and,and_true]))
  refine And.intro ?_ ?_
  ·refine callHK_m (q:=2) hs rfl rfl hlt0 ?_
   repeat (with_reducible first|(simp (config:={ maxSteps:=3000000 }) (disch:=omega) only [go_sem,Nat.reduceEqDiff,↓reduceIte,true_and,and_self]))
   refine callQ_f hix rfl ?_
   repeat (with_reducible first|refine J_ret ?_|(refine Kont.go (by assumption) ?_)|(simp (config:={ maxSteps:=3000000 }) (disch:=omega) only [go_sem,↓reduceIte,Nat.reduceAdd,gR,List.length_map,true_and,and_self]))
   rw [if_pos hSq]
   exact ⟨_,rfl,FrzL.fs [_,_]⟩
  ·skip
   refine callHK_m (q:=2) hs rfl rfl hlt0 ?_
   repeat (with_reducible first|(simp (config:={ maxSteps:=3000000 }) (disch:=omega) only [go_sem,Nat.reduceEqDiff,↓reduceIte,true_and,and_self]))
   refine callQ_f hix rfl ?_
   repeat (with_reducible first|refine J_ret ?_|(refine Kont.go (by assumption) ?_)|(simp (config:={ maxSteps:=3000000 }) (disch:=omega) only [go_sem,↓reduceIte,Nat.reduceAdd,gR,List.length_map,true_and,and_self]))
   rw [if_pos hSq]
   exact ⟨_,rfl,FrzL.fs [_,_]⟩
set_option maxRecDepth 100000 in
theorem back_no {b:Nat} {ys:List FV} {m:List (List Rat)} {l:List Nat} {i q:Nat} (hm0:FrM b ys m) (h1:1≤b) (hb:b≤10000) (hmx:m.length≤140737488355328) (h0:chkM m=0)
  (hB:BckOk m i q l) (hSq:(shutL m.length (wsh (edg m) m.length) m.length).getD q false=false) :
  Good Tryz.prog 28 [.fz 1 ys,I (i:Int)] (.tup [zF,I 16]):=by
 have hk:=check_w hm0 h1 (by omega) hmx
 rw [h0] at hk
 have hcl:=classes_w hm0 h1 (by omega) hmx h0
 obtain ⟨hm,hn1,hch⟩:=chk_sq hm0 h0
 obtain ⟨hi,hq,hl,hil,hno,hall,hlen,hsz,h6⟩:=hB
 obtain ⟨C,hC⟩:∃C,C=repL m.length (wsh (edg m) m.length) m.length:=⟨_,rfl⟩
 obtain ⟨S,hS⟩:∃S,S=shutL m.length (wsh (edg m) m.length) m.length:=⟨_,rfl⟩
 have e1:repF m.length (wsh (edg m) m.length) m.length=C.map fun l=>.fz 1 (Ns l):=by rw [hC];rfl
 have e2:shutF m.length (wsh (edg m) m.length) m.length=S.map Bo:=by rw [hS];rfl
 rw [e1,e2] at hcl
 rw [←hC] at hq hl hno hall hlen hsz h6
 rw [←hS] at hsz hSq
 have hn6:=hm.le
 have hyl:ys.length=m.length:=hm0.len
 have hidx:=indexFuncL_w (L:=C) (g:=119) (a:=[]) (b:=[.fp (I (i:Int)) 0]) (p:=fun j=>decide (i∈C.getD j [])) (by omega) (fun j hj=>back1_w (by have:=hlen j;omega) (by omega) (fun s hs=>by have:=hall j s hs;omega))
 rw [firstI_some hq (decide_eq_true (hl▸hil)) fun j hj=>decide_eq_false (hno j hj)] at hidx
 have gS:(S.map Bo)[q]?=some (Bo (S.getD q false)):=by rw [map_get Bo S (by omega),lget_lt S false (by omega)]
 have lS:(S.map Bo).length=C.length:=by rw [List.length_map];exact hsz
 have hneg:¬((i:Int)<0):=by omega
 have hnl:¬(m.length≤i):=by omega
 rw [hSq] at gS
 refine good_of Tryz.func28 rfl (by kernel_rfl) fun X hO hrd=>?_;rw [Tryz.ntmps28,Tryz.results28];simp only [ast0,List.map_cons,List.map_nil,List.length_cons,List.length_nil,Nat.reduceAdd,Nat.reduceSub,List.replicate_succ,List.replicate_zero,List.cons_append,List.nil_append]
 repeat (with_reducible first|refine W_seq fun K hK=>?_|refine J_region ?_|(refine Kont.go (by assumption) ?_)|(simp (config:={ maxSteps:=3000000 }) (disch:=omega) only [go_sem,Nat.reduceAdd]))
 refine call_f hk rfl ?_
 repeat (with_reducible first|refine W_seq fun K hK=>?_|refine J_skip ?_|refine J_region ?_|refine J_c ?_|refine Jc_false ?_|(refine Kont.go (by assumption) ?_)|(simp (config:={ maxSteps:=3000000 }) (disch:=omega) only [go_sem,↓reduceIte,hyl,hneg,hnl]))
 refine call_f hcl rfl ?_
 repeat (with_reducible first|refine W_seq fun K hK=>?_|refine J_region ?_|(refine Kont.go (by assumption) ?_)|(simp (config:={ maxSteps:=3000000 }) (disch:=omega) only [go_sem]))
 refine call_fl hidx (.v _) (FrzL.cons (.f _) (FrzL.cons (Frz.fn _ _ _ _ _ rfl (fun j c d h=>by simp at h) rfl fun j cc d h h'=>?_) (FrzL.nil _))) ?_
 ·cases j with
  | zero=>cases h;cases h';exact Frz.ptr0 rfl rfl
  | succ j=>simp at h
 repeat (with_reducible first|refine W_seq fun K hK=>?_|refine J_ret ?_|refine J_region ?_|refine J_c ?_|refine Jc_true ?_|(refine Kont.go (by assumption) ?_)|(simp (config:={ maxSteps:=3000000 }) (disch:=omega) only [go_sem,↓reduceIte,Nat.reduceAdd,gS,true_and,and_self]))
 exact ⟨_,rfl,FrzL.fs [_,_]⟩
set_option maxRecDepth 100000 in
theorem back_err {b:Nat} {ys:List FV} {m:List (List Rat)} {i:Int} (hm0:FrM b ys m) (h1:1≤b) (hb:b≤10000) (hmx:m.length≤140737488355328) (h0:chkM m≠0) :
  Good Tryz.prog 28 [.fz 1 ys,I i] (.tup [zF,I (chkM m)]):=by
 have hk:=check_w hm0 h1 (by omega) hmx
 refine good_of Tryz.func28 rfl (by kernel_rfl) fun X hO hrd=>?_;rw [Tryz.ntmps28,Tryz.results28];simp only [ast0,List.map_cons,List.map_nil,List.length_cons,List.length_nil,Nat.reduceAdd,Nat.reduceSub,List.replicate_succ,List.replicate_zero,List.cons_append,List.nil_append]
 repeat (with_reducible first|refine W_seq fun K hK=>?_|refine J_region ?_|(refine Kont.go (by assumption) ?_)|(simp (config:={ maxSteps:=3000000 }) (disch:=omega) only [go_sem,Nat.reduceAdd]))
 refine call_f hk rfl ?_
 repeat (with_reducible first|refine W_seq fun K hK=>?_|refine J_ret ?_|refine J_region ?_|refine J_c ?_|refine Jc_true ?_|(refine Kont.go (by assumption) ?_)|(simp (config:={ maxSteps:=3000000 }) (disch:=omega) only [go_sem,↓reduceIte,Nat.reduceAdd,h0]))
 exact ⟨_,rfl,FrzL.fs [_,_]⟩
set_option maxRecDepth 100000 in
theorem back_var {b:Nat} {ys:List FV} {m:List (List Rat)} {i:Int} (hm0:FrM b ys m) (h1:1≤b) (hb:b≤10000) (hmx:m.length≤140737488355328) (h0:chkM m=0) (hi:i<0∨(m.length:Int)≤i) :
  Good Tryz.prog 28 [.fz 1 ys,I i] (.tup [zF,I 11]):=by
 have hk:=check_w hm0 h1 (by omega) hmx
 rw [h0] at hk
 have hyl:ys.length=m.length:=hm0.len
 refine good_of Tryz.func28 rfl (by kernel_rfl) fun X hO hrd=>?_;rw [Tryz.ntmps28,Tryz.results28];simp only [ast0,List.map_cons,List.map_nil,List.length_cons,List.length_nil,Nat.reduceAdd,Nat.reduceSub,List.replicate_succ,List.replicate_zero,List.cons_append,List.nil_append]
 repeat (with_reducible first|refine W_seq fun K hK=>?_|refine J_region ?_|(refine Kont.go (by assumption) ?_)|(simp (config:={ maxSteps:=3000000 }) (disch:=omega) only [go_sem,Nat.reduceAdd]))
 refine call_f hk rfl ?_
 by_cases hn:i<0
 ·repeat (with_reducible first|refine W_seq fun K hK=>?_|refine J_skip ?_|refine J_ret ?_|refine J_region ?_|refine J_c ?_|refine Jc_true ?_|refine Jc_false ?_|(refine Kont.go (by assumption) ?_)|(simp (config:={ maxSteps:=3000000 }) (disch:=omega) only [go_sem,↓reduceIte,Nat.reduceAdd,hn]))
  exact ⟨_,rfl,FrzL.fs [_,_]⟩
 ·have hge:(m.length:Int)≤i:=by omega
  repeat (with_reducible first|refine W_seq fun K hK=>?_|refine J_skip ?_|refine J_ret ?_|refine J_region ?_|refine J_c ?_|refine Jc_true ?_|refine Jc_false ?_|(refine Kont.go (by assumption) ?_)|(simp (config:={ maxSteps:=3000000 }) (disch:=omega) only [go_sem,↓reduceIte,Nat.reduceAdd,hyl,hn,hge]))
  exact ⟨_,rfl,FrzL.fs [_,_]⟩
end Go.Proofs.YtcgagiimlkjcpaaGreatDoor
