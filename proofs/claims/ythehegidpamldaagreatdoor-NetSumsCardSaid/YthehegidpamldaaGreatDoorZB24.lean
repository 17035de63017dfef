/- Nets: Joint, the program's and the document's: walked. Conditions: what slices may hold; numbers of at most 10^7 bytes. -/
import Derived.Test.YthehegidpamldaaGreatDoorZB18
import Derived.Test.YthehegidpamldaaGreatDoorZB22
import Derived.Test.YthehegidpamldaaGreatDoorZB23
import Derived.Test.YthehegidpamldaaGreatDoorZB13
import Derived.Test.YthehegidpamldaaGreatDoorZB20
set_option linter.unusedVariables false
set_option linter.unusedSimpArgs false
namespace Go.Proofs.YthehegidpamldaaGreatDoor
open Go Go.RowKit
def jntF (V:List VarD) (P:List (List Int)) (M:List (List Rat)) (a:Nat→Nat):Nat→Rat
 | 0=>((1:Int):Rat)
 | i+1=>jntF V P M a i*rowG (szN V) (paN P i) i (M.getD i []) a
def jntE (Z:List Nat) (at_:List Int):Int:=if at_.length≠Z.length then 8 else if atB Z (List.range Z.length) at_=true then 0 else 12
section
variable {k : Nat} {V : List VarD} {P : List (List Int)} {RR : List FV} {M : List (List Rat)} {at_ : List Int}
theorem jntF_fz (h:NetOk k V P RR M) {a:Nat→Nat} (hr:∀i,i<V.length→Fz (rowG (szN V) (paN P i) i (M.getD i []) a) k):∀{i:Nat},i≤V.length→Fz (jntF V P M a i) (8+i*k):=by
 intro i
 induction i with
 | zero=>intro _;have h1:Fz ((1:Int):Rat) 8:=(IsFr.int (by omega) (by omega)).fz (by omega);rw [Nat.zero_mul,Nat.add_zero];exact h1
 | succ i ih =>
  intro hi
  have h1:=(ih (by omega)).mul (hr i (by omega))
  show Fz (jntF V P M a i*_) _
  rw [Nat.succ_mul,←Nat.add_assoc]
  exact h1
theorem net_okR (he:netE (ordE P) V P M=0):OkT (szN V) (List.range (szN V).length):=by
 obtain ⟨⟨hP,_⟩,hE,_,_,_⟩:=netE_zero he
 obtain ⟨⟨h1,_⟩,_⟩:=listsB_iff.1 (ordE_lists hE)
 have hT:=(netG he (v:=0) (by omega)).ok
 exact hT.sub List.pairwise_lt_range fun v hv=>List.mem_range.1 hv
theorem atB_nat {Z:List Nat} (hl:at_.length=Z.length) (h:atB Z (List.range Z.length) at_=true):∃A:List Nat,at_=A.map Int.ofNat∧A.length=Z.length∧∀u,u<Z.length→A.getD u 0<szT Z u:=by
 have hb:=atB_iff.1 h
 have hg:∀u,u<Z.length→(List.range Z.length).getD u 0=u:=fun u hu=>by rw [lget_lt _ 0 (by rw [List.length_range];exact hu),List.getElem_range]
 have hnn:∀x∈at_,0≤x:=fun x hx=>by
  obtain ⟨i,hi,rfl⟩:=List.getElem_of_mem hx
  have:=(hb i (by rw [List.length_range];omega)).1
  rwa [lget_lt at_ 0 hi] at this
 refine ⟨at_.map Int.toNat,(natOf hnn).symm,by rw [List.length_map];exact hl,fun u hu=>?_⟩
 have h1:=hb u (by rw [List.length_range];exact hu)
 rw [hg u hu,lget_lt at_ 0 (by omega)] at h1
 rw [lget_lt _ 0 (by rw [List.length_map];omega),List.getElem_map]
 omega
theorem range_map {n:Nat}:(List.range n).map (fun j:Nat=>I (j:Int))=Ns (List.range n):=by unfold Ns;rfl
theorem jnt_get {A:List Nat} {u:Nat}:(((A.map Int.ofNat).getD u 0).toNat)=A.getD u 0:=by
 by_cases h:u<A.length
 ·rw [lget_lt _ 0 (by rw [List.length_map];exact h),List.getElem_map,lget_lt A 0 h];rfl
 ·rw [List.getD_eq_getElem?_getD,List.getElem?_eq_none (by rw [List.length_map];omega),List.getD_eq_getElem?_getD,List.getElem?_eq_none (by omega)];rfl
set_option maxRecDepth 100000 in
set_option maxHeartbeats 8000000 in
theorem joint_w (h:NetOk k V P RR M) (he:netE (ordE P) V P M=0) (hx:jntE (szN V) at_=0):Good Tryz.prog 11 [netV V (P.map ints) RR,ints at_] (.tup [fr (jntF V P M (fun u=>(at_.getD u 0).toNat) V.length),I 0]):=by
 have hc:=netCheck_w h
 rw [he] at hc
 have hV:=h.lV
 have hsz:=sizes_w V (P.map ints) RR hV
 have hR:=net_okR he
 have hZl:(szN V).length=V.length:=szN_len
 have hz8:=hR.z8
 unfold jntE at hx
 by_cases hl:at_.length≠(szN V).length
 ·rw [if_pos hl] at hx;exact absurd hx (by decide)
 rw [if_neg hl] at hx
 by_cases hb:atB (szN V) (List.range (szN V).length) at_=true
 rotate_left
 ·rw [if_neg hb] at hx;exact absurd hx (by decide)
 have hix:=index_w at_ hR (by omega)
 rw [List.length_range,if_neg hl,if_pos hb,hZl] at hix
 obtain ⟨A,rfl,hAl,hAz⟩:=atB_nat (Decidable.not_not.1 hl) hb
 simp only [jnt_get]
 rw [ints_Ns] at hix ⊢
 have hNl:(Ns (szN V)).length=V.length:=by rw [Ns_len,hZl]
 have hz1:List.replicate V.length (AV.f (.v (.int .i64 0)))=(fillL V.length 0 (fun j:Nat=>I (j:Int)) (I 0)).map .f:=by rw [fill_zero,List.map_replicate]
 have hby:(8:Int)*(V.length:Int)≤281474976710656:=by omega
 generalize horT (szN V) (List.range V.length) (A.map Int.ofNat) V.length=hor at hix
 have hra:∀i,i<V.length→∃(idx:Nat) (xs:List FV) (g:Bool) (n d:ByteArray),RR[i]?=some (.fz 3 xs)∧idx<xs.length∧xs[idx]?=some (frR g n d)∧IsFr (frR g n d) (rowG (szN V) (paN P i) i (M.getD i []) fun u=>A.getD u 0) k ∧
   Good Tryz.prog 40 [netV V (P.map ints) RR,I (i:Int),.fz 1 (Ns (List.range V.length)),.fz 1 (Ns A)] (I (idx:Int)):=fun i hi=>by
  have hG:=netG he hi
  obtain ⟨xs,hr,hq⟩:=h.hM.at hG.ml
  have hql:=hG.len
  rw [lget_lt M [] hG.ml] at hql ⊢
  have ia:=row_lt (Z:=szN V) (pa:=paN P i) (v:=i) (a:=fun u=>A.getD u 0) (fun w hw=>hAz w (hG.ok.lt w hw)) (hAz i (by omega))
  rw [←hql] at ia
  obtain ⟨g,n,d,x1,f1⟩:=hq.at3 ia
  have hsp:=spot_w (PP:=P.map ints) (RR:=RR) (A:=A) (a:=fun u=>A.getD u 0) hV hG.ok hR hi hG.get (List.mem_range.2 (by omega)) (fun w hw=>List.mem_range.2 (hG.ok.lt w hw)) (by rw [List.length_range];exact hAl) (fun j hj=>by
   rw [List.length_range] at hj
   rw [lget_lt (List.range _) 0 (by rw [List.length_range];exact hj),List.getElem_range]) (fun w hw=>hAz w (List.mem_range.1 hw))
  rw [hZl] at hsp
  unfold rowG
  rw [lget_lt _ 0 ia]
  exact ⟨_,xs,g,n,d,hr,by rw [hq.len];exact ia,x1,f1,hsp⟩
 have hfz:∀{i:Nat},i≤V.length→Fz (jntF V P M (fun u=>A.getD u 0) i) (8+i*k):=jntF_fz h (a:=fun u=>A.getD u 0) (fun i hi=>by
  obtain ⟨_,_,_,_,_,_,_,_,f1,_⟩:=hra i hi
  exact f1.fz h.k1)
 have hkk:=h.kk
 have hb9:∀i,i≤V.length→8+i*k≤34359738368:=fun i hi=>by
  have:=Nat.mul_le_mul (show i≤8 by omega) hkk
  omega
 refine good_of Tryz.func11 rfl (by kernel_rfl) fun X hO hrd=>?_;rw [Tryz.ntmps11,Tryz.results11];simp only [ast0,List.map_cons,List.map_nil,List.length_cons,List.length_nil,Nat.reduceAdd,Nat.reduceSub,List.replicate_succ,List.replicate_zero,List.cons_append,List.nil_append]
 (repeat (with_reducible first|refine W_seq fun K hK=>?_|refine J_region ?_ |(refine Kont.go (by assumption) ?_)|(simp (config:={ maxSteps:=3000000 }) (disch:=omega) only [go_sem,↓reduceIte,Nat.reduceAdd])))
 (first|refine call_f (hc) rfl ?_|refine callQ_f (hc) rfl ?_|refine callHK_f (hc) rfl ?_|refine callH_f (hc) rfl ?_)
 (repeat (with_reducible first|refine W_seq fun K hK=>?_|refine J_skip ?_|refine J_region ?_ |refine J_c ?_|refine Jc_false ?_|(refine Kont.go (by assumption) ?_)|(simp (config:={ maxSteps:=3000000 }) (disch:=omega) only [go_sem,↓reduceIte,Nat.reduceAdd])))
 (first|refine call_f (hsz) rfl ?_|refine callQ_f (hsz) rfl ?_|refine callHK_f (hsz) rfl ?_|refine callH_f (hsz) rfl ?_)
 (repeat (first|(with_reducible first|refine W_seq fun K hK=>?_|refine J_block ?_|refine J_region ?_ |(refine Kont.go (by assumption) ?_)|(simp (config:={ maxSteps:=3000000 }) (disch:=omega) only [go_sem,Nat.reduceAdd,hNl,hz1]))|refine And.intro (by omega) ?_))
 refine W_loop [9,27,28,29,30,31,32,33,34] (fun x:Nat=>[(27,.f (I x))]) (fun x:Nat=>[oNt (V.map varF) (P.map ints) RR,oF frN,some ⟨3,1,(fillL V.length x (fun j:Nat=>I (j:Int)) (I 0)).map .f⟩]) (fun x:Nat=>x≤V.length) (fun x:Nat=>V.length-x) (0) (Nat.zero_le _) (by refine weak_of ?_ ?_<;>simp (disch:=omega) only [go_sem,Nat.reduceAdd]<;>first|rfl|exact ⟨rfl,rfl⟩|exact Or.inl rfl|exact ⟨Or.inl rfl,Or.inl rfl⟩|trivial|assumption|omega|(symm;assumption)|((repeat' apply And.intro)<;>first|rfl|omega|trivial|exact .inl rfl|exact .inr ⟨rfl,rfl⟩|exact .inr rfl|(right;symm;assumption)|(symm;assumption)|assumption)) ?_
 rintro x hx
 simp only [go_sem]
 (repeat (with_reducible first|refine W_seq fun K hK=>?_|refine J_region ?_ |refine J_c ?_|(refine Kont.go (by assumption) ?_)|(simp (config:={ maxSteps:=3000000 }) (disch:=omega) only [go_sem])))
 refine Jc_if (fun hxl=>?_) (fun hxl=>?_)<;>try simp only [decide_eq_true_eq,decide_eq_false_iff_not] at hxl
 ·have hst:((fillL V.length x (fun j:Nat=>I (j:Int)) (I 0)).map AV.f).set x (.f (I (x:Int)))=(fillL V.length (x+1) (fun j:Nat=>I (j:Int)) (I 0)).map .f:=fillA_set hxl rfl
  have hge:((fillL V.length x (fun j:Nat=>I (j:Int)) (I 0)).map AV.f)[x]?=some (.f (I 0)):=by rw [fillA_get hxl,if_neg (Nat.lt_irrefl _)]
  (repeat (first|(with_reducible first|refine W_seq fun K hK=>?_|refine J_block ?_|refine J_skip ?_|refine J_region ?_ |(refine Kont.go (by assumption) ?_)|(simp (config:={ maxSteps:=3000000 }) (disch:=omega) only [go_sem,↓reduceIte,hst,hge]))|refine And.intro (by omega) ?_))
  refine ⟨x+1,by omega,by omega,weak_of ?_ ?_⟩<;>(try simp (disch:=omega) only [go_sem,Nat.reduceAdd])<;>(try first|done|omega|rfl|exact ⟨rfl,rfl⟩|trivial)
 ·have hex:x=V.length:=by omega
  subst hex
  have hfa:fillL V.length V.length (fun j:Nat=>I (j:Int)) (I 0)=Ns (List.range V.length):=by rw [fill_all];exact range_map
  rw [hfa]
  (repeat (with_reducible first|refine W_seq fun K hK=>?_|refine J_exit ?_|(refine Kont.go (by assumption) ?_)|(simp (config:={ maxSteps:=3000000 }) (disch:=omega) only [go_sem,↓reduceIte])))
  have hrl:V.length=(Ns (List.range V.length)).length:=by rw [Ns_len,List.length_range]
  refine J_freezeO (j:=8) rfl (by first|exact hrl|exact hrl.symm) rfl ?_
  (repeat (with_reducible first|refine J_region ?_ |(simp (config:={ maxSteps:=3000000 }) (disch:=omega) only [go_sem,Nat.reduceEqDiff,↓reduceIte])))
  (first|refine call_f (hix) rfl ?_|refine callQ_f (hix) rfl ?_|refine callHK_f (hix) rfl ?_|refine callH_f (hix) rfl ?_)
  (repeat (first|(with_reducible first|refine W_seq fun K hK=>?_|refine J_block ?_|refine J_skip ?_|refine J_region ?_ |refine J_c ?_|refine Jc_false ?_|(refine Kont.go (by assumption) ?_)|(simp (config:={ maxSteps:=3000000 }) (disch:=omega) only [go_sem,↓reduceIte,Nat.reduceAdd,Ns_len,List.length_range]))|refine call_f (of_good (by omega) (by omega)) rfl ?_))
  have hj0:fr ((1:Int):Rat)=fr (jntF V P M (fun u=>A.getD u 0) 0):=rfl
  rw [hj0]
  refine W_loop [13,49,50,51,52,53,54,55,56,57,58,59,60,61,62,63,64,65,66] (fun y:Nat=>[(49,.f (I y))]) (fun y:Nat=>[oNt (V.map varF) (P.map ints) RR,oF frN,none,oF (fr (jntF V P M (fun u=>A.getD u 0) y))]) (fun y:Nat=>y≤V.length) (fun y:Nat=>V.length-y) (0) (Nat.zero_le _) (by refine weak_of ?_ ?_<;>simp (disch:=omega) only [go_sem,Nat.reduceAdd]<;>first|rfl|exact ⟨rfl,rfl⟩|exact Or.inl rfl|exact ⟨Or.inl rfl,Or.inl rfl⟩|trivial|assumption|omega|(symm;assumption)|((repeat' apply And.intro)<;>first|rfl|omega|trivial|exact .inl rfl|exact .inr ⟨rfl,rfl⟩|exact .inr rfl|(right;symm;assumption)|(symm;assumption)|assumption)) ?_
  rintro y hy
  simp only [go_sem]
  (repeat (with_reducible first|refine W_seq fun K hK=>?_|refine J_region ?_ |refine J_c ?_|(refine Kont.go (by assumption) ?_)|(simp (config:={ maxSteps:=3000000 }) (disch:=omega) only [go_sem])))
  refine Jc_if (fun hyl=>?_) (fun hyl=>?_)<;>try simp only [decide_eq_true_eq,decide_eq_false_iff_not] at hyl
  ·obtain ⟨idx,xs,g,n,d,hr,hidx,x1,f1,hsp⟩:=hra y hyl
   have f0:IsFr (fr (jntF V P M (fun u=>A.getD u 0) y)) _ _:=.c (hfz hy)
   have hb1:=hb9 y hy
   have hnx:jntF V P M (fun u=>A.getD u 0) y*rowG (szN V) (paN P y) y (M.getD y []) (fun u=>A.getD u 0)=jntF V P M (fun u=>A.getD u 0) (y+1):=rfl
   generalize jntF V P M (fun u=>A.getD u 0) y=jn0 at f0 hnx ⊢
   generalize rowG (szN V) (paN P y) y (M.getD y []) (fun u=>A.getD u 0)=rg at f1 hnx
   (repeat (with_reducible first|refine W_seq fun K hK=>?_|refine J_block ?_|refine J_skip ?_|refine J_region ?_ |refine J_drawn mixed (by kernel_rfl) ?_|(refine Kont.go (by assumption) ?_)|(simp (config:={ maxSteps:=3000000 }) (disch:=omega) only [go_sem,↓reduceIte,Nat.reduceAdd,hr])))
   (first|refine call_f (hsp) rfl ?_|refine callQ_f (hsp) rfl ?_|refine callHK_f (hsp) rfl ?_|refine callH_f (hsp) rfl ?_)
   (repeat (first|(with_reducible first|refine J_region ?_ |(refine Kont.go (by assumption) ?_)|(simp (config:={ maxSteps:=3000000 }) (disch:=omega) only [go_sem,↓reduceIte,Nat.reduceAdd,x1,hnx]))|refine callQ_f (mul_w (by assumption) (by assumption) (by omega) (by omega)) rfl ?_))
   refine ⟨y+1,by omega,by omega,weak_of ?_ ?_⟩<;>(try simp (disch:=omega) only [go_sem,Nat.reduceAdd])<;>(try first|done|omega|rfl|exact ⟨rfl,rfl⟩|trivial)
  ·have hey:y=V.length:=by omega
   subst hey
   (repeat (with_reducible first|refine W_seq fun K hK=>?_|refine J_exit ?_|refine J_ret ?_|refine J_region ?_ |(refine Kont.go (by assumption) ?_)|(simp (config:={ maxSteps:=3000000 }) (disch:=omega) only [go_sem,↓reduceIte,Nat.reduceAdd])))
   exact ⟨_,rfl,FrzL.fs [_,_]⟩
end
end Go.Proofs.YthehegidpamldaaGreatDoor
set_option linter.unusedVariables false
set_option linter.unusedSimpArgs false
namespace Go.Proofs.YthehegidpamldaaGreatDoor
open Go Go.RowKit
theorem sumN_to {l:List Rat}:∀{i:Nat},sumN (fun x=>l.getD x 0) i=sumTo l i:=by
 intro i
 induction i with
 | zero=>rfl
 | succ i ih=>show sumN _ i+_=sumTo l i+_;rw [ih]
theorem f1S_sum {f:Nat→Rat}:∀{n:Nat},f1S (fun a b=>a+b) f n=sumN f (n+1):=by
 intro n
 induction n with
 | zero=>show f 0=0+f 0;rw [Rat.zero_add]
 | succ n ih=>show f1S _ f n+f (n+1)=sumN f (n+1)+f (n+1);rw [ih]
def clS (S a:Nat→Nat):Nat→Nat:=fun u=>a u%S u
section
variable {Z pa : List Nat} {v : Nat} {qs : List Rat} {a b : Nat → Nat}
theorem rowG_congr (h:∀u∈pa++[v],a u=b u):rowG Z pa v qs a=rowG Z pa v qs b:=by unfold rowG;rw [idxS_congr h]
theorem rwQ_get {s j x:Nat} (hx:x<s):(rwQ qs s j).getD x 0=qs.getD (j*s+x) 0:=by
 unfold rwQ
 rw [List.getD_eq_getElem?_getD,List.getElem?_take,if_pos hx,List.getElem?_drop,List.getD_eq_getElem?_getD]
theorem rwQ_len {s j c:Nat} (hl:qs.length=c*s) (hj:j<c):(rwQ qs s j).length=s:=by
 unfold rwQ
 rw [List.length_take,List.length_drop,hl]
 have:=Nat.mul_le_mul_right s (show j+1≤c by omega)
 rw [Nat.add_mul] at this
 omega
end
section
variable {V : List VarD} {P : List (List Int)} {M : List (List Rat)} {v : Nat} {a b : Nat → Nat}
theorem VarG.sum (h:VarG V P M v) (ha:∀u∈paN P v,a u<szT (szN V) u):sumN (fun x=>rowG (szN V) (paN P v) v (M.getD v []) (updS a v x)) (szT (szN V) v)=1:=by
 have hJ:=idxS_lt ha
 have hc:=(of_decide_eq_true (h.ch _ hJ)).2
 unfold sumR at hc
 rw [rwQ_len h.len hJ,←sumN_to] at hc
 rw [←hc]
 refine sumN_congr fun x hx=>?_
 rw [rwQ_get hx]
 unfold rowG
 have e1:idxS (szT (szN V)) (updS a v x) (paN P v)=idxS (szT (szN V)) a (paN P v):=idxS_congr fun u hu=>updS_ne fun e=>h.out (by rw [e] at hu;exact hu)
 rw [idxS_snoc,updS_self,e1]
theorem VarG.nn (h:VarG V P M v) (ha:∀u∈paN P v,a u<szT (szN V) u) (hav:a v<szT (szN V) v):0≤rowG (szN V) (paN P v) v (M.getD v []) a:=by
 have hJ:=idxS_lt ha
 have hc:=(of_decide_eq_true (h.ch _ hJ)).1
 unfold rowG
 rw [idxS_snoc,←rwQ_get hav]
 have hl:=rwQ_len h.len hJ
 rw [lget_lt _ 0 (by rw [hl];exact hav)]
 exact hc _ (List.getElem_mem _)
def pcN (V:List VarD) (P:List (List Int)) (M:List (List Rat)) (v:Nat) (a:Nat→Nat):Rat:=rowG (szN V) (paN P v) v (M.getD v []) (clS (szT (szN V)) a)
theorem VarG.cl (h:VarG V P M v):∀u∈paN P v,clS (szT (szN V)) a u<szT (szN V) u:=fun u hu=>Nat.mod_lt _ (h.ok.pos u hu)
theorem VarG.pc (h:VarG V P M v):sumN (fun x=>pcN V P M v (updS a v x)) (szT (szN V) v)=1:=by
 rw [←h.sum (a:=clS (szT (szN V)) a) h.cl]
 refine sumN_congr fun x hx=>rowG_congr fun u _=>?_
 unfold clS
 by_cases e:u=v
 ·rw [e,updS_self,updS_self,Nat.mod_eq_of_lt hx]
 ·rw [updS_ne e,updS_ne e]
theorem pcN_dep {u x:Nat} (h1:u≠v) (h2:u∉paN P v):pcN V P M v (updS a u x)=pcN V P M v a :=
 rowG_congr fun w hw=>by
  unfold clS
  rw [updS_ne fun e=>?_]
  rcases List.mem_append.1 hw with hw|hw
  ·exact h2 (e▸hw)
  ·rw [List.mem_singleton] at hw;exact h1 (by rw [←e,hw])
theorem pr_jnt:∀{i:Nat},prS (pcN V P M) a (List.range i)=jntF V P M (clS (szT (szN V)) a) i:=by
 intro i
 induction i with
 | zero=>rfl
 | succ i ih =>
  rw [List.range_succ,prS_app,ih]
  show _*(pcN V P M i a*1)=_
  rw [Rat.mul_one];rfl
theorem jntF_congr {n:Nat} (hg:∀i,i<n→VarG V P M i) (hn:n≤V.length) (h:∀u,u<V.length→a u=b u):jntF V P M a n=jntF V P M b n:=by
 induction n with
 | zero=>rfl
 | succ n ih =>
  show jntF V P M a n*_=jntF V P M b n*_
  rw [ih (fun i hi=>hg i (by omega)) (by omega)]
  congr 1
  refine rowG_congr fun u hu=>h u ?_
  rcases List.mem_append.1 hu with hu|hu
  ·have:=(hg n (by omega)).ok.lt u hu;rwa [szN_len] at this
  ·rw [List.mem_singleton.1 hu];omega
theorem jntF_nn {n:Nat} (hg:∀i,i<n→VarG V P M i) (hn:n≤V.length) (ha:∀u,u<V.length→a u<szT (szN V) u):0≤jntF V P M a n:=by
 induction n with
 | zero=>show (0:Rat)≤1;decide
 | succ n ih =>
  refine Rat.mul_nonneg (ih (fun i hi=>hg i (by omega)) (by omega)) ((hg n (by omega)).nn (fun u hu=>ha u ?_) (ha n (by omega)))
  have:=(hg n (by omega)).ok.lt u hu;rwa [szN_len] at this
theorem net_sum (he:netE (ordE P) V P M=0) (hd:(∀v,v<V.length→∀u∈paN P v,u<v)∨(∀v,v<V.length→∀u∈paN P v,v<u)):sumN (fun k=>jntF V P M (asgS (szT (szN V)) (List.range V.length) k) V.length) (cntS (szT (szN V)) (List.range V.length))=1:=by
 have hg:∀i,i<V.length→VarG V P M i:=fun i hi=>netG he hi
 have hR:=net_okR he
 rw [szN_len] at hR
 have hs:sumS (szT (szN V)) (List.range V.length) (fun a=>prS (pcN V P M) a (List.range V.length))=1:=by
  rcases hd with hd|hd
  ·refine sum_one_fore hR.nd hR.pos (fun v hv a=>(hg v (List.mem_range.1 hv)).pc) ?_
   refine List.Pairwise.imp_of_mem (fun {v w} hv hw h a x=>pcN_dep (by omega) fun hm=>?_) List.pairwise_lt_range
   have:=hd v (List.mem_range.1 hv) w hm;omega
  ·refine sum_one_back hR.nd (fun v hv a=>(hg v (List.mem_range.1 hv)).pc) ?_
   refine List.Pairwise.imp_of_mem (fun {v w} hv hw h a x=>pcN_dep (by omega) fun hm=>?_) List.pairwise_lt_range
   have:=hd w (List.mem_range.1 hw) v hm;omega
 rw [←hs]
 unfold sumS
 refine sumN_congr fun k hk=>?_
 show _=prS (pcN V P M) (asgS (szT (szN V)) (List.range V.length) k) (List.range V.length)
 rw [pr_jnt]
 refine jntF_congr hg (Nat.le_refl _) fun u hu=>?_
 exact (Nat.mod_eq_of_lt (asgS_lt hR.nd hR.pos hk (List.mem_range.2 hu))).symm
theorem giv_out (h:VarG V P M v) (hv:v<V.length):∀q∈outT (opT false) (szN V) (famT (szN V).length (paN P v) v) v (givQ (szN V) (paN P v) v (M.getD v [])),q=1:=by
 intro q hq
 obtain ⟨k,hk,rfl⟩:=List.mem_map.1 hq
 rw [List.mem_range] at hk
 have hF:=h.ok.fam (v:=v)
 have hL:=hF.less (v:=v)
 have hsp:=hF.szp (v:=v) (by rw [szN_len];exact hv)
 show f1S _ _ _=1
 obtain ⟨a,ha⟩:∃a,a=asgS (szT (szN V)) (lessT (famT (szN V).length (paN P v) v) v) k:=⟨_,rfl⟩
 rw [←ha]
 have hal:∀u∈paN P v,a u<szT (szN V) u:=fun u hu=>by
  rw [ha]
  exact asgS_lt hL.nd hL.pos hk (mem_lessT.2 ⟨mem_famT.2 ⟨h.ok.lt u hu,.inl hu⟩,fun e=>h.out (e▸hu)⟩)
 have e1:f1S (opT false) (fun x=>tblG (szN V) (famT (szN V).length (paN P v) v) (givQ (szN V) (paN P v) v (M.getD v [])) (updS a v x)) (szT (szN V) v-1)=f1S (opT false) (fun x=>rowG (szN V) (paN P v) v (M.getD v []) (updS a v x)) (szT (szN V) v-1):=f1S_congr fun x hx=>by
  unfold givQ
  refine tblG_tblS hF (fun b c hbc=>rowG_congr fun u hu=>hbc u ?_) fun w hw=>?_
  ·rcases List.mem_append.1 hu with hu|hu
   ·exact mem_famT.2 ⟨h.ok.lt u hu,.inl hu⟩
   ·rw [List.mem_singleton.1 hu];exact mem_famT.2 ⟨by rw [szN_len];exact hv,.inr rfl⟩
  ·by_cases e:w=v
   ·rw [e,updS_self];omega
   ·rw [updS_ne e]
    exact hal w ((mem_famT.1 hw).2.resolve_right e)
 rw [e1]
 have e2:=h.sum hal
 have e3:szT (szN V) v=szT (szN V) v-1+1:=by omega
 rw [←e2]
 conv=>rhs;rw [e3]
 exact f1S_sum
end
end Go.Proofs.YthehegidpamldaaGreatDoor
set_option linter.unusedVariables false
set_option linter.unusedSimpArgs false
namespace Go.Proofs.YthehegidpamldaaGreatDoor
open Go Go.RowKit
section
variable {k : Nat} {V : List VarD} {P : List (List Int)} {RR : List FV} {M : List (List Rat)}
set_option maxRecDepth 100000 in
set_option maxHeartbeats 8000000 in
theorem given_w (h:NetOk k V P RR M) {v:Nat} (he:netE (ordE P) V P M=0) (hv:v<V.length):Good Tryz.prog 9 [netV V (P.map ints) RR,I (v:Int)] (.tup [tabV (famT (szN V).length (paN P v) v) ((givQ (szN V) (paN P v) v (M.getD v [])).map fr),I 0]):=by
 have hc:=netCheck_w h
 rw [he] at hc
 have hG:=netG he hv
 have hV:=h.lV
 have hsz:=sizes_w V (P.map ints) RR hV
 have hT:=hG.ok
 have hpg:=hG.get
 have hvZ:v<(szN V).length:=by rw [szN_len];exact hv
 have hsrt:=fam_sort hT hvZ hG.out
 have hu:=hT.fam (v:=v)
 obtain ⟨xs,hr,hq⟩:=h.hM.at hG.ml
 have hql:=hG.len
 rw [lget_lt M [] hG.ml] at hql ⊢
 generalize M[v]'hG.ml=qs at hq hql
 have hfm:=fun w=>mem_famT (n:=(szN V).length) (pa:=paN P v) (v:=v) (u:=w)
 have hplt:=hT.lt
 have hpl:(givQ (szN V) (paN P v) v qs).length=cntS (szT (szN V)) (famT (szN V).length (paN P v) v):=tblS_len
 have hgx:∀x,x<cntS (szT (szN V)) (famT (szN V).length (paN P v) v)→(givQ (szN V) (paN P v) v qs)[x]?=some (rowG (szN V) (paN P v) v qs (asgS (szT (szN V)) (famT (szN V).length (paN P v) v) x)):=fun x hx=>tblS_get hx
 generalize hp:givQ (szN V) (paN P v) v qs=p at hpl hgx ⊢
 generalize hfe:famT (szN V).length (paN P v) v=u at *
 generalize hpae:paN P v=pa at *
 have hsp:∀{A:List Nat} {a:Nat→Nat},A.length=u.length→(∀i,i<u.length→A.getD i 0=a (u.getD i 0))→(∀w∈u,a w<szT (szN V) w)→Good Tryz.prog 40 [netV V (P.map ints) RR,I (v:Int),.fz 1 (Ns u),.fz 1 (Ns A)] (I ((idxS (szT (szN V)) a (pa++[v]):Nat):Int)) :=
  fun h1 h2 h3=>spot_w hV hT hu hv hpg ((hfm v).2 ⟨hvZ,.inr rfl⟩) (fun w hw=>(hfm w).2 ⟨hplt w hw,.inl hw⟩) h1 h2 h3
 have hul:=hu.len
 have huc:=hu.cnt
 have huc1:=hu.cnt1
 have hcn:=tcountT_w hu
 have hk:=h.kk
 have hvl:v<8:=by have:=hT.z8;omega
 obtain ⟨N,hN⟩:∃N,N=cntS (szT (szN V)) u:=⟨_,rfl⟩
 rw [←hN] at hpl huc huc1 hcn
 have hpal:=hT.len
 obtain ⟨F,hF⟩:∃F:List Int,F=pa.map Int.ofNat++[(v:Int)]:=⟨_,rfl⟩
 have hFl:F.length=pa.length+1:=by rw [hF,List.length_append,List.length_map];rfl
 have hFI:Ns pa++[I (v:Int)]=F.map I:=by rw [hF,List.map_append];unfold Ns;rw [List.map_map];rfl
 rw [←hF] at hsrt
 have n1:¬((v:Nat):Int)<0:=by omega
 have n2:¬(V.length:Int)≤(v:Int):=by omega
 refine good_of Tryz.func9 rfl (by kernel_rfl) fun X hO hrd=>?_;rw [Tryz.ntmps9,Tryz.results9];simp only [ast0,List.map_cons,List.map_nil,List.length_cons,List.length_nil,Nat.reduceAdd,Nat.reduceSub,List.replicate_succ,List.replicate_zero,List.cons_append,List.nil_append]
 (repeat (with_reducible first|refine W_seq fun K hK=>?_|refine J_region ?_|(refine Kont.go (by assumption) ?_)|(simp (config:={ maxSteps:=3000000 }) (disch:=omega) only [go_sem,↓reduceIte,Nat.reduceAdd])))
 (first|refine call_f (hc) rfl ?_|refine callQ_f (hc) rfl ?_|refine callHK_f (hc) rfl ?_|refine callH_f (hc) rfl ?_)
 (repeat (with_reducible first|refine W_seq fun K hK=>?_|refine J_skip ?_|refine J_region ?_|refine J_c ?_|refine Jc_false ?_|(refine Kont.go (by assumption) ?_)|(simp (config:={ maxSteps:=3000000 }) (disch:=omega) only [go_sem,↓reduceIte,Nat.reduceAdd,n1,n2,List.length_map])))
 (first|refine call_f (hsz) rfl ?_|refine callQ_f (hsz) rfl ?_|refine callHK_f (hsz) rfl ?_|refine callH_f (hsz) rfl ?_)
 (repeat (with_reducible first|refine W_seq fun K hK=>?_|(refine Kont.go (by assumption) ?_)|(simp (config:={ maxSteps:=3000000 }) (disch:=omega) only [go_sem])))
 refine J_cutZ (by assumption) [8,33,34,35,36,37,38,39,40,41] (fun _:Unit=>[(8,.own 2 1 0 F.length)]) (fun _=>[oNt (V.map varF) (P.map ints) RR,oT tab0,some ⟨3,1,(F.map I).map .f⟩]) (fun _=>True) ?_ ?_
 ·cases pa with
  | nil =>
   have eF:F.map I=[I (v:Int)]:=hFI.symm
   have eL:F.length=1:=hFl
   have e0:Ns []=([]:List FV):=rfl
   rw [e0] at hpg
   (repeat (with_reducible first|refine J_region ?_|(simp (config:={ maxSteps:=3000000 }) (disch:=omega) only [go_sem,↓reduceIte,hpg])))
   refine call_uo (clone_e _) ?_
   rintro z H' (⟨rfl,rfl⟩|⟨rfl,rfl⟩)
   ·(repeat (first|(with_reducible first|refine aApp_old ?_|(simp (config:={ maxSteps:=3000000 }) (disch:=omega) only [go_sem,↓reduceIte,Nat.reduceAdd,Nat.reduceLeDiff]))|refine And.intro (by omega) ?_))
    refine weak_ren [0,1,3] ⟨by decide,by first|decide|(simp;done)⟩ ?_ ?_<;>(try simp (disch:=omega) only [go_sem,Nat.reduceAdd,eF,eL,List.map_cons,List.map_nil])<;>(try first|done|omega|rfl|exact ⟨rfl,rfl⟩|trivial)
   ·(repeat (first|(with_reducible first|refine aApp_old ?_|(simp (config:={ maxSteps:=3000000 }) (disch:=omega) only [go_sem,↓reduceIte,Nat.reduceAdd,Nat.reduceLeDiff]))|refine And.intro (by omega) ?_))
    refine weak_ren [0,1,4] ⟨by decide,by first|decide|(simp;done)⟩ ?_ ?_<;>(try simp (disch:=omega) only [go_sem,Nat.reduceAdd,eF,eL,List.map_cons,List.map_nil])<;>(try first|done|omega|rfl|exact ⟨rfl,rfl⟩|trivial)
  | cons w pa =>
   have hcl:=cloneZ_w (w:Int) (pa.map Int.ofNat) (by rw [List.length_map];have:=hpal;rw [List.length_cons] at this;omega)
   have e1:ints ((w:Int)::pa.map Int.ofNat)=.fz 1 (Ns (w::pa)):=ints_Ns (w::pa)
   have e2:((w:Int)::pa.map Int.ofNat).map I=Ns (w::pa):=by unfold Ns;rw [List.map_cons,List.map_cons,List.map_map];rfl
   rw [e1,e2] at hcl
   have eF:F.map I=Ns (w::pa)++[I (v:Int)]:=hFI.symm
   have eL:F.length=(w::pa).length+1:=hFl
   have hNl:(Ns (w::pa)).length=(w::pa).length:=Ns_len
   have hb:((w::pa).length+1)*8≤140737488355328:=by have:=hpal;omega
   generalize hPA:Ns (w::pa)=PA at *
   generalize (w::pa).length=m at *
   have e5:(PA.map AV.f).take m=PA.map .f:=List.take_of_length_le (by rw [List.length_map];omega)
   (repeat (with_reducible first|refine J_region ?_|(simp (config:={ maxSteps:=3000000 }) (disch:=omega) only [go_sem,↓reduceIte,hpg])))
   refine call_o hcl (FrzL.fs [_]) ?_
   (repeat (first|(with_reducible first|refine aApp_old ?_|(simp (config:={ maxSteps:=3000000 }) (disch:=omega) only [go_sem,↓reduceIte,Nat.reduceAdd,Nat.reduceLeDiff,hNl,hb,e5,List.length_map]))|refine And.intro (by omega) ?_))
   refine weak_ren [0,1,4] ⟨by decide,by first|decide|(simp;done)⟩ ?_ ?_<;>(try simp (disch:=omega) only [go_sem,Nat.reduceAdd,eF,eL,map_ren_f,List.map_append,List.map_cons,List.map_nil])<;>(try first|done|omega|rfl|exact ⟨rfl,rfl⟩|trivial)
 ·rintro _ _
  have hNu:(u.map Int.ofNat).map I=Ns u:=by unfold Ns;rw [List.map_map];rfl
  have hFu:F.length=(Ns u).length:=by
   have h1:(srtT F).length=F.length:=List.length_mergeSort F
   rw [hsrt,List.length_map] at h1
   rw [Ns_len];exact h1.symm
  simp only [go_sem]
  (repeat (with_reducible first|refine W_seq fun K hK=>?_|refine J_region ?_|(simp (config:={ maxSteps:=3000000 }) (disch:=omega) only [go_sem])))
  refine call_u (sortT_u (S:=u.map Int.ofNat) hsrt.symm rfl (by omega)) ?_
  (repeat (with_reducible first|refine W_seq fun K hK=>?_|(refine Kont.go (by assumption) ?_)|(simp (config:={ maxSteps:=3000000 }) (disch:=omega) only [go_sem])))
  simp only [hNu,hFu]
  refine J_freezeO (j:=8) rfl (by first|rfl|(simp;done)|(simp [*];done)) rfl ?_
  (repeat (with_reducible first|refine J_region ?_|(simp (config:={ maxSteps:=3000000 }) (disch:=omega) only [go_sem,Nat.reduceEqDiff,↓reduceIte])))
  (first|refine call_f (hcn) rfl ?_|refine callQ_f (hcn) rfl ?_|refine callHK_f (hcn) rfl ?_|refine callH_f (hcn) rfl ?_)
  (repeat (with_reducible first|refine W_seq fun K hK=>?_|((fail_if_success refine J_region (id:=11) ?_);refine J_region ?_)|(refine Kont.go (by assumption) ?_)|(simp (config:={ maxSteps:=3000000 }) (disch:=omega) only [go_sem,Nat.reduceEqDiff,↓reduceIte,Nat.reduceAdd,Nat.reduceLeDiff])))
  refine J_reserve ?_
  simp only [go_sem]
  have h00:AV.f (.agg [.fz 1 (Ns u),.v (.slice none 0 0)])=tbA 4 (Ns u) ((p.take 0).map fr):=rfl
  (repeat (with_reducible first|refine J_block ?_|refine J_region ?_|(refine Kont.go (by assumption) ?_)|(simp (config:={ maxSteps:=3000000 }) (disch:=omega) only [go_sem])))
  refine J_mask [51] (by refine weak_of ?_ ?_<;>simp (disch:=omega) only [go_sem,Nat.reduceAdd]<;>first|rfl|exact ⟨rfl,rfl⟩|exact Or.inl rfl|exact ⟨Or.inl rfl,Or.inl rfl⟩|trivial|assumption|omega|(symm;assumption)|((repeat' apply And.intro)<;>first|rfl|omega|trivial|exact .inr ⟨rfl,rfl⟩|exact .inr rfl|(right;symm;assumption)|(symm;assumption)|assumption)) ?_;simp only [go_sem]
  rw [h00]
  refine W_loop [12,13,14,53,54,55,56,57,58,59,60,61,62,63,64,65,66,67,68,69,70,71,72,73,74,75,76,77,78,79,80,81] (fun x:Nat=>[(53,.f (I x))]) (fun x:Nat=>[oNt (V.map varF) (P.map ints) RR,oT tab0,none,some ⟨34,2,[tbA 4 (Ns u) ((p.take x).map fr)]⟩,ob 39 3 ((p.take x).map fr)]) (fun x:Nat=>x≤N) (fun x:Nat=>N-x) (0) (Nat.zero_le _) (by refine weak_of ?_ ?_<;>simp (disch:=omega) only [go_sem,Nat.reduceAdd]<;>first|rfl|exact ⟨rfl,rfl⟩|exact Or.inl rfl|exact ⟨Or.inl rfl,Or.inl rfl⟩|trivial|assumption|omega|(symm;assumption)|((repeat' apply And.intro)<;>first|rfl|omega|trivial|exact .inl rfl|exact .inr ⟨rfl,rfl⟩|exact .inr rfl|(right;symm;assumption)|(symm;assumption)|assumption)) ?_
  rintro x hx
  simp only [go_sem]
  (repeat (with_reducible first|refine W_seq fun K hK=>?_|refine J_region ?_|refine J_c ?_|(refine Kont.go (by assumption) ?_)|(simp (config:={ maxSteps:=3000000 }) (disch:=omega) only [go_sem])))
  refine Jc_if (fun hxN=>?_) (fun hxN=>?_)<;>try simp only [decide_eq_true_eq,decide_eq_false_iff_not] at hxN
  ·have hxu:x<cntS (szT (szN V)) u:=by omega
   have hua:∀w∈u,asgS (szT (szN V)) u x w<szT (szN V) w:=fun w hw=>asgS_lt hu.nd hu.pos hxu hw
   have hw:=whereT_w hu hxu
   have hspx:=hsp (A:=asgL (szN V) u x) (a:=asgS (szT (szN V)) u x) asgL_len (fun i hi=>asgL_get hi) hua
   have hpx:=hgx x hxu
   have ia:idxS (szT (szN V)) (asgS (szT (szN V)) u x) (pa++[v])<qs.length:=by
    rw [hql]
    exact row_lt (fun w hw=>hua w ((hfm w).2 ⟨hplt w hw,.inl hw⟩)) (hua v ((hfm v).2 ⟨hvZ,.inr rfl⟩))
   unfold rowG at hpx
   rw [lget_lt qs 0 ia] at hpx
   generalize idxS (szT (szN V)) (asgS (szT (szN V)) u x) (pa++[v])=i at ia hspx hpx
   obtain ⟨g,n,d,x1,f1⟩:=hq.at3 ia
   have hxl:=hq.len
   have htk:=take_frs hpx
   obtain ⟨q,hqe⟩:∃q,q=qs[i]:=⟨_,rfl⟩
   have hqx:fr qs[i]=fr q:=by rw [hqe]
   rw [←hqe] at htk
   have hPl:((p.take x).map fr).length=x:=by rw [List.length_map,List.length_take];omega
   by_cases x0:x=0
   ·subst x0
    have e1:ob 39 3 ((p.take 0).map fr)=none:=rfl
    have e2:(p.take (0+1)).map fr=[fr q]:=htk.symm
    have e3:ob 39 3 [fr q]=some ⟨39,3,[.f (fr q)]⟩:=rfl
    have e4:tbA 4 (Ns u) [fr q]=.agg [.f (.fz 1 (Ns u)),.own 4 3 0 1]:=rfl
    rw [←h00,e1]
    (repeat (with_reducible first|refine W_seq fun K hK=>?_|refine J_block ?_|refine J_skip ?_|refine J_region ?_|(refine Kont.go (by assumption) ?_)|(simp (config:={ maxSteps:=3000000 }) (disch:=omega) only [go_sem])))
    (first|refine call_f (hw) rfl ?_|refine callQ_f (hw) rfl ?_|refine callHK_f (hw) rfl ?_|refine callH_f (hw) rfl ?_)
    (repeat (with_reducible first|refine J_orders (id:=15) [16] (.one 0 (.one 1 (.one 2 (.one 3 (.one 4 (.one 5 (.one 6 (.one 7 (.one 8 (.one 9 (.one 10 (.one 11 (.one 12 (.one 13 (.one 14 (.one 15 (.one 16 (.one 17 (.one 18 .leaf))))))))))))))))))) mixed (by kernel_rfl) ?_ |(refine Kont.go (by assumption) ?_)|(simp (config:={ maxSteps:=3000000 }) (disch:=omega) only [go_sem,Nat.reduceEqDiff,↓reduceIte,Nat.reduceAdd,Nat.reduceLeDiff,hr])))
    (first|refine call_f (hspx) rfl ?_|refine callQ_f (hspx) rfl ?_|refine callHK_f (hspx) rfl ?_|refine callH_f (hspx) rfl ?_)
    (repeat (first|(with_reducible first|refine J_region ?_|(refine Kont.go (by assumption) ?_)|(simp (config:={ maxSteps:=3000000 }) (disch:=omega) only [go_sem,↓reduceIte,Nat.reduceAdd,Nat.reduceLeDiff,Int.reduceAdd,x1,hqx]))|refine callQ_f (canon_w (by assumption) (by omega)) rfl ?_|refine And.intro (by omega) ?_))
    refine ⟨0+1,by omega,by omega,weak_ren [0,1,2,3,6] ⟨by decide,by first|decide|(simp;done)⟩ ?_ ?_⟩<;>(try simp (disch:=omega) only [go_sem,Nat.reduceAdd,e2,e3,e4,List.map_cons,List.map_nil])<;>(try first|done|omega|rfl|exact ⟨rfl,rfl⟩|trivial)
   ·have hne:(p.take x).map fr≠[]:=fun h=>by have:=hPl;rw [h,List.length_nil] at this;omega
    have hne1:(p.take (x+1)).map fr≠[]:=by rw [←htk];simp
    have hln1:((p.take (x+1)).map fr).length=x+1:=by rw [←htk,List.length_append,hPl];rfl
    obtain ⟨T,hT⟩:∃T,T=(p.take x).map fr:=⟨_,rfl⟩
    rw [←hT] at hne hPl htk ⊢
    have e1:ob 39 3 T=some ⟨39,3,T.map .f⟩:=ob_pos hne
    have e2:tbA 4 (Ns u) T=.agg [.f (.fz 1 (Ns u)),.own 4 3 0 x]:=by rw [tbA_pos hne,hPl]
    have e3:ob 39 3 ((p.take (x+1)).map fr)=some ⟨39,3,T.map .f++[.f (fr q)]⟩:=by rw [ob_pos hne1,←htk,List.map_append];rfl
    have e4:tbA 4 (Ns u) ((p.take (x+1)).map fr)=.agg [.f (.fz 1 (Ns u)),.own 4 3 0 (x+1)]:=by rw [tbA_pos hne1,hln1]
    have e5:(T.map AV.f).take x=T.map .f:=List.take_of_length_le (by rw [List.length_map];omega)
    have e6:(x+1)*40≤140737488355328:=by omega
    rw [e1,e2]
    (repeat (with_reducible first|refine W_seq fun K hK=>?_|refine J_block ?_|refine J_skip ?_|refine J_region ?_|(refine Kont.go (by assumption) ?_)|(simp (config:={ maxSteps:=3000000 }) (disch:=omega) only [go_sem])))
    (first|refine call_f (hw) rfl ?_|refine callQ_f (hw) rfl ?_|refine callHK_f (hw) rfl ?_|refine callH_f (hw) rfl ?_)
    (repeat (with_reducible first|refine J_orders (id:=15) [16] (.one 0 (.one 1 (.one 2 (.one 3 (.one 4 (.one 5 (.one 6 (.one 7 (.one 8 (.one 9 (.one 10 (.one 11 (.one 12 (.one 13 (.one 14 (.one 15 (.one 16 (.one 17 (.one 18 .leaf))))))))))))))))))) mixed (by kernel_rfl) ?_ |(refine Kont.go (by assumption) ?_)|(simp (config:={ maxSteps:=3000000 }) (disch:=omega) only [go_sem,Nat.reduceEqDiff,↓reduceIte,Nat.reduceAdd,Nat.reduceLeDiff,hr])))
    (first|refine call_f (hspx) rfl ?_|refine callQ_f (hspx) rfl ?_|refine callHK_f (hspx) rfl ?_|refine callH_f (hspx) rfl ?_)
    (repeat (first|(with_reducible first|refine J_region ?_|(refine Kont.go (by assumption) ?_)|(simp (config:={ maxSteps:=3000000 }) (disch:=omega) only [go_sem,↓reduceIte,Nat.reduceAdd,Nat.reduceLeDiff,x1,hqx,hPl,e5,e6]))|refine callQ_f (canon_w (by assumption) (by omega)) rfl ?_|refine And.intro (by omega) ?_))
    refine ⟨x+1,by omega,by omega,weak_ren [0,1,2,3,6] ⟨by decide,by first|decide|(simp;done)⟩ ?_ ?_⟩<;>(try simp (disch:=omega) only [go_sem,Nat.reduceAdd,e3,e4,map_ren_f,List.map_append,List.map_cons,List.map_nil])<;>(try first|done|omega|rfl|exact ⟨rfl,rfl⟩|trivial)
  ·have he:x=N:=by omega
   subst he
   have hne:p.map fr≠[]:=fun h=>by have:=congrArg List.length h;rw [List.length_map,List.length_nil] at this;omega
   rw [List.take_of_length_le (by omega)]
   have e1:ob 39 3 (p.map fr)=some ⟨39,3,(p.map fr).map .f⟩:=ob_pos hne
   have e2:tbA 4 (Ns u) (p.map fr)=.agg [.f (.fz 1 (Ns u)),.own 4 3 0 (p.map fr).length]:=tbA_pos hne
   rw [e1,e2]
   (repeat (with_reducible first|refine W_seq fun K hK=>?_|refine J_exit ?_|refine J_ret ?_|refine J_region ?_|(refine Kont.go (by assumption) ?_)|(simp (config:={ maxSteps:=3000000 }) (disch:=omega) only [go_sem,↓reduceIte,Nat.reduceAdd])))
   exact ⟨_,rfl,FrzL.cons (Frz.aggL (FrzL.cons (.f _) (FrzL.cons (Frz.own0 rfl (by rw [List.length_map])) (FrzL.nil _)))) (FrzL.cons (.f _) (FrzL.nil _))⟩
end
end Go.Proofs.YthehegidpamldaaGreatDoor
set_option linter.unusedVariables false
set_option linter.unusedSimpArgs false
namespace Go.Proofs.YthehegidpamldaaGreatDoor
open Go Go.RowKit
theorem flat_frR (g:Bool) (n d:ByteArray):FlatF (frR g n d):=.agg _ fun j c h=>by
 match j with
 | 0=>cases h;exact .v _
 | 1=>cases h;exact .v _
 | 2=>cases h;exact .v _
 | j+3=>simp at h
end Go.Proofs.YthehegidpamldaaGreatDoor
set_option linter.unusedVariables false
set_option linter.unusedSimpArgs false
namespace Go.Proofs.YthehegidpamldaaGreatDoor
open Go Go.RowKit
section
variable {Z l la lb : List Nat} {qs qa qb : List Rat} {k j v : Nat}
theorem getD_fz {i:Nat} (h:Row k qs) (hk:8≤k):Fz (qs.getD i 0) k:=by
 by_cases hi:i<qs.length
 ·rw [lget_lt qs 0 hi];exact h.get hi
 ·rw [List.getD_eq_getElem?_getD,List.getElem?_eq_none (by omega)]
  exact (Fz.int (n:=0) (by decide)).up hk
theorem f1S_fz {op:Rat→Rat→Rat} {f:Nat→Rat} (hf:∀x,Fz (f x) k) (hop:∀a b s,Fz a s→Fz b k→Fz (op a b) (s+k+1)):∀n,Fz (f1S op f n) ((n+1)*(k+1)):=by
 intro n
 induction n with
 | zero=>exact (hf 0).up (by omega)
 | succ n ih=>exact (hop _ _ _ ih (hf (n+1))).up (by rw [Nat.add_mul (n+1)];omega)
theorem opT_fz (most:Bool):∀a b s,Fz a s→Fz b k→Fz (opT most a b) (s+k+1):=fun a b s ha hb=>by
 cases most with
 | false=>exact ha.add hb
 | true =>
  show Fz (gtrS a b) _
  unfold gtrS
  split
  ·exact hb.up (by omega)
  ·exact ha.up (by omega)
theorem tbOk_c (h:OkT Z l) (hq:Row k qs) (hl:qs.length=cntS (szT Z) l):TbOk k Z l (qs.map fr) qs:=⟨h,Frs.c hq,hl⟩
end
end Go.Proofs.YthehegidpamldaaGreatDoor
