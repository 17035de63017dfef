/- The document's chains: a step, powers: walked. Conditions: numbers of 10^3 bytes each; powers up to 5. -/
import Derived.Test.YtcgagiimlkjcpaaGreatDoorZPowW
import Derived.Test.YtcgagiimlkjcpaaGreatDoorZB19
import Derived.Test.YtcgagiimlkjcpaaGreatDoorZB14
import Derived.Test.YtcgagiimlkjcpaaGreatDoorZB13
import Derived.Test.YtcgagiimlkjcpaaGreatDoorZB11
set_option linter.unusedVariables false
set_option linter.unusedSimpArgs false
namespace Go.Proofs.YtcgagiimlkjcpaaGreatDoor
open Go Go.RowKit
theorem flat_fr (q:Rat):FlatF (fr q):=.agg _ fun j c h=>by
 match j,h with
 | 0,h=>cases h;exact .v _
 | 1,h=>cases h;exact .v _
 | 2,h=>cases h;exact .v _
def tTo (p:List Rat) (m:List (List Rat)) (x:Nat):List FV:=(List.range x).map fun k=>fr (sumF (fun i=>p.getD i 0*at2 m i k) m.length)
section
variable {a b : Nat} {ps ys : List FV} {p : List Rat} {m : List (List Rat)} {x : Nat}
theorem tTo_zero:tTo p m 0=[]:=rfl
theorem tTo_len:(tTo p m x).length=x:=by simp [tTo]
theorem tTo_next:tTo p m x++[fr (sumF (fun i=>p.getD i 0*at2 m i x) m.length)]=tTo p m (x+1):=by simp [tTo,List.range_succ]
theorem tTo_all (hl:p.length=m.length):FV.fz 3 (tTo p m m.length)=frs (tmR p m):=by
 unfold tTo tmR
 rw [hl]
 show FV.fz 3 _=FV.fz 3 (((List.range m.length).map _).map fr)
 rw [List.map_map];rfl
attribute [go_sem] tTo_zero
set_option maxRecDepth 100000 in
set_option maxHeartbeats 4000000 in
theorem rstepped_w (hp:Frs a ps p) (hm:SqM b ys m) (h1:1≤a) (h2:1≤b) (ha:a≤1000000000) (hb:b≤1000000000) (hl:p.length=m.length):Good Tryz.prog 92 [.fz 3 ps,.fz 1 ys] (frs (tmR p m)):=by
 have hr:=hp.row h1
 have h6:=hm.le
 have hyl:ys.length=m.length:=hm.fr.len
 have hpl:ps.length=m.length:=by rw [hp.len,hl]
 rw [←tTo_all hl]
 refine good_of Tryz.func92 rfl (by kernel_rfl) fun X hO hrd=>?_;rw [Tryz.ntmps92,Tryz.results92];simp only [ast0,List.map_cons,List.map_nil,List.length_cons,List.length_nil,Nat.reduceAdd,Nat.reduceSub,List.replicate_succ,List.replicate_zero,List.cons_append,List.nil_append]
 repeat (with_reducible first|refine W_seq fun K hK=>?_|refine J_block ?_|refine J_region ?_ |(refine Kont.go (by assumption) ?_)|(simp (config:={ maxSteps:=3000000 }) (disch:=omega) only [go_sem]))
 refine J_reserve ?_
 refine W_loop [5,6,7,8,9,10,11,12,13,14,15,16,17,18,19,20,21,22,23,24,25,26,27,28,29,30,31,32,33,34,35,36,37,38,39,40,41] (fun x:Nat=>[(5,sl 0 3 (tTo p m x)),(6,.f (I x))]) (fun x:Nat=>[ob 44 3 (tTo p m x)]) (fun x:Nat=>x≤m.length) (fun x:Nat=>m.length-x) (0) (Nat.zero_le _) (by refine weak_of ?_ ?_<;>simp (disch:=omega) only [go_sem]<;>first|rfl|exact ⟨rfl,rfl⟩|exact Or.inl rfl|exact ⟨Or.inl rfl,Or.inl rfl⟩|trivial|assumption|omega|(symm;assumption)|((repeat' apply And.intro)<;>first|rfl|omega|trivial|exact .inr ⟨rfl,rfl⟩|exact .inr rfl|(right;symm;assumption)|(symm;assumption)|assumption)) ?_
 rintro k hk
 simp only [go_sem]
 repeat (with_reducible first|refine W_seq fun K hK=>?_|refine J_region ?_ |refine J_c ?_|(refine Kont.go (by assumption) ?_)|(simp (config:={ maxSteps:=3000000 }) (disch:=omega) only [go_sem,hyl]))
 refine Jc_if (fun hkl=>?_) (fun hkl=>?_)<;>try simp only [decide_eq_true_eq,decide_eq_false_iff_not] at hkl
 ·have hnx:=tTo_next (p:=p) (m:=m) (x:=k)
  have hlt:=tTo_len (p:=p) (m:=m) (x:=k)
  have hs0:fr ((0:Int):Rat)=fr (sumF (fun i=>p.getD i 0*at2 m i k) 0):=rfl
  repeat (first|(with_reducible first|refine W_seq fun K hK=>?_|refine J_block ?_|refine J_skip ?_|refine J_region ?_ |(refine Kont.go (by assumption) ?_)|(simp (config:={ maxSteps:=3000000 }) (disch:=omega) only [go_sem,↓reduceIte,Nat.reduceAdd,hs0]))|refine call_f (rof_frac (by omega) (by omega)) rfl ?_)
  refine W_loop [8,9,17,18,19,20,21,22,23,24,25,26,27,28,29,30,31,32,33,34,35,36,37] (fun x:Nat=>[(8,.f (I x))]) (fun x:Nat=>[ob 44 3 (tTo p m k),oF (fr (sumF (fun i=>p.getD i 0*at2 m i k) x))]) (fun x:Nat=>x≤m.length) (fun x:Nat=>m.length-x) (0) (Nat.zero_le _) (by refine weak_of ?_ ?_<;>simp (disch:=omega) only [go_sem,Nat.reduceAdd]<;>first|rfl|exact ⟨rfl,rfl⟩|exact Or.inl rfl|exact ⟨Or.inl rfl,Or.inl rfl⟩|trivial|assumption|omega|(symm;assumption)|((repeat' apply And.intro)<;>first|rfl|omega|trivial|exact .inr ⟨rfl,rfl⟩|exact .inr rfl|(right;symm;assumption)|(symm;assumption)|assumption)) ?_
  rintro i hi
  simp only [go_sem]
  repeat (with_reducible first|refine W_seq fun K hK=>?_|refine J_region ?_ |refine J_c ?_|(refine Kont.go (by assumption) ?_)|(simp (config:={ maxSteps:=3000000 }) (disch:=omega) only [go_sem,hyl]))
  refine Jc_if (fun hil=>?_) (fun hil=>?_)<;>try simp only [decide_eq_true_eq,decide_eq_false_iff_not] at hil
  ·obtain ⟨g1,n1,d1,x1,f1⟩:=hp.at3 (i:=i) (by omega)
   rw [←lget_lt p 0 (by omega)] at f1
   obtain ⟨xs,g2,n2,d2,y2,x2,f2⟩:=hm.at2 (i:=i) (j:=k) hil hkl
   have fs:=sumF_fz (f:=fun i=>p.getD i 0*at2 m i k) (n:=i) (s:=a+b) fun q hq=>(hr.getD (by omega)).mul (hm.f2 h2 (by omega) hkl)
   have so:=Nat.mul_le_mul_right (a+b+1) (show i≤6 by omega)
   have c1:=IsFr.c fs
   have c2:=IsFr.c ((f1.fz h1).mul (f2.fz h2))
   have en:fr (sumF (fun i=>p.getD i 0*at2 m i k) i+p.getD i 0*at2 m i k)=fr (sumF (fun i=>p.getD i 0*at2 m i k) (i+1)):=rfl
   repeat (first|(with_reducible first|refine W_seq fun K hK=>?_|refine J_block ?_|refine J_skip ?_|refine J_region ?_ |refine J_drawn mixed (by kernel_rfl) ?_|(refine Kont.go (by assumption) ?_)|(simp (config:={ maxSteps:=3000000 }) (disch:=omega) only [go_sem,↓reduceIte,Nat.reduceAdd,x1,y2,x2,true_and,and_self]))|refine call_f (radd_w (by assumption) (by assumption) (by omega) (by omega)) rfl ?_|refine callQ_f (rmul_w (by assumption) (by assumption) (by omega) (by omega)) rfl ?_)
   rw [en]
   refine ⟨i+1,by omega,by omega,weak_of ?_ ?_⟩<;>(try simp (disch:=omega) only [go_sem,Nat.reduceAdd])<;>(try first|done|omega|rfl|exact ⟨rfl,rfl⟩|trivial)
  ·have he:i=m.length:=by omega
   subst he
   repeat (first|(with_reducible first|refine J_exit ?_|refine J_region ?_ |refine aApp_sl ?_|(refine Kont.go (by assumption) ?_)|(simp (config:={ maxSteps:=3000000 }) (disch:=omega) only [go_sem,Nat.reduceEqDiff,↓reduceIte,Nat.reduceAdd,Nat.reduceLeDiff,hnx,hlt]))|refine And.intro (by omega) ?_)
   refine ⟨k+1,by omega,by omega,weak_of ?_ ?_⟩<;>(try simp (disch:=omega) only [go_sem])<;>(try first|done|omega|rfl|exact ⟨rfl,rfl⟩|trivial)
 ·have he:k=m.length:=by omega
  subst he
  repeat (with_reducible first|refine W_seq fun K hK=>?_|refine J_exit ?_|refine J_ret ?_|refine J_region ?_ |(refine Kont.go (by assumption) ?_)|(simp (config:={ maxSteps:=3000000 }) (disch:=omega) only [go_sem,↓reduceIte]))
  exact Frz.sl rfl
set_option maxRecDepth 100000 in
theorem rstep_w (hp:Frs a ps p) (hm:FrM b ys m) (h1:1≤a) (h2:1≤b) (ha:a≤10000000) (hb:b≤10000000) (hpx:p.length≤140737488355328) (hmx:m.length≤140737488355328):Good Tryz.prog 14 [.fz 3 ps,.fz 1 ys] (.tup [frs (stpR p m),I (stpE p m)]):=by
 have hc:=rcheck_w hm h2 hb hmx
 by_cases h0:chkM m=0
 case neg =>
  rw [show stpR p m=[] by unfold stpR;rw [if_neg fun h=>h0 h.1],show stpE p m=chkM m by unfold stpE;rw [if_pos h0]]
  refine good_of Tryz.func14 rfl (by kernel_rfl) fun X hO hrd=>?_;rw [Tryz.ntmps14,Tryz.results14];simp only [ast0,List.map_cons,List.map_nil,List.length_cons,List.length_nil,Nat.reduceAdd,Nat.reduceSub,List.replicate_succ,List.replicate_zero,List.cons_append,List.nil_append]
  repeat (with_reducible first|refine W_seq fun K hK=>?_|refine J_region ?_ |(refine Kont.go (by assumption) ?_)|(simp (config:={ maxSteps:=3000000 }) (disch:=omega) only [go_sem]))
  refine call_f hc rfl ?_
  repeat (with_reducible first|refine W_seq fun K hK=>?_|refine J_ret ?_|refine J_region ?_ |refine J_c ?_|refine Jc_true ?_|(refine Kont.go (by assumption) ?_)|(simp (config:={ maxSteps:=3000000 }) (disch:=omega) only [go_sem,h0]))
  exact ⟨_,rfl,FrzL.cons (.nil _) (FrzL.cons (.f _) (FrzL.nil _))⟩
 rw [h0] at hc
 by_cases hl:p.length=m.length
 case neg =>
  rw [show stpR p m=[] by unfold stpR;rw [if_neg fun h=>hl h.2],show stpE p m=8 by unfold stpE;rw [if_neg (by omega),if_pos hl]]
  refine good_of Tryz.func14 rfl (by kernel_rfl) fun X hO hrd=>?_;rw [Tryz.ntmps14,Tryz.results14];simp only [ast0,List.map_cons,List.map_nil,List.length_cons,List.length_nil,Nat.reduceAdd,Nat.reduceSub,List.replicate_succ,List.replicate_zero,List.cons_append,List.nil_append]
  repeat (with_reducible first|refine W_seq fun K hK=>?_|refine J_region ?_ |(refine Kont.go (by assumption) ?_)|(simp (config:={ maxSteps:=3000000 }) (disch:=omega) only [go_sem]))
  refine call_f hc rfl ?_
  repeat (with_reducible first|refine W_seq fun K hK=>?_|refine J_skip ?_|refine J_ret ?_|refine J_region ?_ |refine J_c ?_|refine Jc_true ?_|refine Jc_false ?_|(refine Kont.go (by assumption) ?_)|(simp (config:={ maxSteps:=3000000 }) (disch:=omega) only [go_sem,hp.len,hm.len,hl,Int.natCast_inj]))
  exact ⟨_,rfl,FrzL.cons (.nil _) (FrzL.cons (.f _) (FrzL.nil _))⟩
 rw [show stpR p m=tmR p m by unfold stpR;rw [if_pos ⟨h0,hl⟩],show stpE p m=0 by unfold stpE;rw [if_neg (by omega),if_neg (by omega)]]
 refine good_of Tryz.func14 rfl (by kernel_rfl) fun X hO hrd=>?_;rw [Tryz.ntmps14,Tryz.results14];simp only [ast0,List.map_cons,List.map_nil,List.length_cons,List.length_nil,Nat.reduceAdd,Nat.reduceSub,List.replicate_succ,List.replicate_zero,List.cons_append,List.nil_append]
 repeat (with_reducible first|refine W_seq fun K hK=>?_|refine J_region ?_ |(refine Kont.go (by assumption) ?_)|(simp (config:={ maxSteps:=3000000 }) (disch:=omega) only [go_sem]))
 refine call_f hc rfl ?_
 repeat (with_reducible first|refine W_seq fun K hK=>?_|refine J_skip ?_|refine J_region ?_ |refine J_c ?_|refine Jc_false ?_|(refine Kont.go (by assumption) ?_)|(simp (config:={ maxSteps:=3000000 }) (disch:=omega) only [go_sem,hp.len,hm.len,hl]))
 refine call_f (rstepped_w hp (chk_sq hm h0).1 h1 h2 (by omega) (by omega) hl) rfl ?_
 repeat (with_reducible first|refine J_ret ?_|(refine Kont.go (by assumption) ?_)|(simp (config:={ maxSteps:=3000000 }) (disch:=omega) only [go_sem]))
 exact ⟨_,rfl,FrzL.fs [_,_]⟩
end
def pRw (m:List (List Rat)) (d i:Nat):List Rat:=(List.range m.length).map (powM m.length (at2 m) d i)
def pTo (m:List (List Rat)) (k x:Nat):List FV:=(List.range x).map fun i=>frs (pRw m k i)
def eTo (i x:Nat):List FV:=(List.range x).map fun k=>fr (idM i k)
section
variable {b : Nat} {ys : List FV} {m : List (List Rat)} {d i k x : Nat}
theorem pTo_zero:pTo m k 0=[]:=rfl
theorem pTo_len:(pTo m k x).length=x:=by simp [pTo]
theorem pTo_next:pTo m k x++[frs (pRw m k x)]=pTo m k (x+1):=by simp [pTo,List.range_succ]
theorem eTo_zero:eTo i 0=[]:=rfl
theorem eTo_len:(eTo i x).length=x:=by simp [eTo]
theorem eTo_next:eTo i x++[fr (idM i x)]=eTo i (x+1):=by simp [eTo,List.range_succ]
theorem eTo_all:FV.fz 3 (eTo i m.length)=frs (pRw m 0 i):=by
 unfold eTo pRw
 show FV.fz 3 _=FV.fz 3 (((List.range m.length).map _).map fr)
 rw [List.map_map];rfl
theorem pRw_next (hi:i<m.length):tmR (pRw m d i) m=pRw m (d+1) i:=by
 have hl:(pRw m d i).length=m.length:=by simp [pRw]
 unfold tmR
 rw [hl]
 refine List.map_congr_left fun k hk=>?_
 show _=sumF (fun j=>powM m.length (at2 m) d i j*at2 m j k) m.length
 exact sumF_congr fun j hj=>by simp [pRw,List.getD,hj]
theorem szQ_le {b:Nat} (hb:b≤1000):∀d,d≤5→szQ b d≤20000000∧8≤szQ b d:=by
 intro d hd
 have e:d=0∨d=1∨d=2∨d=3∨d=4∨d=5:=by omega
 rcases e with rfl|rfl|rfl|rfl|rfl|rfl<;>simp only [szQ]<;>omega
theorem pRw_row (hm:SqM b ys m) (h1:1≤b) (hi:i<m.length):Row (szQ b d) (pRw m d i):=fun q hq=>by
 obtain ⟨k,hk,rfl⟩:=List.mem_map.1 hq
 exact pow_fz hm.le (fun i k hi hk=>hm.f2 h1 hi hk) d i k hi (List.mem_range.1 hk)
attribute [go_sem] pTo_zero eTo_zero
set_option maxRecDepth 100000 in
set_option maxHeartbeats 4000000 in
theorem rpower_w {b:Nat} {ys:List FV} {m:List (List Rat)} (hm:FrM b ys m) (h1:1≤b) (hb:b≤1000) (hmx:m.length≤140737488355328) (k:Int) (k1:-9223372036854775808≤k) (k2:k≤5∨k=17):Good Tryz.prog 19 [.fz 1 ys,I k] (.tup [rowsF (pwR m k),I (pwE m k)]):=by
 have hc:=rcheck_w hm h1 (by omega) hmx
 by_cases h0:chkM m=0
 case neg =>
  rw [show pwR m k=[] by unfold pwR;rw [if_neg fun h=>h0 h.1],show pwE m k=chkM m by unfold pwE;rw [if_pos h0]]
  refine good_of Tryz.func19 rfl (by kernel_rfl) fun X hO hrd=>?_;rw [Tryz.ntmps19,Tryz.results19];simp only [ast0,List.map_cons,List.map_nil,List.length_cons,List.length_nil,Nat.reduceAdd,Nat.reduceSub,List.replicate_succ,List.replicate_zero,List.cons_append,List.nil_append]
  repeat (with_reducible first|refine W_seq fun K hK=>?_|refine J_region ?_ |(refine Kont.go (by assumption) ?_)|(simp (config:={ maxSteps:=3000000 }) (disch:=omega) only [go_sem]))
  refine call_f hc rfl ?_
  repeat (with_reducible first|refine W_seq fun K hK=>?_|refine J_ret ?_|refine J_region ?_ |refine J_c ?_|refine Jc_true ?_|(refine Kont.go (by assumption) ?_)|(simp (config:={ maxSteps:=3000000 }) (disch:=omega) only [go_sem,h0]))
  exact ⟨_,rfl,FrzL.cons (.nil _) (FrzL.cons (.f _) (FrzL.nil _))⟩
 rw [h0] at hc
 by_cases c1:k<0
 ·rw [show pwR m k=[] by unfold pwR;rw [if_neg fun h=>by omega],show pwE m k=2 by unfold pwE;rw [if_neg (by omega),if_pos (.inl c1)]]
  refine good_of Tryz.func19 rfl (by kernel_rfl) fun X hO hrd=>?_;rw [Tryz.ntmps19,Tryz.results19];simp only [ast0,List.map_cons,List.map_nil,List.length_cons,List.length_nil,Nat.reduceAdd,Nat.reduceSub,List.replicate_succ,List.replicate_zero,List.cons_append,List.nil_append]
  repeat (with_reducible first|refine W_seq fun K hK=>?_|refine J_region ?_ |(refine Kont.go (by assumption) ?_)|(simp (config:={ maxSteps:=3000000 }) (disch:=omega) only [go_sem]))
  refine call_f hc rfl ?_
  repeat (with_reducible first|refine W_seq fun K hK=>?_|refine J_skip ?_|refine J_ret ?_|refine J_region ?_ |refine J_c ?_|refine Jc_true ?_|refine Jc_false ?_|(refine Kont.go (by assumption) ?_)|(simp (config:={ maxSteps:=3000000 }) (disch:=omega) only [go_sem,c1]))
  exact ⟨_,rfl,FrzL.cons (.nil _) (FrzL.cons (.f _) (FrzL.nil _))⟩
 by_cases c2:16<k
 ·rw [show pwR m k=[] by unfold pwR;rw [if_neg fun h=>by omega],show pwE m k=2 by unfold pwE;rw [if_neg (by omega),if_pos (.inr c2)]]
  refine good_of Tryz.func19 rfl (by kernel_rfl) fun X hO hrd=>?_;rw [Tryz.ntmps19,Tryz.results19];simp only [ast0,List.map_cons,List.map_nil,List.length_cons,List.length_nil,Nat.reduceAdd,Nat.reduceSub,List.replicate_succ,List.replicate_zero,List.cons_append,List.nil_append]
  repeat (with_reducible first|refine W_seq fun K hK=>?_|refine J_region ?_ |(refine Kont.go (by assumption) ?_)|(simp (config:={ maxSteps:=3000000 }) (disch:=omega) only [go_sem]))
  refine call_f hc rfl ?_
  repeat (with_reducible first|refine W_seq fun K hK=>?_|refine J_skip ?_|refine J_ret ?_|refine J_region ?_ |refine J_c ?_|refine Jc_true ?_|refine Jc_false ?_|(refine Kont.go (by assumption) ?_)|(simp (config:={ maxSteps:=3000000 }) (disch:=omega) only [go_sem,c1,c2]))
  exact ⟨_,rfl,FrzL.cons (.nil _) (FrzL.cons (.f _) (FrzL.nil _))⟩
 obtain ⟨k0,rfl⟩:=Int.eq_ofNat_of_zero_le (show 0≤k by omega)
 have hk5:k0≤5:=by omega
 obtain ⟨hsq,hn1,hch⟩:=chk_sq hm h0
 have hn6:=hsq.le
 have hyl:ys.length=m.length:=hm.len
 have eR:rowsF (pwR m (k0:Int))=.fz 1 (pTo m k0 m.length):=by
  unfold pwR
  rw [if_pos ⟨h0,by omega,by omega⟩]
  show FV.fz 1 ((mxL m.length (powM m.length (at2 m) k0)).map frs)=_
  unfold mxL pTo
  rw [List.map_map];rfl
 have eE:pwE m (k0:Int)=0:=by unfold pwE;rw [if_neg (by omega),if_neg (by omega)]
 rw [eR,eE]
 refine good_of Tryz.func19 rfl (by kernel_rfl) fun X hO hrd=>?_;rw [Tryz.ntmps19,Tryz.results19];simp only [ast0,List.map_cons,List.map_nil,List.length_cons,List.length_nil,Nat.reduceAdd,Nat.reduceSub,List.replicate_succ,List.replicate_zero,List.cons_append,List.nil_append]
 repeat (with_reducible first|refine W_seq fun K hK=>?_|refine J_region ?_ |(refine Kont.go (by assumption) ?_)|(simp (config:={ maxSteps:=3000000 }) (disch:=omega) only [go_sem]))
 refine call_f hc rfl ?_
 repeat (with_reducible first|refine W_seq fun K hK=>?_|refine J_block ?_|refine J_skip ?_|refine J_region ?_ |refine J_c ?_|refine Jc_false ?_|(refine Kont.go (by assumption) ?_)|(simp (config:={ maxSteps:=3000000 }) (disch:=omega) only [go_sem,c1,c2]))
 refine J_reserve ?_
 refine W_loop [7,8,9,10,11,12,24,25,26,27,28,29,30,31,32,33,34,35,36,37,38,39,40,41,42,43,44,45,46,47,48,49,50,51,52,53,54,55,56] (fun x:Nat=>[(7,sl 0 1 (pTo m k0 x)),(8,.f (I x))]) (fun x:Nat=>[ob 23 1 (pTo m k0 x)]) (fun x:Nat=>x≤m.length) (fun x:Nat=>m.length-x) (0) (Nat.zero_le _) (by refine weak_of ?_ ?_<;>simp (disch:=omega) only [go_sem]<;>first|rfl|exact ⟨rfl,rfl⟩|exact Or.inl rfl|exact ⟨Or.inl rfl,Or.inl rfl⟩|trivial|assumption|omega|(symm;assumption)|((repeat' apply And.intro)<;>first|rfl|omega|trivial|exact .inr ⟨rfl,rfl⟩|exact .inr rfl|(right;symm;assumption)|(symm;assumption)|assumption)) ?_
 rintro i hi
 simp only [go_sem]
 repeat (with_reducible first|refine W_seq fun K hK=>?_|refine J_region ?_ |refine J_c ?_|(refine Kont.go (by assumption) ?_)|(simp (config:={ maxSteps:=3000000 }) (disch:=omega) only [go_sem,hyl]))
 refine Jc_if (fun hil=>?_) (fun hil=>?_)<;>try simp only [decide_eq_true_eq,decide_eq_false_iff_not] at hil
 ·have hnx:=pTo_next (m:=m) (k:=k0) (x:=i)
  have hlt:=pTo_len (m:=m) (k:=k0) (x:=i)
  repeat (with_reducible first|refine W_seq fun K hK=>?_|refine J_block ?_|refine J_skip ?_|refine J_region ?_ |(refine Kont.go (by assumption) ?_)|(simp (config:={ maxSteps:=3000000 }) (disch:=omega) only [go_sem]))
  refine J_reserve ?_
  refine W_loop [9,10,11,30,31,32,33,34,35,36,37,38,39,40,41,42,43,44] (fun x:Nat=>[(9,sl 1 3 (eTo i x)),(10,.f (I x))]) (fun x:Nat=>[ob 23 1 (pTo m k0 i),ob 44 3 (eTo i x)]) (fun x:Nat=>x≤m.length) (fun x:Nat=>m.length-x) (0) (Nat.zero_le _) (by refine weak_of ?_ ?_<;>simp (disch:=omega) only [go_sem,Nat.reduceAdd]<;>first|rfl|exact ⟨rfl,rfl⟩|exact Or.inl rfl|exact ⟨Or.inl rfl,Or.inl rfl⟩|trivial|assumption|omega|(symm;assumption)|((repeat' apply And.intro)<;>first|rfl|omega|trivial|exact .inr ⟨rfl,rfl⟩|exact .inr rfl|(right;symm;assumption)|(symm;assumption)|assumption)) ?_
  rintro j hj
  simp only [go_sem]
  repeat (with_reducible first|refine W_seq fun K hK=>?_|refine J_region ?_ |refine J_c ?_|(refine Kont.go (by assumption) ?_)|(simp (config:={ maxSteps:=3000000 }) (disch:=omega) only [go_sem,hyl]))
  refine Jc_if (fun hjl=>?_) (fun hjl=>?_)<;>try simp only [decide_eq_true_eq,decide_eq_false_iff_not] at hjl
  ·have hex:=eTo_next (i:=i) (x:=j)
   have hel:=eTo_len (i:=i) (x:=j)
   by_cases e:i=j
   ·have ev:fr ((1:Int):Rat)=fr (idM i j):=by congr 1;unfold idM;rw [if_pos e];rfl
    rw [←ev] at hex
    repeat (first|(with_reducible first|refine W_seq fun K hK=>?_|refine J_block ?_|refine J_skip ?_|refine J_region ?_ |refine aApp_sl ?_|refine J_c ?_|refine Jc_true ?_|(refine Kont.go (by assumption) ?_)|(simp (config:={ maxSteps:=3000000 }) (disch:=omega) only [go_sem,Nat.reduceEqDiff,↓reduceIte,Nat.reduceAdd,Nat.reduceLeDiff,e]))|refine call_f (rof_frac (by omega) (by omega)) rfl ?_|refine And.intro (by omega) ?_)
    subst e
    repeat (first|(with_reducible first|refine J_region ?_ |(refine Kont.go (by assumption) ?_)|(simp (config:={ maxSteps:=3000000 }) (disch:=omega) only [go_sem,hex,hel]))|refine And.intro (by omega) ?_)
    refine ⟨i+1,by omega,by omega,weak_of ?_ ?_⟩<;>(try simp (disch:=omega) only [go_sem,Nat.reduceAdd])<;>(try first|done|omega|rfl|exact ⟨rfl,rfl⟩|trivial)
   ·have ev:fr ((0:Int):Rat)=fr (idM i j):=by congr 1;unfold idM;rw [if_neg e];rfl
    rw [←ev] at hex
    repeat (first|(with_reducible first|refine W_seq fun K hK=>?_|refine J_block ?_|refine J_skip ?_|refine J_region ?_ |refine aApp_sl ?_|refine J_c ?_|refine Jc_false ?_|(refine Kont.go (by assumption) ?_)|(simp (config:={ maxSteps:=3000000 }) (disch:=omega) only [go_sem,Nat.reduceEqDiff,↓reduceIte,Nat.reduceAdd,Nat.reduceLeDiff,e,hex,hel,Int.natCast_inj]))|refine call_f (rof_frac (by omega) (by omega)) rfl ?_|refine And.intro (by omega) ?_)
    refine ⟨j+1,by omega,by omega,weak_of ?_ ?_⟩<;>(try simp (disch:=omega) only [go_sem,Nat.reduceAdd])<;>(try first|done|omega|rfl|exact ⟨rfl,rfl⟩|trivial)
  ·have he:j=m.length:=by omega
   subst he
   refine J_freeze (j:=9) rfl rfl ?_
   rw [eTo_all]
   repeat (with_reducible first|refine W_seq fun K hK=>?_|refine J_block ?_|refine J_exit ?_|refine J_region ?_ |(refine Kont.go (by assumption) ?_)|(simp (config:={ maxSteps:=3000000 }) (disch:=omega) only [go_sem,↓reduceIte]))
   refine W_loop [9,12,45,46,47,48,49,50,51,52] (fun x:Nat=>[(9,.f (frs (pRw m x i))),(12,.f (I x))]) (fun x:Nat=>[ob 23 1 (pTo m k0 i)]) (fun x:Nat=>x≤k0) (fun x:Nat=>k0-x) (0) (Nat.zero_le _) (by refine weak_of ?_ ?_<;>simp (disch:=omega) only [go_sem]<;>first|rfl|exact ⟨rfl,rfl⟩|exact Or.inl rfl|exact ⟨Or.inl rfl,Or.inl rfl⟩|trivial|assumption|omega|(symm;assumption)|((repeat' apply And.intro)<;>first|rfl|omega|trivial|exact .inr ⟨rfl,rfl⟩|exact .inr rfl|(right;symm;assumption)|(symm;assumption)|assumption)) ?_
   rintro d hd
   simp only [go_sem]
   repeat (with_reducible first|refine W_seq fun K hK=>?_|refine J_region ?_ |refine J_c ?_|(refine Kont.go (by assumption) ?_)|(simp (config:={ maxSteps:=3000000 }) (disch:=omega) only [go_sem]))
   refine Jc_if (fun hdl=>?_) (fun hdl=>?_)<;>try simp only [decide_eq_true_eq,decide_eq_false_iff_not] at hdl
   ·have hst:=rstepped_w (p:=pRw m d i) (Frs.c (pRw_row (d:=d) hsq h1 hil)) hsq (by have:=(szQ_le hb d (by omega)).2;omega) h1 (by have:=(szQ_le hb d (by omega)).1;omega) (by omega) (by simp [pRw])
    rw [pRw_next hil] at hst
    repeat (with_reducible first|refine W_seq fun K hK=>?_|refine J_block ?_|refine J_skip ?_|refine J_region ?_ |(refine Kont.go (by assumption) ?_)|(simp (config:={ maxSteps:=3000000 }) (disch:=omega) only [go_sem]))
    refine call_f hst rfl ?_
    repeat (with_reducible first|refine J_region ?_ |(refine Kont.go (by assumption) ?_)|(simp (config:={ maxSteps:=3000000 }) (disch:=omega) only [go_sem]))
    refine ⟨d+1,by omega,by omega,weak_of ?_ ?_⟩<;>(try simp (disch:=omega) only [go_sem])<;>(try first|done|omega|rfl|exact ⟨rfl,rfl⟩|trivial)
   ·have he:d=k0:=by omega
    subst he
    repeat (first|(with_reducible first|refine J_exit ?_|refine J_region ?_ |refine aApp_sl ?_|(refine Kont.go (by assumption) ?_)|(simp (config:={ maxSteps:=3000000 }) (disch:=omega) only [go_sem,Nat.reduceEqDiff,↓reduceIte,Nat.reduceLeDiff,hnx,hlt]))|refine And.intro (by omega) ?_)
    refine ⟨i+1,by omega,by omega,weak_of ?_ ?_⟩<;>(try simp (disch:=omega) only [go_sem])<;>(try first|done|omega|rfl|exact ⟨rfl,rfl⟩|trivial)
 ·have he:i=m.length:=by omega
  subst he
  repeat (with_reducible first|refine W_seq fun K hK=>?_|refine J_exit ?_|refine J_ret ?_|refine J_region ?_ |(refine Kont.go (by assumption) ?_)|(simp (config:={ maxSteps:=3000000 }) (disch:=omega) only [go_sem,↓reduceIte]))
  exact ⟨_,rfl,FrzL.cons (Frz.sl rfl) (FrzL.cons (.f _) (FrzL.nil _))⟩
end
end Go.Proofs.YtcgagiimlkjcpaaGreatDoor
set_option linter.unusedVariables false
set_option linter.unusedSimpArgs false
namespace Go.Proofs.YtcgagiimlkjcpaaGreatDoor
open Go Go.RowKit
def outR {α:Type} (k:Nat) (r:List α):List α:=r.take k++r.drop (k+1)
theorem outR_len {α:Type} {k:Nat} {r:List α} (h:k<r.length):(outR k r).length=r.length-1:=by unfold outR;simp;omega
theorem outR_get {α:Type} {k c:Nat} {r:List α} (h:k<r.length):(outR k r)[c]?=r[skp k c]?:=by
 unfold outR skp
 by_cases hc:c<k
 ·rw [if_pos hc,List.getElem?_append_left (by simp;omega),List.getElem?_take,if_pos hc]
 ·rw [if_neg hc,List.getElem?_append_right (by simp;omega),List.getElem?_drop]
  congr 1
  simp;omega
def elsF:FV→List FV
 | .fz _ xs=>xs
 | _=>[]
def mnY (k:Nat) (ys:List FV) (x:Nat):List FV:=((ys.drop 1).take x).map fun y=>.fz 3 (outR k (elsF y))
def mnA (k:Nat) (A:List (List Rat)):List (List Rat):=(A.drop 1).map (outR k)
def szD (b:Nat):Nat→Nat
 | 0=>8
 | n+1=>8+(n+1)*(szD b n+b+1)
section
variable {b : Nat} {ys : List FV} {A : List (List Rat)} {n k x : Nat}
theorem Frs.out {xs:List FV} {l:List Rat} (h:Frs b xs l) (hk:k<l.length):Frs b (outR k xs) (outR k l):=by
 have hk':k<xs.length:=by rw [h.len];exact hk
 refine ⟨by rw [outR_len hk,outR_len hk',h.len],fun i q hq=>?_⟩
 rw [outR_get hk] at hq
 rw [outR_get hk']
 exact h.get _ q hq
theorem mnY_zero:mnY k ys 0=[]:=rfl
theorem mnY_next (h:x+1<ys.length) {xs:List FV} (hy:ys[x+1]?=some (.fz 3 xs)):mnY k ys x++[.fz 3 (outR k xs)]=mnY k ys (x+1):=by
 unfold mnY
 have:(ys.drop 1)[x]?=some (.fz 3 xs):=by rw [List.getElem?_drop,Nat.add_comm];exact hy
 rw [List.take_add_one,this,List.map_append];rfl
theorem mnY_len (h:x+1≤ys.length):(mnY k ys x).length=x:=by unfold mnY;simp;omega
theorem FrM.minor (h:FrM b ys A) (hA:A.length=n+1) (hr:∀r∈A,r.length=n+1) (hk:k<n+1):FrM b (mnY k ys n) (mnA k A)∧(mnA k A).length=n∧∀r∈mnA k A,r.length=n:=by
 have hyl:ys.length=n+1:=by rw [h.len,hA]
 refine ⟨⟨by rw [mnY_len (by omega)];unfold mnA;simp [hA],fun i r hi=>?_⟩,by unfold mnA;simp [hA],fun r hm=>?_⟩
 ·unfold mnA at hi
  rw [List.getElem?_map,List.getElem?_drop] at hi
  cases hq:A[1+i]? with
  | none=>rw [hq] at hi;cases hi
  | some r0 =>
   rw [hq] at hi
   cases hi
   obtain ⟨xs,h1,h2⟩:=h.get _ _ hq
   have hin:i<n:=by have:=(List.getElem?_eq_some_iff.1 hq).1;omega
   refine ⟨outR k xs,?_,h2.out (by rw [hr _ (List.mem_of_getElem? hq)];exact hk)⟩
   unfold mnY
   rw [List.getElem?_map,List.getElem?_take,if_pos hin,List.getElem?_drop,h1];rfl
 ·unfold mnA at hm
  obtain ⟨r0,h0,rfl⟩:=List.mem_map.1 hm
  rw [outR_len (by rw [hr _ (List.mem_of_mem_drop h0)];exact hk),hr _ (List.mem_of_mem_drop h0)];rfl
theorem at2_mn (hA:A.length=n+1) (hr:∀r∈A,r.length=n+1) (hk:k<n+1):EqM n (at2 (mnA k A)) (mnr (at2 A) k):=fun i c hi hc=>by
 have h1:(mnA k A)[i]?=some (outR k (A[i+1]'(by omega))):=by
  unfold mnA
  rw [List.getElem?_map,List.getElem?_drop,Nat.add_comm,List.getElem?_eq_getElem (by omega)];rfl
 unfold mnr at2
 rw [List.getD_eq_getElem?_getD (l:=mnA k A),h1,lget_lt A [] (by omega)]
 show (outR k _).getD c 0=_
 rw [List.getD_eq_getElem?_getD,outR_get (by rw [hr _ (List.getElem_mem _)];exact hk),←List.getD_eq_getElem?_getD]
theorem det_fz:∀{n:Nat} {M:Mx},(∀i k,i<n→k<n→Fz (M i k) b)→Fz (det n M) (szD b n):=by
 intro n
 induction n with
 | zero=>intro M _;exact Fz.int (n:=1) (by decide)
 | succ n ih =>
  intro M h
  refine (sumF_fz (n:=n+1) (s:=szD b n+b) fun k hk=>?_)
  have:=(h 0 k (by omega) hk).mul (ih (M:=mnr M k) fun i c hi hc=>h _ _ (by omega) (skp_lt hc))
  unfold sgn
  split
  ·rw [show (-1:Rat)*(M 0 k*det n (mnr M k))=- (M 0 k*det n (mnr M k)) by grind]
   exact this.neg.up (by omega)
  ·rw [Rat.one_mul];exact this.up (by omega)
theorem szD_le (hb:b≤10000):∀d,d≤6→szD b d≤40000000∧8≤szD b d:=by
 intro d hd
 have e:d=0∨d=1∨d=2∨d=3∨d=4∨d=5∨d=6:=by omega
 rcases e with rfl|rfl|rfl|rfl|rfl|rfl|rfl<;>simp only [szD]<;>omega
end
set_option maxRecDepth 100000 in
set_option maxHeartbeats 8000000 in
theorem det_w {b:Nat} (h1:1≤b) (hb:b≤10000):∀{n:Nat} {A:List (List Rat)} {ys:List FV},FrM b ys A→A.length=n→(∀r∈A,r.length=n)→n≤6→Good Tryz.prog 209 [.fz 1 ys] (fr (det n (at2 A))):=by
 intro n
 induction n with
 | zero =>
  intro A ys hA hl hr _
  have hyl:ys.length=0:=by rw [hA.len,hl]
  have hone:fr ((1:Int):Rat)=fr (det 0 (at2 A)):=rfl
  refine good_of Tryz.func209 rfl (by kernel_rfl) fun X hO hrd=>?_;rw [Tryz.ntmps209,Tryz.results209];simp only [ast0,List.map_cons,List.map_nil,List.length_cons,List.length_nil,Nat.reduceAdd,Nat.reduceSub,List.replicate_succ,List.replicate_zero,List.cons_append,List.nil_append]
  repeat (first|(with_reducible first|refine W_seq fun K hK=>?_|refine J_ret ?_|refine J_region ?_ |refine J_c ?_|refine Jc_true ?_|exact Frz.f _|(refine Kont.go (by assumption) ?_)|(simp (config:={ maxSteps:=3000000 }) (disch:=omega) only [go_sem,↓reduceIte,Nat.reduceAdd,hyl,hone]))|refine call_f (rof_frac (by omega) (by omega)) rfl ?_)
 | succ n ih =>
  intro A ys hA hl hr hn
  have hyl:ys.length=n+1:=by rw [hA.len,hl]
  have hy0:¬(((n+1:Nat):Int)=0):=by omega
  obtain ⟨T,hT⟩:∃T:Nat→Rat,T=fun k=>sgn k*(at2 A 0 k*det n (mnr (at2 A) k)):=⟨_,rfl⟩
  have hdet:det (n+1) (at2 A)=sumF T (n+1):=by rw [hT];rfl
  rw [hdet]
  have hrow:∀i,(hi:i<n+1)→∃xs,ys[i]?=some (.fz 3 xs)∧Frs b xs (A[i]'(by omega))∧xs.length=n+1:=fun i hi=>by
   obtain ⟨xs,q1,q2⟩:=hA.at (i:=i) (by omega)
   exact ⟨xs,q1,q2,by rw [q2.len,hr _ (List.getElem_mem _)]⟩
  have ha2:∀i k,(hi:i<n+1)→(hk:k<n+1)→Fz (at2 A i k) b:=fun i k hi hk=>by
   obtain ⟨xs,_,q2,_⟩:=hrow i hi
   unfold at2
   rw [lget_lt A [] (by omega),lget_lt _ 0 (by rw [hr _ (List.getElem_mem _)];exact hk)]
   exact (q2.row h1).get _
  have hdz:∀k,k<n+1→Fz (det n (mnr (at2 A) k)) (szD b n):=fun k hk=>det_fz fun i c hi hc=>ha2 _ _ (by omega) (skp_lt hc)
  have hpz:∀k,k<n+1→Fz (at2 A 0 k*det n (mnr (at2 A) k)) (b+szD b n):=fun k hk=>(ha2 0 k (by omega) hk).mul (hdz k hk)
  have hTz:∀k,k<n+1→Fz (T k) (b+szD b n):=fun k hk=>by
   rw [hT]
   show Fz (sgn k*_) _
   unfold sgn
   split
   ·rw [show (-1:Rat)*(at2 A 0 k*det n (mnr (at2 A) k))=- (at2 A 0 k*det n (mnr (at2 A) k)) by grind]
    exact (hpz k hk).neg
   ·rw [Rat.one_mul];exact hpz k hk
  have hsz:=szD_le hb n (by omega)
  obtain ⟨Sz,hSz⟩:∃Sz,Sz=szD b n:=⟨_,rfl⟩
  rw [←hSz] at hdz hpz hTz hsz
  obtain ⟨xs0,y0,hx0,l0⟩:=hrow 0 (by omega)
  have hs0:fr ((0:Int):Rat)=fr (sumF T 0):=rfl
  refine good_of Tryz.func209 rfl (by kernel_rfl) fun X hO hrd=>?_;rw [Tryz.ntmps209,Tryz.results209];simp only [ast0,List.map_cons,List.map_nil,List.length_cons,List.length_nil,Nat.reduceAdd,Nat.reduceSub,List.replicate_succ,List.replicate_zero,List.cons_append,List.nil_append]
  repeat (first|(with_reducible first|refine W_seq fun K hK=>?_|refine J_block ?_|refine J_skip ?_|refine J_region ?_ |refine J_c ?_|refine Jc_false ?_|(refine Kont.go (by assumption) ?_)|(simp (config:={ maxSteps:=3000000 }) (disch:=omega) only [go_sem,↓reduceIte,Nat.reduceAdd,hyl,hy0,hs0]))|refine call_f (rof_frac (by omega) (by omega)) rfl ?_)
  obtain ⟨zf,hzf⟩:∃zf:FV,zf=.agg [.v (.bool false),.v (.string ⟨#[]⟩),.v (.string ⟨#[]⟩)]:=⟨_,rfl⟩
  rw [←hzf]
  refine W_loop [4,5,6,7,8,9,15,16,17,18,19,20,21,22,23,24,25,26,27,28,29,30,31,32,33,34,35,36,37,38,39,40,41,42,43,44,45,46,47,48,49,50,51,52,53,54,55,56,57,58,59,60,61,62,63,64,65,66,67,68,69,70,71,72,73] (fun x:Nat=>[(4,.f (I x))]) (fun x:Nat=>[oF zf,oF (fr (sumF T x))]) (fun x:Nat=>x≤n+1) (fun x:Nat=>n+1-x) (0) (Nat.zero_le _) (by refine weak_of ?_ ?_<;>simp (disch:=omega) only [go_sem,Nat.reduceAdd]<;>first|rfl|exact ⟨rfl,rfl⟩|exact Or.inl rfl|exact ⟨Or.inl rfl,Or.inl rfl⟩|trivial|assumption|omega|(symm;assumption)|((repeat' apply And.intro)<;>first|rfl|omega|trivial|exact .inr ⟨rfl,rfl⟩|exact .inr rfl|(right;symm;assumption)|(symm;assumption)|assumption)) ?_
  rintro k hk
  simp only [go_sem]
  repeat (with_reducible first|refine W_seq fun K hK=>?_|refine J_region ?_ |refine J_c ?_|(refine Kont.go (by assumption) ?_)|(simp (config:={ maxSteps:=3000000 }) (disch:=omega) only [go_sem,hyl]))
  refine Jc_if (fun hkl=>?_) (fun hkl=>?_)<;>try simp only [decide_eq_true_eq,decide_eq_false_iff_not] at hkl
  ·obtain ⟨g0,n0,d0,x0,f0⟩:=hx0.at3 (i:=k) (by rw [hr _ (List.getElem_mem _)];exact hkl)
   have ea:(A[0]'(by omega))[k]'(by rw [hr _ (List.getElem_mem _)];exact hkl)=at2 A 0 k:=by unfold at2;rw [lget_lt A [] (by omega),lget_lt _ 0 (by rw [hr _ (List.getElem_mem _)];exact hkl)]
   rw [ea] at f0
   have hpos:(0:Int)<((n+1:Nat):Int):=by omega
   have hsum:sumF T (k+1)=sumF T k+T k:=rfl
   by_cases hz:at2 A 0 k=0
   ·have hzt:(at2 A 0 k=0)=True:=eq_true hz
    have hT0:T k=0:=by rw [hT];show sgn k*(at2 A 0 k*_)=0;rw [hz,Rat.zero_mul,Rat.mul_zero]
    have en:fr (sumF T k)=fr (sumF T (k+1)):=by rw [hsum,hT0,Rat.add_zero]
    repeat (first|(with_reducible first|refine W_seq fun K hK=>?_|refine J_block ?_|refine J_skip ?_|refine J_exit ?_|refine J_region ?_ |refine J_c ?_|refine Jc_true ?_|(refine Kont.go (by assumption) ?_)|(simp (config:={ maxSteps:=3000000 }) (disch:=omega) only [go_sem,↓reduceIte,Nat.reduceAdd,Int.reduceLE,y0,x0,hzt,decide_true]))|refine call_f (rzero_w (by assumption) (by omega)) rfl ?_)
    rw [en]
    refine ⟨k+1,by omega,by omega,weak_of ?_ ?_⟩<;>(try simp (disch:=omega) only [go_sem,Nat.reduceAdd])<;>(try first|done|omega|rfl|exact ⟨rfl,rfl⟩|trivial)
   ·have hzt:(at2 A 0 k=0)=False:=eq_false hz
    obtain ⟨hm1,hm2,hm3⟩:=hA.minor hl hr hkl
    have hcall:=ih hm1 hm2 hm3 (by omega)
    rw [det_congr (at2_mn hl hr hkl)] at hcall
    repeat (first|(with_reducible first|refine W_seq fun K hK=>?_|refine J_block ?_|refine J_skip ?_|refine J_region ?_ |refine J_c ?_|refine Jc_false ?_|(refine Kont.go (by assumption) ?_)|(simp (config:={ maxSteps:=3000000 }) (disch:=omega) only [go_sem,↓reduceIte,Nat.reduceAdd,Int.reduceLE,y0,x0,hzt,decide_false]))|refine call_f (rzero_w (by assumption) (by omega)) rfl ?_)
    refine J_reserve ?_
    refine W_loop [6,7,8,29,30,31,32,33,34,35,36,37,38,39,40,41,42,43,44,45,46,47,48,49,50,51,52,53,54] (fun x:Nat=>[(6,sl 2 1 (mnY k ys x)),(7,.f (I ((x+1:Nat):Int)))]) (fun x:Nat=>[oF zf,oF (fr (sumF T k)),ob 23 1 (mnY k ys x)]) (fun x:Nat=>x≤n) (fun x:Nat=>n-x) (0) (Nat.zero_le _) (by refine weak_of ?_ ?_<;>simp (disch:=omega) only [go_sem,Nat.reduceAdd]<;>first|rfl|exact ⟨rfl,rfl⟩|exact Or.inl rfl|exact ⟨Or.inl rfl,Or.inl rfl⟩|trivial|assumption|omega|(symm;assumption)|((repeat' apply And.intro)<;>first|rfl|omega|trivial|exact .inr ⟨rfl,rfl⟩|exact .inr rfl|(right;symm;assumption)|(symm;assumption)|assumption)) ?_
    rintro i hi
    simp only [go_sem]
    repeat (with_reducible first|refine W_seq fun K hK=>?_|refine J_region ?_ |refine J_c ?_|(refine Kont.go (by assumption) ?_)|(simp (config:={ maxSteps:=3000000 }) (disch:=omega) only [go_sem,hyl]))
    refine Jc_if (fun hil=>?_) (fun hil=>?_)<;>try simp only [decide_eq_true_eq,decide_eq_false_iff_not] at hil
    ·obtain ⟨xs,y1,hx1,l1⟩:=hrow (i+1) hil
     have hk0:((k:Int)-0).toNat=k:=by omega
     have hk1:((k:Int)+1).toNat=k+1:=by omega
     have hk2:(((n+1:Nat):Int)-((k:Int)+1)).toNat=n-k:=by omega
     have hdr:List.take (n-k) (List.drop (k+1) xs)=List.drop (k+1) xs:=List.take_of_length_le (by simp;omega)
     have htl:(List.take k xs).length=k:=by simp;omega
     have hdl:(List.drop (k+1) xs).length=n-k:=by simp;omega
     have hto:List.take k (List.map AV.f (List.take k xs))++List.map AV.f (List.drop (k+1) xs)=(outR k xs).map AV.f:=by
      rw [List.take_of_length_le (by simp;omega),←List.map_append];rfl
     have hol:(outR k xs).length=n:=by rw [outR_len (by omega)];omega
     have hnx:=mnY_next (k:=k) (x:=i) (by omega) y1
     have hbl:=mnY_len (k:=k) (ys:=ys) (x:=i) (by omega)
     have hne1:mnY k ys (i+1)≠[]:=fun e=>by have:=congrArg List.length e;rw [mnY_len (by omega)] at this;simp at this
     have hbl1:=mnY_len (k:=k) (ys:=ys) (x:=i+1) (by omega)
     have hkn:k+(n-k)=n:=by omega
     have hsl1:sl 7 1 (mnY k ys (i+1))=.own 7 1 0 (i+1):=by rw [sl_pos hne1,hbl1]
     have hob1:ob 23 1 (mnY k ys (i+1))=some ⟨23,1,(mnY k ys (i+1)).map .f⟩:=ob_pos hne1
     have hqi:(mnY k ys (i+1)).map AV.f=(mnY k ys i).map AV.f++[AV.f (.fz 3 (outR k xs))]:=by rw [←hnx,List.map_append];rfl
     by_cases hi0:i=0
     ·subst hi0
      have hq1:(mnY k ys (0+1)).map AV.f=[AV.f (.fz 3 (outR k xs))]:=hqi
      repeat (first|(with_reducible first|refine W_seq fun K hK=>?_|refine J_block ?_|refine J_skip ?_|((fail_if_success refine J_region (id:=12) ?_);refine J_region ?_) |refine aApp_old ?_|(refine Kont.go (by assumption) ?_)|(simp (config:={ maxSteps:=3000000 }) (disch:=omega) only [go_sem,↓reduceIte,Nat.reduceAdd,Nat.reduceLeDiff,Int.reduceLE,hkn,y1,l1,hk0,hk1,hk2,hdr,htl,hdl,hto,List.drop_zero,mnY_zero,sl_nil,ob_nil,Nat.reduceMul,Nat.le_refl,true_and,and_self]))|refine And.intro (by omega) ?_)
      refine J_freezeA (r:=5) (sz:=3) (l:=outR k xs) rfl ?_
      repeat (with_reducible first|refine J_region ?_ |(simp (config:={ maxSteps:=3000000 }) (disch:=omega) only [go_sem,Nat.reduceEqDiff,↓reduceIte,hol,true_and,and_self]))
      refine ⟨0+1,by omega,by omega,weak_ren [0,1,7] ⟨by decide,by first|decide|(simp;done)⟩ ?_ ?_⟩<;>(try simp (disch:=omega) only [go_sem,Nat.reduceAdd,hsl1,hob1,hq1])<;>(try first|done|omega|rfl|exact ⟨rfl,rfl⟩|trivial)
     ·have hne:mnY k ys i≠[]:=fun e=>by rw [e] at hbl;simp at hbl;omega
      have hsl:sl 2 1 (mnY k ys i)=.own 2 1 0 i:=by rw [sl_pos hne,hbl]
      have hob:ob 23 1 (mnY k ys i)=some ⟨23,1,(mnY k ys i).map .f⟩:=ob_pos hne
      have hbt:List.take i (List.map AV.f (mnY k ys i))=List.map AV.f (mnY k ys i):=List.take_of_length_le (by simp [hbl])
      repeat (first|(with_reducible first|refine W_seq fun K hK=>?_|refine J_block ?_|refine J_skip ?_|((fail_if_success refine J_region (id:=12) ?_);refine J_region ?_) |refine aApp_old ?_|(refine Kont.go (by assumption) ?_)|(simp (config:={ maxSteps:=3000000 }) (disch:=omega) only [go_sem,↓reduceIte,Nat.reduceAdd,Nat.reduceLeDiff,Int.reduceLE,hkn,y1,l1,hk0,hk1,hk2,hdr,htl,hdl,hto,List.drop_zero,hsl,hob,hbl,hbt,Nat.reduceMul,Nat.le_refl,true_and,and_self]))|refine And.intro (by omega) ?_)
      refine J_freezeA (r:=5) (sz:=3) (l:=outR k xs) rfl ?_
      have hqj:List.map AV.f (mnY k ys i)++[AV.f (.fz 3 (outR k xs))]=List.map AV.f (mnY k ys (i+1)):=hqi.symm
      repeat (with_reducible first|refine J_region ?_ |(simp (config:={ maxSteps:=3000000 }) (disch:=omega) only [go_sem,Nat.reduceEqDiff,↓reduceIte,hol,hqj,true_and,and_self]))
      refine ⟨i+1,by omega,by omega,weak_ren [0,1,7] ⟨by decide,by first|decide|(simp;done)⟩ ?_ ?_⟩<;>(try simp (disch:=omega) only [go_sem,Nat.reduceAdd,hsl1,hob1])<;>(try first|done|omega|rfl|exact ⟨rfl,rfl⟩|trivial)
    ·have he:i=n:=by omega
     subst he
     repeat (with_reducible first|refine W_seq fun K hK=>?_|refine J_exit ?_|refine J_region ?_ |(refine Kont.go (by assumption) ?_)|(simp (config:={ maxSteps:=3000000 }) (disch:=omega) only [go_sem,↓reduceIte]))
     refine call_fl hcall (flat_fr _) (FrzL.cons (Frz.sl rfl) (FrzL.nil _)) ?_
     have f1:=IsFr.c (hdz k hkl)
     have f2:=IsFr.c (Fz.mul (hdz k hkl) (f0.fz h1))
     have fsm:=sumF_fz (f:=T) (n:=k) (s:=b+Sz) fun q hq=>hTz q (by omega)
     have so:=Nat.mul_le_mul_right (b+Sz+1) (show k≤6 by omega)
     have f3:=IsFr.c fsm
     have hmod:(k:Int).tmod 2=((k%2:Nat):Int):=by rw [Int.tmod_eq_emod_of_nonneg (by omega)];omega
     by_cases hodd:k%2=1
     ·have hm:(((k%2:Nat):Int)=1)=True:=eq_true (by omega)
      have en:fr (sumF T k-det i (mnr (at2 A) k)*at2 A 0 k)=fr (sumF T (k+1)):=by
       rw [hsum,hT]
       show _=fr (_+sgn k*_)
       unfold sgn
       rw [if_pos hodd]
       congr 1;grind
      repeat (first|(with_reducible first|refine W_seq fun K hK=>?_|refine J_region ?_ |refine J_drawn mixed (by kernel_rfl) ?_|refine J_c ?_|refine Jc_true ?_|(refine Kont.go (by assumption) ?_)|(simp (config:={ maxSteps:=3000000 }) (disch:=omega) only [go_sem,↓reduceIte,Nat.reduceAdd,Int.reduceLE,Int.reduceEq,y0,x0,hmod,hm,decide_true,true_and,and_self]))|refine call_f (rsub_w (by assumption) (by assumption) (by omega) (by omega)) rfl ?_|refine callQ_f (rmul_w (by assumption) (by assumption) (by omega) (by omega)) rfl ?_)
      rw [en]
      refine ⟨k+1,by omega,by omega,weak_of ?_ ?_⟩<;>(try simp (disch:=omega) only [go_sem,Nat.reduceAdd])<;>(try first|done|omega|rfl|exact ⟨rfl,rfl⟩|trivial)
     ·have hm:(((k%2:Nat):Int)=1)=False:=eq_false (by omega)
      have en:fr (sumF T k+det i (mnr (at2 A) k)*at2 A 0 k)=fr (sumF T (k+1)):=by
       rw [hsum,hT]
       show _=fr (_+sgn k*_)
       unfold sgn
       rw [if_neg hodd]
       congr 1;grind
      repeat (first|(with_reducible first|refine W_seq fun K hK=>?_|refine J_region ?_ |refine J_drawn mixed (by kernel_rfl) ?_|refine J_c ?_|refine Jc_false ?_|(refine Kont.go (by assumption) ?_)|(simp (config:={ maxSteps:=3000000 }) (disch:=omega) only [go_sem,↓reduceIte,Nat.reduceAdd,Int.reduceLE,Int.reduceEq,y0,x0,hmod,hm,decide_false,true_and,and_self]))|refine call_f (radd_w (by assumption) (by assumption) (by omega) (by omega)) rfl ?_|refine callQ_f (rmul_w (by assumption) (by assumption) (by omega) (by omega)) rfl ?_)
      rw [en]
      refine ⟨k+1,by omega,by omega,weak_of ?_ ?_⟩<;>(try simp (disch:=omega) only [go_sem,Nat.reduceAdd])<;>(try first|done|omega|rfl|exact ⟨rfl,rfl⟩|trivial)
  ·have he:k=n+1:=by omega
   subst he
   repeat (with_reducible first|refine W_seq fun K hK=>?_|refine J_exit ?_|refine J_ret ?_|refine J_region ?_ |exact Frz.f _|(refine Kont.go (by assumption) ?_)|(simp (config:={ maxSteps:=3000000 }) (disch:=omega) only [go_sem,↓reduceIte,Nat.reduceAdd]))
end Go.Proofs.YtcgagiimlkjcpaaGreatDoor
set_option linter.unusedVariables false
set_option linter.unusedSimpArgs false
namespace Go.Proofs.YtcgagiimlkjcpaaGreatDoor
open Go Go.RowKit
def pickN (c:Int) (n:Nat):Nat:=(if c<0 then -(c+1) else c).toNat%n
theorem tmod_nat {c:Int} {n:Nat} (h:0≤c):c.tmod (n:Int)=((c.toNat%n:Nat):Int):=by
 rw [Int.tmod_eq_emod_of_nonneg h,Int.natCast_emod,Int.toNat_of_nonneg h]
theorem pickN_lt (c:Int) {n:Nat} (h:0<n):pickN c n<n:=Nat.mod_lt _ h
set_option maxRecDepth 100000 in
theorem pick_good (c:Int) (n:Nat) (h1:-9223372036854775808≤c) (h2:c≤9223372036854775807) (h0:0<n) (hn:n≤9223372036854775807):Good Tryz.prog 33 [I c,I n] (I (pickN c n)):=by
 unfold pickN
 refine good_of Tryz.func33 rfl (by kernel_rfl) fun X hO hrd=>?_;rw [Tryz.ntmps33,Tryz.results33];simp only [ast0,List.map_cons,List.map_nil,List.length_cons,List.length_nil,Nat.reduceAdd,Nat.reduceSub,List.replicate_succ,List.replicate_zero,List.cons_append,List.nil_append]
 repeat (with_reducible first|refine W_seq fun K hK=>?_|refine J_region ?_ |refine J_c ?_|(refine Kont.go (by assumption) ?_)|(simp (config:={ maxSteps:=3000000 }) (disch:=omega) only [go_sem]))
 refine Jc_if (fun hc=>?_) (fun hc=>?_)<;>try simp only [decide_eq_true_eq,decide_eq_false_iff_not] at hc
 ·repeat (first|(with_reducible first|refine W_seq fun K hK=>?_|refine J_ret ?_|refine J_region ?_ |(refine Kont.go (by assumption) ?_)|(simp (config:={ maxSteps:=3000000 }) (disch:=omega) only [go_sem,Int.zero_sub]))|refine And.intro (by omega) ?_)
  rw [if_pos hc,←tmod_nat (by omega)]
  exact Frz.f _
 ·repeat (first|(with_reducible first|refine W_seq fun K hK=>?_|refine J_skip ?_|refine J_ret ?_|refine J_region ?_ |(refine Kont.go (by assumption) ?_)|(simp (config:={ maxSteps:=3000000 }) (disch:=omega) only [go_sem]))|refine And.intro (by omega) ?_)
  rw [if_neg hc,←tmod_nat (by omega)]
  exact Frz.f _
theorem pickI (c n:Int) (h1:-9223372036854775808≤c) (h2:c≤9223372036854775807) (h0:0<n) (hn:n≤9223372036854775807):Good Tryz.prog 33 [I c,I n] (I (pickN c n.toNat)):=by
 have:=pick_good c n.toNat h1 h2 (by omega) (by omega)
 rwa [Int.toNat_of_nonneg (by omega)] at this
end Go.Proofs.YtcgagiimlkjcpaaGreatDoor
