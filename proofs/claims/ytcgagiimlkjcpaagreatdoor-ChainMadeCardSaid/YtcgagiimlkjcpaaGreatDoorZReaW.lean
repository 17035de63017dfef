/- Who comes to whom: walked. Conditions: numbers of 10^7 bytes each. -/
import Derived.Test.YtcgagiimlkjcpaaGreatDoorZPowW
set_option linter.unusedVariables false
set_option linter.unusedSimpArgs false
namespace Go.Proofs.YtcgagiimlkjcpaaGreatDoor
open Go Go.RowKit
abbrev b2i (b:Bool):Int:=if b=true then 1 else 0
theorem b2i_and:∀x y:Bool,bits .and .i64 (b2i x) (b2i y)=b2i (x&&y):=by decide
theorem b2i_or:∀x y:Bool,bits .or .i64 (b2i x) (b2i y)=b2i (x||y):=by decide
def edg (m:List (List Rat)):Bx:=fun i k=>decide (0<at2 m i k)
def rowW (n:Nat) (W:Bx) (i:Nat):List FV:=(List.range n).map fun k=>I (b2i (W i k))
def rTo (W:Bx) (i x:Nat):List FV:=(List.range x).map fun k=>I (b2i (W i k))
theorem rTo_zero {W:Bx} {i:Nat}:rTo W i 0=[]:=rfl
theorem rTo_len {W:Bx} {i x:Nat}:(rTo W i x).length=x:=by simp [rTo]
theorem rTo_next {W:Bx} {i x:Nat}:rTo W i x++[I (b2i (W i x))]=rTo W i (x+1):=by simp [rTo,List.range_succ]
attribute [go_sem] rTo_zero
def rowsW (n:Nat) (W:Bx) (x:Nat):List (List FV):=(List.range x).map (rowW n W)
def reachV (n:Nat) (W:Bx):FV:=.fz 1 ((List.range n).map fun i=>.fz 1 (rowW n W i))
def oes (n x:Nat):List AV:=(List.range n).map fun j=>if j<x then .own (1+j) 1 0 n else .f nilV
section
variable {n x i j k N : Nat} {W : Bx}
theorem rowW_len:(rowW n W i).length=n:=by simp [rowW]
theorem rowsW_len:(rowsW n W x).length=x:=by simp [rowsW]
theorem oes_len:(oes n x).length=n:=by simp [oes]
theorem rowW_get (h:j<n):((rowW n W i).map AV.f)[j]?=some (.f (I (b2i (W i j)))):=by simp [rowW,h]
theorem rowsW_get (h:i<x):(rowsW n W x)[i]?=some (rowW n W i):=by simp [rowsW,h]
theorem rowsW_next:rowsW n W x++[rowW n W x]=rowsW n W (x+1):=by simp [rowsW,List.range_succ]
theorem oes_zero:List.replicate n (AV.f nilV)=oes n 0:=by
 apply List.ext_getElem?
 intro j
 by_cases h:j<n<;>simp [oes,h]
theorem oes_get (h:i<x) (hn:i<n):(oes n x)[i]?=some (.own (1+i) 1 0 n):=by simp [oes,h,hn]
theorem oes_set_nil (h:x<n):oes n x=(oes n x).set x (.f nilV):=by
 apply List.ext_getElem?
 intro j
 by_cases e:j=x
 ·subst e;rw [List.getElem?_set_self (by rw [oes_len];exact h)];simp [oes,h]
 ·rw [List.getElem?_set_ne (Ne.symm e)]
theorem oes_set_own (h:x<n):(oes n x).set x (.own (1+x) 1 0 n)=oes n (x+1):=by
 apply List.ext_getElem?
 intro j
 by_cases e:j=x
 ·subst e;rw [List.getElem?_set_self (by rw [oes_len];exact h)];simp [oes,h]
 ·rw [List.getElem?_set_ne (Ne.symm e)]
  by_cases hj:j<n
  ·have:(j<x+1)=(j<x):=propext ⟨fun h=>by omega,fun h=>by omega⟩
   simp [oes,hj,this]
  ·rw [List.getElem?_eq_none (by rw [oes_len];omega),List.getElem?_eq_none (by rw [oes_len];omega)]
theorem oes_getx (h:x<n) (y:AV):((oes n x).set x y)[x]?=some y:=List.getElem?_set_self (by rw [oes_len];exact h)
theorem oes_ren {c d:Nat} (h:x≤c-1) (hc:1≤c):(oes n x).map (AV.ren (gCur c d))=oes n x:=by
 unfold oes
 rw [List.map_map]
 refine List.map_congr_left fun j _=>?_
 show AV.ren _ (if j<x then _ else _)=_
 split
 ·show AV.own (gCur c d (1+j)) 1 0 n=_
  rw [gCur_ne (by omega)]
 ·rfl
theorem objLt_oes {e:TypeId} (h:x<N):objLt N ⟨e,1,oes n x⟩=True:=propext ⟨fun _=>trivial,fun _ y hy=>by
 obtain ⟨j,_,rfl⟩:=List.mem_map.1 (show y∈oes n x from hy)
 split
 ·exact decide_eq_true (show 1+j<N by omega)
 ·rfl⟩
theorem objLt_oesl {e:TypeId} {r:Nat} {l:List FV} (h:x<N) (hr:r<N):objLt N ⟨e,1,(oes n x).set i (sl r 1 l)⟩=True:=propext ⟨fun _=>trivial,fun _ y hy=>by
 rcases List.mem_or_eq_of_mem_set (show y∈(oes n x).set i (sl r 1 l) from hy) with hy|rfl
 ·obtain ⟨j,_,rfl⟩:=List.mem_map.1 (show y∈oes n x from hy)
  split
  ·exact decide_eq_true (show 1+j<N by omega)
  ·rfl
 ·cases l with
  | nil=>rfl
  | cons a l=>exact decide_eq_true hr⟩
theorem rowsW_congr {V:Bx} (h:∀a b,a<n→b<n→W a b=V a b):rowsW n W n=rowsW n V n :=
 List.map_congr_left fun i hi=>List.map_congr_left fun k hk=>by rw [h i k (List.mem_range.1 hi) (List.mem_range.1 hk)]
def wst (E:Bx) (k i j:Nat):Bx:=fun a b=>if a<i∨(a=i∧b<j) then wsh E (k+1) a b else wsh E k a b
variable {E : Bx}
theorem wst_set (hi:i<n) (hj:j<n):(rowsW n (wst E k i j) n).set i ((rowW n (wst E k i j) i).set j (I (b2i (wsh E (k+1) i j))))=rowsW n (wst E k i (j+1)) n:=by
 apply List.ext_getElem?
 intro a
 by_cases e:a=i
 ·subst e
  rw [List.getElem?_set_self (by rw [rowsW_len];exact hi),rowsW_get hi]
  congr 1
  apply List.ext_getElem?
  intro b
  by_cases e2:b=j
  ·subst e2
   rw [List.getElem?_set_self (by rw [rowW_len];exact hj)]
   simp [rowW,hj,wst]
  ·rw [List.getElem?_set_ne (Ne.symm e2)]
   by_cases hb:b<n
   ·have:(b<j+1)=(b<j):=propext ⟨fun h=>by omega,fun h=>by omega⟩
    simp [rowW,hb,wst,this]
   ·rw [List.getElem?_eq_none (by rw [rowW_len];omega),List.getElem?_eq_none (by rw [rowW_len];omega)]
 ·rw [List.getElem?_set_ne (Ne.symm e)]
  by_cases ha:a<n
  ·rw [rowsW_get ha,rowsW_get ha]
   congr 1
   refine List.map_congr_left fun b _=>?_
   simp [wst,e]
  ·rw [List.getElem?_eq_none (by rw [rowsW_len];omega),List.getElem?_eq_none (by rw [rowsW_len];omega)]
theorem wst_ik:wst E k i j i k=wsh E k i k:=by
 unfold wst
 split
 ·exact wsh_in
 ·rfl
theorem wst_kj:wst E k i j k j=wsh E k k j:=by
 unfold wst
 split
 ·exact wsh_out
 ·rfl
theorem wst_ij:wst E k i j i j=wsh E k i j:=by
 unfold wst
 rw [if_neg (by omega)]
end
attribute [go_sem] rowsW_len objLt_oes objLt_oesl
set_option maxRecDepth 100000 in
set_option maxHeartbeats 8000000 in
theorem reach_w {b:Nat} {ys:List FV} {m:List (List Rat)} (hm:SqM b ys m) (h1:1≤b) (hb:b≤10000000) (hn1:1≤m.length):Good Tryz.prog 99 [.fz 1 ys] (reachV m.length (wsh (edg m) m.length)):=by
 have hn6:=hm.le
 obtain ⟨n,hn⟩:∃n,n=m.length:=⟨_,rfl⟩
 rw [←hn]
 refine good_of Tryz.func99 rfl (by kernel_rfl) fun X hO hrd=>?_;rw [Tryz.ntmps99,Tryz.results99];simp only [ast0,List.map_cons,List.map_nil,List.length_cons,List.length_nil,Nat.reduceAdd,Nat.reduceSub,List.replicate_succ,List.replicate_zero,List.cons_append,List.nil_append]
 repeat (first|(with_reducible first|refine W_seq fun K hK=>?_|refine J_block ?_|refine J_region ?_|(refine Kont.go (by assumption) ?_)|(simp (config:={ maxSteps:=3000000 }) (disch:=omega) only [go_sem,hm.fr.len,←hn,oes_zero]))|refine And.intro (by omega) ?_)
 have hH:[some (AO.mk 24 1 (oes n 0))]=dy [some (AO.mk 24 1 (oes n 0))] 3 1 (rowsW n (wsh (edg m) 0) 0) []:=rfl
 rw [hH]
 refine W_loop [4,5,6,7,16,17,18,19,20,21,22,23,24,25,26,27,28,29,30,31,32,33,34,35,36,37,38,39,40,41,42,43,44,45,46,47,48] (fun x:Nat=>[(16,.f (I x))]) (fun x:Nat=>dy [some ⟨24,1,oes n x⟩] 3 1 (rowsW n (wsh (edg m) 0) x) []) (fun x:Nat=>x≤n) (fun x:Nat=>n-x) (0) (Nat.zero_le _) (by refine weak_of ?_ ?_<;>simp (disch:=omega) only [go_sem]<;>first|rfl|exact ⟨rfl,rfl⟩|exact Or.inl rfl|exact ⟨Or.inl rfl,Or.inl rfl⟩|trivial|assumption|omega|(symm;assumption)|((repeat' apply And.intro)<;>first|rfl|omega|trivial|exact .inr ⟨rfl,rfl⟩|exact .inr rfl|(right;symm;assumption)|(symm;assumption)|assumption)) ?_
 rintro i hi
 simp only [go_sem]
 repeat (with_reducible first|refine W_seq fun K hK=>?_|refine J_region ?_|refine J_c ?_|(refine Kont.go (by assumption) ?_)|(simp (config:={ maxSteps:=3000000 }) (disch:=omega) only [go_sem]))
 refine Jc_if (fun hil=>?_) (fun hil=>?_)<;>try simp only [decide_eq_true_eq,decide_eq_false_iff_not] at hil
 ·obtain ⟨xs,hx,hxs⟩:=hm.fr.at (i:=i) (by omega)
  have hrl:=hm.sq _ (List.getElem_mem (show i<m.length by omega))
  have hxl:xs.length=n:=by rw [hxs.len,hrl,hn]
  repeat (with_reducible first|refine W_seq fun K hK=>?_|refine J_block ?_|refine J_skip ?_|refine J_region ?_|(refine Kont.go (by assumption) ?_)|(simp (config:={ maxSteps:=3000000 }) (disch:=omega) only [go_sem,↓reduceIte,hx,hxl]))
  refine J_reserve ?_
  rw [oes_set_nil hil]
  have hRl:(rowsW n (wsh (edg m) 0) i).length=i:=rowsW_len
  have hgB:∀(A:Option AO) (B:AH) (j:Nat),(dy [A] 3 1 (rowsW n (wsh (edg m) 0) i) B)[1+(i+j)]?=B[j]?:=fun A B j=>dy_getB rfl hRl
  have hgB0:∀(A:Option AO) (B:AH),(dy [A] 3 1 (rowsW n (wsh (edg m) 0) i) B)[1+i]?=B[0]?:=fun A B=>dy_getB0 rfl hRl
  have hsB:∀(A:Option AO) (B:AH) (j:Nat) (o:Option AO),(dy [A] 3 1 (rowsW n (wsh (edg m) 0) i) B).set (1+(i+j)) o=dy [A] 3 1 (rowsW n (wsh (edg m) 0) i) (B.set j o):=fun A B j o=>dy_setB rfl hRl
  have hsB0:∀(A:Option AO) (B:AH) (o:Option AO),(dy [A] 3 1 (rowsW n (wsh (edg m) 0) i) B).set (1+i) o=dy [A] 3 1 (rowsW n (wsh (edg m) 0) i) (B.set 0 o):=fun A B o=>dy_setB0 rfl hRl
  have h0f:IsFr (fr ((0:Int):Rat)) ((0:Int):Rat) 8:=IsFr.int (by omega) (by omega)
  refine W_loop [6,7,23,24,25,26,27,28,29,30,31,32,33,34,35,36,37,38,39,40,41,42,43,44,45,46,47] (fun x:Nat=>[(23,.f (I x))]) (fun x:Nat=>dy [some ⟨24,1,(oes n i).set i (sl (1+i) 1 (rTo (wsh (edg m) 0) i x))⟩] 3 1 (rowsW n (wsh (edg m) 0) i) [ob 3 1 (rTo (wsh (edg m) 0) i x)]) (fun x:Nat=>x≤n) (fun x:Nat=>n-x) (0) (Nat.zero_le _) (by refine weak_of ?_ ?_<;>simp (disch:=omega) only [go_sem]<;>first|rfl|exact ⟨rfl,rfl⟩|exact Or.inl rfl|exact ⟨Or.inl rfl,Or.inl rfl⟩|trivial|assumption|omega|(symm;assumption)|((repeat' apply And.intro)<;>first|rfl|omega|trivial|exact .inr ⟨rfl,rfl⟩|exact .inr rfl|(right;symm;assumption)|(symm;assumption)|assumption)) ?_
  rintro x hx
  simp only [go_sem]
  repeat (with_reducible first|refine W_seq fun K hK=>?_|refine J_region ?_|refine J_c ?_|(refine Kont.go (by assumption) ?_)|(simp (config:={ maxSteps:=3000000 }) (disch:=omega) only [go_sem]))
  refine Jc_if (fun hxn=>?_) (fun hxn=>?_)<;>try simp only [decide_eq_true_eq,decide_eq_false_iff_not] at hxn
  ·obtain ⟨g,nn,d,z1,z2⟩:=hxs.at3 (i:=x) (by omega)
   have eat:(m[i]'(by omega))[x]'(by omega)=at2 m i x:=(hm.e2 (by omega) (by omega)).symm
   rw [eat] at z2
   have hbl:=rTo_len (W:=wsh (edg m) 0) (i:=i) (x:=x)
   have hnx:=rTo_next (W:=wsh (edg m) 0) (i:=i) (x:=x)
   have hne1:rTo (wsh (edg m) 0) i (x+1)≠[]:=fun e=>by have:=congrArg List.length e;rw [rTo_len] at this;simp at this
   have hsl1:sl (1+(i+3)) 1 (rTo (wsh (edg m) 0) i (x+1))=.own (1+(i+3)) 1 0 (x+1):=by rw [sl_pos hne1,rTo_len]
   have hob1:ob 3 1 (rTo (wsh (edg m) 0) i (x+1))=some ⟨3,1,(rTo (wsh (edg m) 0) i (x+1)).map .f⟩:=ob_pos hne1
   have hgx:=oes_getx (n:=n) (x:=i) hil
   have hres:=oes_ren (n:=n) (x:=i) (c:=1+i) (d:=1+(i+3)) (by omega) (by omega)
   have hg0:gCur (1+i) (1+(i+3)) 0=0:=gCur_ne (by omega)
   have hg1:gCur (1+i) (1+(i+3)) (1+i)=1+(i+3):=gCur_self
   obtain ⟨bb,hbb⟩:∃bb:Bool,bb=wsh (edg m) 0 i x:=⟨_,rfl⟩
   have hone:=chone_w bb
   obtain ⟨c,hc⟩:∃c:Int,c=if bb=true then 1 else 0:=⟨_,rfl⟩
   rw [←hc] at hone
   have hcx:I (b2i (wsh (edg m) 0 i x))=I c:=by rw [hc,hbb]
   rw [hcx] at hnx
   have hval:(if i=x then true else decide (0<cmpR (at2 m i x) ((0:Int):Rat)))=bb:=by
    rw [hbb]
    show _=(decide (i=x)||edg m i x)
    by_cases e:i=x
    ·simp [e]
    ·rw [if_neg e]
     simp only [e,decide_false,Bool.false_or,edg]
     congr 1
     exact propext (cmpR_gt.trans (by rw [show ((0:Int):Rat)=0 from rfl]))
   have fin0:x=0→rTo (wsh (edg m) 0) i x=[]:=fun h=>by rw [h];rfl
   by_cases hx0:x=0
   ·have hr0:=fin0 hx0
    have hsl:sl (1+i) 1 (rTo (wsh (edg m) 0) i x)=.f nilV:=by rw [hr0];rfl
    have hob:ob 3 1 (rTo (wsh (edg m) 0) i x)=none:=by rw [hr0];rfl
    have q1:(rTo (wsh (edg m) 0) i (x+1)).map AV.f=[AV.f (I c)]:=by rw [←hnx,hr0];rfl
    have hsl1':sl (1+(i+3)) 1 (rTo (wsh (edg m) 0) i (x+1))=.own (1+(i+3)) 1 0 1:=by rw [hsl1,hx0]
    by_cases e:i=x
    ·rw [if_pos e] at hval
     rw [←hval] at hone
     have heT:(i=x)=True:=eq_true e
     repeat (first|(with_reducible first|refine W_seq fun K hK=>?_|refine J_block ?_|refine J_skip ?_|refine J_region ?_|refine J_orders (id:=8) [17] (.one 0 (.one 1 (.one 2 (.one 3 (.one 4 (.one 5 (.one 6 (.one 7 (.one 8 (.one 9 (.one 10 (.one 11 (.one 12 (.one 13 (.one 14 (.one 15 (.one 16 (.one 17 (.one 18 (.one 19 .leaf)))))))))))))))))))) mixed (by kernel_rfl) ?_ |(refine Kont.go (by assumption) ?_)|(simp (config:={ maxSteps:=3000000 }) (disch:=omega) only [go_sem,Nat.reduceEqDiff,↓reduceIte,Nat.reduceAdd,z1,hgB,hsB,hgx,heT,Int.natCast_inj,hsl,hob,hRl,decide_true]))|refine And.intro (by omega) ?_)
     refine callQ_f hone rfl ?_
     repeat (first|(with_reducible first|refine J_region ?_|(refine Kont.go (by assumption) ?_)|(simp (config:={ maxSteps:=3000000 }) (disch:=omega) only [go_sem,↓reduceIte,Nat.reduceLeDiff,List.set_set]))|refine And.intro (by omega) ?_)
     refine ⟨x+1,by omega,by omega,weak_cur (j:=3) rfl rfl hRl rfl ?_ ?_ ?_⟩<;>(try simp (disch:=omega) only [go_sem,hsl1',hob1,hg0,hg1,hres,q1])<;>(try first|done|omega|rfl|exact ⟨rfl,rfl⟩|trivial)
    ·rw [if_neg e] at hval
     rw [←hval] at hone
     repeat (first|(with_reducible first|refine W_seq fun K hK=>?_|refine J_block ?_|refine J_skip ?_|refine J_region ?_|refine J_orders (id:=8) [17] (.one 0 (.one 1 (.one 2 (.one 3 (.one 4 (.one 5 (.one 6 (.one 7 (.one 8 (.one 9 (.one 10 (.one 11 (.one 12 (.one 13 (.one 14 (.one 15 (.one 16 (.one 17 (.one 18 (.one 19 .leaf)))))))))))))))))))) mixed (by kernel_rfl) ?_ |(refine Kont.go (by assumption) ?_)|(simp (config:={ maxSteps:=3000000 }) (disch:=omega) only [go_sem,Nat.reduceEqDiff,↓reduceIte,Nat.reduceAdd,z1,hgB,hsB,hgx,e,Int.natCast_inj,hsl,hob,hRl]))|refine callQ_f (of_good (by omega) (by omega)) rfl ?_|refine callQ_f (cmp_w (by assumption) (by assumption) (by omega) (by omega)) rfl ?_|refine And.intro (by omega) ?_)
     refine callQ_f hone rfl ?_
     repeat (first|(with_reducible first|refine J_region ?_|(refine Kont.go (by assumption) ?_)|(simp (config:={ maxSteps:=3000000 }) (disch:=omega) only [go_sem,↓reduceIte,Nat.reduceLeDiff,List.set_set]))|refine And.intro (by omega) ?_)
     refine ⟨x+1,by omega,by omega,weak_cur (j:=3) rfl rfl hRl rfl ?_ ?_ ?_⟩<;>(try simp (disch:=omega) only [go_sem,hsl1',hob1,hg0,hg1,hres,q1])<;>(try first|done|omega|rfl|exact ⟨rfl,rfl⟩|trivial)
   ·have hne:rTo (wsh (edg m) 0) i x≠[]:=fun e=>by rw [e] at hbl;simp at hbl;omega
    have hsl:sl (1+i) 1 (rTo (wsh (edg m) 0) i x)=.own (1+i) 1 0 x:=by rw [sl_pos hne,hbl]
    have hob:ob 3 1 (rTo (wsh (edg m) 0) i x)=some ⟨3,1,(rTo (wsh (edg m) 0) i x).map .f⟩:=ob_pos hne
    have htk:((rTo (wsh (edg m) 0) i x).map AV.f).take x++[AV.f (I c)]=(rTo (wsh (edg m) 0) i (x+1)).map AV.f:=by rw [List.take_of_length_le (by rw [List.length_map,hbl];omega),←hnx,List.map_append];rfl
    by_cases e:i=x
    ·rw [if_pos e] at hval
     rw [←hval] at hone
     have heT:(i=x)=True:=eq_true e
     repeat (first|(with_reducible first|refine W_seq fun K hK=>?_|refine J_block ?_|refine J_skip ?_|refine J_region ?_|refine J_orders (id:=8) [17] (.one 0 (.one 1 (.one 2 (.one 3 (.one 4 (.one 5 (.one 6 (.one 7 (.one 8 (.one 9 (.one 10 (.one 11 (.one 12 (.one 13 (.one 14 (.one 15 (.one 16 (.one 17 (.one 18 (.one 19 .leaf)))))))))))))))))))) mixed (by kernel_rfl) ?_ |(refine Kont.go (by assumption) ?_)|(simp (config:={ maxSteps:=3000000 }) (disch:=omega) only [go_sem,Nat.reduceEqDiff,↓reduceIte,Nat.reduceAdd,z1,hgB,hsB,hgB0,hsB0,hgx,heT,Int.natCast_inj,hsl,hob,hRl,hbl,decide_true]))|refine And.intro (by omega) ?_)
     refine callQ_f hone rfl ?_
     repeat (first|(with_reducible first|refine J_region ?_|(refine Kont.go (by assumption) ?_)|(simp (config:={ maxSteps:=3000000 }) (disch:=omega) only [go_sem,↓reduceIte,Nat.reduceLeDiff,List.set_set,htk]))|refine And.intro (by omega) ?_)
     refine ⟨x+1,by omega,by omega,weak_cur (j:=3) rfl rfl hRl rfl ?_ ?_ ?_⟩<;>(try simp (disch:=omega) only [go_sem,hsl1,hob1,hg0,hg1,hres])<;>(try first|done|omega|rfl|exact ⟨rfl,rfl⟩|trivial)
    ·rw [if_neg e] at hval
     rw [←hval] at hone
     repeat (first|(with_reducible first|refine W_seq fun K hK=>?_|refine J_block ?_|refine J_skip ?_|refine J_region ?_|refine J_orders (id:=8) [17] (.one 0 (.one 1 (.one 2 (.one 3 (.one 4 (.one 5 (.one 6 (.one 7 (.one 8 (.one 9 (.one 10 (.one 11 (.one 12 (.one 13 (.one 14 (.one 15 (.one 16 (.one 17 (.one 18 (.one 19 .leaf)))))))))))))))))))) mixed (by kernel_rfl) ?_ |(refine Kont.go (by assumption) ?_)|(simp (config:={ maxSteps:=3000000 }) (disch:=omega) only [go_sem,Nat.reduceEqDiff,↓reduceIte,Nat.reduceAdd,z1,hgB,hsB,hgB0,hsB0,hgx,e,Int.natCast_inj,hsl,hob,hRl,hbl]))|refine callQ_f (of_good (by omega) (by omega)) rfl ?_|refine callQ_f (cmp_w (by assumption) (by assumption) (by omega) (by omega)) rfl ?_|refine And.intro (by omega) ?_)
     refine callQ_f hone rfl ?_
     repeat (first|(with_reducible first|refine J_region ?_|(refine Kont.go (by assumption) ?_)|(simp (config:={ maxSteps:=3000000 }) (disch:=omega) only [go_sem,↓reduceIte,Nat.reduceLeDiff,List.set_set,htk]))|refine And.intro (by omega) ?_)
     refine ⟨x+1,by omega,by omega,weak_cur (j:=3) rfl rfl hRl rfl ?_ ?_ ?_⟩<;>(try simp (disch:=omega) only [go_sem,hsl1,hob1,hg0,hg1,hres])<;>(try first|done|omega|rfl|exact ⟨rfl,rfl⟩|trivial)
  ·have he:x=n:=by omega
   subst he
   have hne:rTo (wsh (edg m) 0) i x≠[]:=fun e=>by have:=congrArg List.length e;rw [rTo_len] at this;have h0:([]:List FV).length=0:=rfl;omega
   have hsl:sl (1+i) 1 (rTo (wsh (edg m) 0) i x)=.own (1+i) 1 0 x:=by rw [sl_pos hne,rTo_len]
   have hob:ob 3 1 (rTo (wsh (edg m) 0) i x)=some ⟨3,1,(rTo (wsh (edg m) 0) i x).map .f⟩:=ob_pos hne
   have hR1:rowsW x (wsh (edg m) 0) i++[rTo (wsh (edg m) 0) i x]=rowsW x (wsh (edg m) 0) (i+1):=rowsW_next
   rw [hsl,hob,oes_set_own hil,dy_close,hR1]
   repeat (with_reducible first|refine J_exit ?_|refine J_region ?_|(refine Kont.go (by assumption) ?_)|(simp (config:={ maxSteps:=3000000 }) (disch:=omega) only [go_sem,↓reduceIte]))
   refine ⟨i+1,by omega,by omega,weak_of ?_ ?_⟩<;>(try simp (disch:=omega) only [go_sem])<;>(try first|done|omega|rfl|exact ⟨rfl,rfl⟩|trivial)
 ·have he:i=n:=by omega
  subst he
  have hR0:rowsW i (wsh (edg m) 0) i=rowsW i (wst (edg m) 0 0 0) i:=rowsW_congr fun a b _ _=>by unfold wst;rw [if_neg (by omega)]
  repeat (with_reducible first|refine W_seq fun K hK=>?_|refine J_block ?_|refine J_exit ?_|refine J_region ?_|(refine Kont.go (by assumption) ?_)|(simp (config:={ maxSteps:=3000000 }) (disch:=omega) only [go_sem,↓reduceIte,hm.fr.len,←hn]))
  rw [hR0]
  refine W_loop [8,9,10,51,52,53,54,55,56,57,58,59,60,61,62,63,64,65,66,67,68,69,70,71,72,73,74,75,76,77,78,79,80,81,82,83,84,85,86,87,88,89,90] (fun x:Nat=>[(51,.f (I x))]) (fun x:Nat=>dy [some ⟨24,1,oes i i⟩] 3 1 (rowsW i (wst (edg m) x 0 0) i) []) (fun x:Nat=>x≤i) (fun x:Nat=>i-x) (0) (Nat.zero_le _) (by refine weak_of ?_ ?_<;>simp (disch:=omega) only [go_sem]<;>first|rfl|exact ⟨rfl,rfl⟩|exact Or.inl rfl|exact ⟨Or.inl rfl,Or.inl rfl⟩|trivial|assumption|omega|(symm;assumption)|((repeat' apply And.intro)<;>first|rfl|omega|trivial|exact .inr ⟨rfl,rfl⟩|exact .inr rfl|(right;symm;assumption)|(symm;assumption)|assumption)) ?_
  rintro k hk
  simp only [go_sem]
  repeat (with_reducible first|refine W_seq fun K hK=>?_|refine J_region ?_|refine J_c ?_|(refine Kont.go (by assumption) ?_)|(simp (config:={ maxSteps:=3000000 }) (disch:=omega) only [go_sem]))
  refine Jc_if (fun hkl=>?_) (fun hkl=>?_)<;>try simp only [decide_eq_true_eq,decide_eq_false_iff_not] at hkl
  ·repeat (with_reducible first|refine W_seq fun K hK=>?_|refine J_block ?_|refine J_skip ?_|refine J_region ?_|(refine Kont.go (by assumption) ?_)|(simp (config:={ maxSteps:=3000000 }) (disch:=omega) only [go_sem,hm.fr.len,←hn]))
   refine W_loop [9,10,56,57,58,59,60,61,62,63,64,65,66,67,68,69,70,71,72,73,74,75,76,77,78,79,80,81,82,83,84,85,86,87,88,89] (fun x:Nat=>[(56,.f (I x))]) (fun x:Nat=>dy [some ⟨24,1,oes i i⟩] 3 1 (rowsW i (wst (edg m) k x 0) i) []) (fun x:Nat=>x≤i) (fun x:Nat=>i-x) (0) (Nat.zero_le _) (by refine weak_of ?_ ?_<;>simp (disch:=omega) only [go_sem]<;>first|rfl|exact ⟨rfl,rfl⟩|exact Or.inl rfl|exact ⟨Or.inl rfl,Or.inl rfl⟩|trivial|assumption|omega|(symm;assumption)|((repeat' apply And.intro)<;>first|rfl|omega|trivial|exact .inr ⟨rfl,rfl⟩|exact .inr rfl|(right;symm;assumption)|(symm;assumption)|assumption)) ?_
   rintro r hr
   simp only [go_sem]
   repeat (with_reducible first|refine W_seq fun K hK=>?_|refine J_region ?_|refine J_c ?_|(refine Kont.go (by assumption) ?_)|(simp (config:={ maxSteps:=3000000 }) (disch:=omega) only [go_sem]))
   refine Jc_if (fun hrl=>?_) (fun hrl=>?_)<;>try simp only [decide_eq_true_eq,decide_eq_false_iff_not] at hrl
   ·repeat (with_reducible first|refine W_seq fun K hK=>?_|refine J_block ?_|refine J_skip ?_|refine J_region ?_|(refine Kont.go (by assumption) ?_)|(simp (config:={ maxSteps:=3000000 }) (disch:=omega) only [go_sem,hm.fr.len,←hn]))
    refine W_loop [10,61,62,63,64,65,66,67,68,69,70,71,72,73,74,75,76,77,78,79,80,81,82,83,84,85,86,87,88] (fun x:Nat=>[(61,.f (I x))]) (fun x:Nat=>dy [some ⟨24,1,oes i i⟩] 3 1 (rowsW i (wst (edg m) k r x) i) []) (fun x:Nat=>x≤i) (fun x:Nat=>i-x) (0) (Nat.zero_le _) (by refine weak_of ?_ ?_<;>simp (disch:=omega) only [go_sem]<;>first|rfl|exact ⟨rfl,rfl⟩|exact Or.inl rfl|exact ⟨Or.inl rfl,Or.inl rfl⟩|trivial|assumption|omega|(symm;assumption)|((repeat' apply And.intro)<;>first|rfl|omega|trivial|exact .inr ⟨rfl,rfl⟩|exact .inr rfl|(right;symm;assumption)|(symm;assumption)|assumption)) ?_
    rintro j hj
    simp only [go_sem]
    repeat (with_reducible first|refine W_seq fun K hK=>?_|refine J_region ?_|refine J_c ?_|(refine Kont.go (by assumption) ?_)|(simp (config:={ maxSteps:=3000000 }) (disch:=omega) only [go_sem]))
    refine Jc_if (fun hjl=>?_) (fun hjl=>?_)<;>try simp only [decide_eq_true_eq,decide_eq_false_iff_not] at hjl
    ·have o1:=oes_get (n:=i) (x:=i) hrl hrl
     have o2:=oes_get (n:=i) (x:=i) hkl hkl
     have g1:∀(A:Option AO) (B:AH),(dy [A] 3 1 (rowsW i (wst (edg m) k r j) i) B)[1+r]?=some (some ⟨3,1,(rowW i (wst (edg m) k r j) r).map .f⟩):=fun A B=>dy_getR rfl (rowsW_get hrl)
     have g2:∀(A:Option AO) (B:AH),(dy [A] 3 1 (rowsW i (wst (edg m) k r j) i) B)[1+k]?=some (some ⟨3,1,(rowW i (wst (edg m) k r j) k).map .f⟩):=fun A B=>dy_getR rfl (rowsW_get hkl)
     have v1:=rowW_get (n:=i) (W:=wst (edg m) k r j) (i:=r) (j:=j) hjl
     have v2:=rowW_get (n:=i) (W:=wst (edg m) k r j) (i:=r) (j:=k) hkl
     have v3:=rowW_get (n:=i) (W:=wst (edg m) k r j) (i:=k) (j:=j) hjl
     rw [wst_ij] at v1
     rw [wst_ik] at v2
     rw [wst_kj] at v3
     have hnew:(wsh (edg m) k r j||(wsh (edg m) k r k&&wsh (edg m) k k j))=wsh (edg m) (k+1) r j:=rfl
     have hmap:((rowW i (wst (edg m) k r j) r).map AV.f).set j (.f (I (b2i (wsh (edg m) (k+1) r j))))=((rowW i (wst (edg m) k r j) r).set j (I (b2i (wsh (edg m) (k+1) r j)))).map .f:=by rw [List.map_set]
     have hset:∀(A:Option AO) (B:AH),(dy [A] 3 1 (rowsW i (wst (edg m) k r j) i) B).set (1+r) (some ⟨3,1,((rowW i (wst (edg m) k r j) r).set j (I (b2i (wsh (edg m) (k+1) r j)))).map .f⟩)=dy [A] 3 1 (rowsW i (wst (edg m) k r (j+1)) i) B:=fun A B=>by
      rw [dy_setR (a:=1) rfl (by rw [rowsW_len];exact hrl),wst_set hrl hjl]
     repeat (first|(with_reducible first|refine W_seq fun K hK=>?_|refine J_block ?_|refine J_skip ?_|refine J_region ?_|refine J_drawn mixed (by kernel_rfl) ?_|(refine Kont.go (by assumption) ?_)|(simp (config:={ maxSteps:=3000000 }) (disch:=omega) only [go_sem,↓reduceIte,o1,o2,g1,g2,v1,v2,v3,b2i_and,b2i_or,hnew,hmap,hset]))|refine And.intro (by omega) ?_)
     refine ⟨j+1,by omega,by omega,weak_of ?_ ?_⟩<;>(try simp (disch:=omega) only [go_sem])<;>(try first|done|omega|rfl|exact ⟨rfl,rfl⟩|trivial)
    ·have he:j=i:=by omega
     have hR1:rowsW i (wst (edg m) k r j) i=rowsW i (wst (edg m) k (r+1) 0) i:=rowsW_congr fun a b ha hb=>by
      unfold wst
      have:(a<r∨a=r∧b<j)=(a<r+1∨a=r+1∧b<0):=propext ⟨fun h=>by omega,fun h=>by omega⟩
      simp only [this]
     rw [hR1]
     repeat (with_reducible first|refine J_exit ?_|refine J_region ?_|(refine Kont.go (by assumption) ?_)|(simp (config:={ maxSteps:=3000000 }) (disch:=omega) only [go_sem,↓reduceIte]))
     refine ⟨r+1,by omega,by omega,weak_of ?_ ?_⟩<;>(try simp (disch:=omega) only [go_sem])<;>(try first|done|omega|rfl|exact ⟨rfl,rfl⟩|trivial)
   ·have he:r=i:=by omega
    have hR1:rowsW i (wst (edg m) k r 0) i=rowsW i (wst (edg m) (k+1) 0 0) i:=rowsW_congr fun a b ha hb=>by
     unfold wst
     rw [if_pos (by omega),if_neg (by omega)]
    rw [hR1]
    repeat (with_reducible first|refine J_exit ?_|refine J_region ?_|(refine Kont.go (by assumption) ?_)|(simp (config:={ maxSteps:=3000000 }) (disch:=omega) only [go_sem,↓reduceIte]))
    refine ⟨k+1,by omega,by omega,weak_of ?_ ?_⟩<;>(try simp (disch:=omega) only [go_sem])<;>(try first|done|omega|rfl|exact ⟨rfl,rfl⟩|trivial)
  ·have he:k=i:=by omega
   subst he
   have hR1:rowsW k (wst (edg m) k 0 0) k=rowsW k (wsh (edg m) k) k:=rowsW_congr fun a b _ _=>by unfold wst;rw [if_neg (by omega)]
   rw [hR1]
   repeat (with_reducible first|refine W_seq fun K hK=>?_|refine J_exit ?_|refine J_ret ?_|refine J_region ?_|(refine Kont.go (by assumption) ?_)|(simp (config:={ maxSteps:=3000000 }) (disch:=omega) only [go_sem,↓reduceIte]))
   refine Frz.own 0 1 0 k _ ((List.range k).map fun i=>.fz 1 (rowW k (wsh (edg m) k) i)) rfl rfl (by show 0+k≤(oes k k).length;rw [oes_len];omega) (by simp) fun j e d he hd=>?_
   have hjk:j<k:=by
    rcases Nat.lt_or_ge j k with h|h
    ·exact h
    ·rw [List.getElem?_eq_none (by simp;omega)] at hd;cases hd
   rw [Nat.zero_add,show (AO.mk 24 1 (oes k k)).es=oes k k from rfl,oes_get hjk hjk] at he
   cases he
   simp [hjk] at hd
   subst hd
   exact Frz.own0 (dy_getR rfl (rowsW_get hjk)) rowW_len.symm
end Go.Proofs.YtcgagiimlkjcpaaGreatDoor
