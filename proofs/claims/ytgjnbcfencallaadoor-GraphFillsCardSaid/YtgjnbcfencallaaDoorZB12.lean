/- Tree, the program's way: walked. Conditions: what slices may hold. -/
import Derived.Test.YtgjnbcfencallaaDoorZB11
set_option linter.unusedVariables false
set_option linter.unusedSimpArgs false
namespace Go.Proofs.YtgjnbcfencallaaDoor
open Go Go.RowKit
def trK (L:List (List Int)):List Nat:=if bagsB L=true then kpT (bagS L) L.length else []
def trE (L:List (List Int)):Int:=if bagsB L=true then 0 else 11
theorem kpT_len {S:List Nat} {x:Nat}:(kpT S x).length≤x:=by
 unfold kpT;rw [List.length_map];exact Nat.le_trans (List.length_filter_le _ _) (by simp)
theorem kpT_lt {S:List Nat} {x:Nat} (h:∀v,S.getD v 0<256) (v:Nat):(kpT S x).getD v 0<256:=by
 by_cases hv:v<(kpT S x).length
 ·rw [lget_lt _ 0 hv]
  obtain ⟨i,_,e⟩:=List.mem_map.1 (List.getElem_mem hv)
  have e':S.getD i 0=(kpT S x)[v]:=e
  rw [←e'];exact h i
 ·rw [List.getD_eq_getElem?_getD,List.getElem?_eq_none (by omega)];exact (by decide:0<256)
theorem bagS_lt {L:List (List Int)} (hb:bagsB L=true) (v:Nat):(bagS L).getD v 0<256:=by
 by_cases hv:v<L.length
 ·have hm:=(bagsB_iff.1 hb).2 _ (List.getElem_mem hv)
  have hr:risB 8 L[v]=true:=(Bool.and_eq_true_iff.1 hm).1
  have:=readS_lt (n:=8) (l:=L[v]) (by decide)
  rw [(readS_nil hr).1] at this
  rw [lget_lt _ 0 (by rw [bagS_len];exact hv)]
  simpa [bagS] using this
 ·rw [List.getD_eq_getElem?_getD,List.getElem?_eq_none (by rw [bagS_len];omega)];exact (by decide:0<256)
def lnkF (K:List Nat) (p:Nat × Nat):FV:=.agg [I (p.1:Int),I (p.2:Int),.fz 1 (Ns (els (K.getD p.1 0&&&K.getD p.2 0)))]
def bestF (K:List Nat):Option (Nat × Nat)→FV
 | none=>.agg [I (-1),I 0,nilV]
 | some p=>lnkF K p
def lnkT (K:List Nat) (j:Nat):List FV:=(trS K j).1.map (lnkF K)
def trL (L:List (List Int)):List FV:=if bagsB L=true then lnkT (trK L) ((trK L).length-1) else []
theorem lnkT_len {K:List Nat} {j:Nat}:(lnkT K j).length=j:=by
 unfold lnkT
 rw [List.length_map]
 induction j with
 | zero=>rfl
 | succ j ih=>show ((trS K j).1++[_]).length=_;rw [List.length_append,ih];rfl
set_option maxRecDepth 100000 in
set_option maxHeartbeats 8000000 in
theorem Tree_w (L:List (List Int)) (hL:OkIss L):Good Tryd.prog 22 [.fz 1 (L.map ints)] (.tup [.fz 1 (gvs (trK L)),.fz 3 (trL L),I (trE L)]):=by
 have hrs0:=read2_w L hL
 obtain ⟨vK,hvK⟩:∃vK,vK=trK L:=⟨_,rfl⟩
 obtain ⟨vE,hvE⟩:∃vE,vE=trE L:=⟨_,rfl⟩
 obtain ⟨vL,hvL⟩:∃vL,vL=trL L:=⟨_,rfl⟩
 rw [←hvK,←hvE,←hvL]
 refine good_of Tryd.func22 rfl (by kernel_rfl) fun X hO hrd=>?_;rw [Tryd.ntmps22,Tryd.results22];simp only [ast0,List.map_cons,List.map_nil,List.length_cons,List.length_nil,Nat.reduceAdd,Nat.reduceSub,List.replicate_succ,List.replicate_zero,List.cons_append,List.nil_append]
 (repeat (with_reducible first|refine W_seq fun K hK=>?_|refine J_region ?_ |(refine Kont.go (by assumption) ?_)|(simp (config:={ maxSteps:=3000000 }) (disch:=omega) only [go_sem])))
 refine call_ot hrs0 (FrzL.fs [_]) ?_
 cases hb:bagsB L with
 | false =>
  have e1:vK=[]:=by rw [hvK];unfold trK;rw [hb];rfl
  have e2:vL=[]:=by rw [hvL];unfold trL;rw [hb];rfl
  have e3:vE=11:=by rw [hvE];unfold trE;rw [hb];rfl
  have e4:bgR L=.f nilV:=by unfold bgR;rw [hb];rfl
  have g0:gvs []=[]:=rfl
  rw [e4]
  (repeat (with_reducible first|refine W_seq fun K hK=>?_|refine J_ret ?_|refine J_region ?_ |refine J_c ?_|refine Jc_true ?_|(refine Kont.go (by assumption) ?_)|(simp (config:={ maxSteps:=3000000 }) (disch:=omega) only [go_sem])))
  rw [e1,e2,e3,g0]
  exact ⟨_,rfl,FrzL.cons (.nil _) (FrzL.cons (.nil _) (FrzL.cons (.f _) (FrzL.nil _)))⟩
 | true =>
  obtain ⟨⟨h1,h8⟩,_⟩:=bagsB_iff.1 hb
  have e4:bgR L=.own 56 1 ((bagS L).map U):=by unfold bgR;rw [hb];rfl
  rw [e4]
  obtain ⟨S,hS⟩:∃S,S=bagS L:=⟨_,rfl⟩
  obtain ⟨n,hn⟩:∃n,n=L.length:=⟨_,rfl⟩
  rw [←hS]
  have hSl:S.length=n:=by rw [hS,bagS_len,hn]
  have hS8:∀v,S.getD v 0<256:=fun v=>by rw [hS];exact bagS_lt hb v
  (repeat (with_reducible first|refine W_seq fun K hK=>?_|refine J_skip ?_|((fail_if_success refine J_region (id:=4) ?_);refine J_region ?_) |refine J_c ?_|refine Jc_false ?_|(refine Kont.go (by assumption) ?_)|(simp (config:={ maxSteps:=3000000 }) (disch:=omega) only [go_sem,List.length_map,hSl])))
  refine J_freezeA (r:=0) (sz:=1) (l:=S.map U) rfl ?_
  simp only [go_sem]
  (repeat (with_reducible first|refine W_seq fun K hK=>?_|refine J_block ?_|refine J_region ?_ |(refine Kont.go (by assumption) ?_)|(simp (config:={ maxSteps:=3000000 }) (disch:=omega) only [go_sem,↓reduceIte,List.length_map,hSl])))
  refine J_reserve ?_
  have h0:[AV.f nilV]=[sl 2 1 ((kpT S 0).map U)]:=rfl
  simp only [go_sem]
  rw [h0]
  refine W_loop [8,9,10,28,29,30,31,32,33,34,35,36,37,38,39,40,41,42,43,44,45,46,47,48,49,50,51,52,53] (fun x:Nat=>[(28,.f (I x))]) (fun x:Nat=>[none,some ⟨52,1,[sl 2 1 ((kpT S x).map U)]⟩,ob 56 1 ((kpT S x).map U)]) (fun x:Nat=>x≤n) (fun x:Nat=>n-x) (0) (Nat.zero_le _) (by refine weak_of ?_ ?_<;>simp (disch:=omega) only [go_sem,Nat.reduceAdd]<;>first|rfl|exact ⟨rfl,rfl⟩|exact Or.inl rfl|exact ⟨Or.inl rfl,Or.inl rfl⟩|trivial|assumption|omega|(symm;assumption)|((repeat' apply And.intro)<;>first|rfl|omega|trivial|exact .inl rfl|exact .inr ⟨rfl,rfl⟩|exact .inr rfl|(right;symm;assumption)|(symm;assumption)|assumption)) ?_
  rintro x hx
  have hkl:=kpT_len (S:=S) (x:=x)
  simp only [go_sem]
  (repeat (with_reducible first|refine W_seq fun K hK=>?_|refine J_region ?_ |refine J_c ?_|(refine Kont.go (by assumption) ?_)|(simp (config:={ maxSteps:=3000000 }) (disch:=omega) only [go_sem])))
  refine Jc_if (fun hxn=>?_) (fun hxn=>?_)<;>try simp only [decide_eq_true_eq,decide_eq_false_iff_not] at hxn
  ·have gx:(S.map U)[x]?=some (U (S.getD x 0)):=sets_get (by omega)
   obtain ⟨s,hs⟩:∃s,s=S.getD x 0:=⟨_,rfl⟩
   have hs8:s<256:=by rw [hs];exact hS8 x
   rw [←hs] at gx
   have hgt:∀(l:List Nat),(∀v∈l,v<256)→∀q,q<l.length→l.getD q 0<256:=fun l hl q hq=>by rw [lget_lt l 0 hq];exact hl _ (List.getElem_mem hq)
   have hSm:∀v∈S,v<256:=fun v hv=>by obtain ⟨j,hj,rfl⟩:=List.getElem_of_mem hv;have:=hS8 j;rwa [lget_lt S 0 hj] at this
   have hc1:=containsFuncS_w (l:=S.take x) (g:=51) (a:=[]) (b:=[.fp (U s) 0]) (p:=fun q=>decide (dif (S.getD x 0) ((S.take x).getD q 0)=0)) (by rw [List.length_take];omega) (fun q hq=>by rw [←hs];exact tree1_w hs8 (hgt _ (fun v hv=>hSm v (List.mem_of_mem_take hv)) q hq))
   have hc2:=containsFuncS_w (l:=S.drop (x+1)) (g:=52) (a:=[]) (b:=[.fp (U s) 0]) (p:=fun q=>decide (dif (S.getD x 0) ((S.drop (x+1)).getD q 0)=0)&&!decide (S.getD x 0=(S.drop (x+1)).getD q 0)) (by rw [List.length_drop];omega) (fun q hq=>by rw [←hs];exact tree2_w hs8 (hgt _ (fun v hv=>hSm v (List.mem_of_mem_drop hv)) q hq))
   have ea:((List.range (S.take x).length).any fun q=>decide (dif (S.getD x 0) ((S.take x).getD q 0)=0))=inA S x:=rfl
   have ec:((List.range (S.drop (x+1)).length).any fun q=>decide (dif (S.getD x 0) ((S.drop (x+1)).getD q 0)=0)&&!decide (S.getD x 0=(S.drop (x+1)).getD q 0))=inC S x:=rfl
   rw [ea] at hc1
   rw [ec] at hc2
   have hsl1:List.take ((x:Int)-0).toNat (List.drop 0 (List.map U S))=(S.take x).map U:=by
    rw [List.drop_zero,List.map_take,Int.sub_zero,Int.toNat_natCast]
   have hkn:=kpT_next (S:=S) (x:=x)
   have hio:inO S x=(inA S x||inC S x):=rfl
   have hal:((kpT S x).length+1)*8≤140737488355328:=by omega
   have hsn:inO S x=false→(kpT S x).map U++[U s]=(kpT S (x+1)).map U:=fun h=>by
    rw [hkn,h,List.map_append,hs];rfl
   have hsy:inO S x=true→kpT S (x+1)=kpT S x:=fun h=>by rw [hkn,h];simp
   (repeat (first|(with_reducible first|refine W_seq fun K hK=>?_|refine J_block ?_|refine J_skip ?_|refine J_region ?_ |(refine Kont.go (by assumption) ?_)|(simp (config:={ maxSteps:=3000000 }) (disch:=omega) only [go_sem,↓reduceIte,Nat.reduceAdd,Int.reduceLE,gx,hSl,List.length_map,hsl1]))|refine And.intro (by omega) ?_))
   refine call_fl hc1 (.v _) (FrzL.cons (.f _) (FrzL.cons (Frz.fn _ _ _ _ _ rfl (fun j c d h=>by simp at h) rfl fun j cc d h h'=>?_) (FrzL.nil _))) ?_
   ·cases j with
    | zero=>cases h;cases h';exact Frz.ptr0 rfl rfl
    | succ j=>simp at h
   cases hA:inA S x with
   | true =>
    have hy:=hsy (by rw [hio,hA];rfl)
    (repeat (with_reducible first|refine W_seq fun K hK=>?_|refine J_skip ?_|refine J_region ?_ |refine J_c ?_|refine Jc_false ?_|(refine Kont.go (by assumption) ?_)|(simp (config:={ maxSteps:=3000000 }) (disch:=omega) only [go_sem])))
    refine ⟨x+1,by omega,by omega,weak_of ?_ ?_⟩<;>(try simp (disch:=omega) only [go_sem,Nat.reduceAdd,hy])<;>(try first|done|omega|rfl|exact ⟨rfl,rfl⟩|trivial)
   | false =>
    have hsl2:List.take ((n:Int)-((x:Int)+1)).toNat (List.drop ((x:Int)+1).toNat (List.map U S))=(S.drop (x+1)).map U:=by
     rw [show ((x:Int)+1).toNat=x+1 by omega,List.map_drop,List.take_of_length_le (by rw [List.length_drop,List.length_map];omega)]
    (repeat (first|(with_reducible first|refine W_seq fun K hK=>?_|refine J_region ?_ |(refine Kont.go (by assumption) ?_)|(simp (config:={ maxSteps:=3000000 }) (disch:=omega) only [go_sem,hSl,List.length_map,hsl2]))|refine And.intro (by omega) ?_))
    refine call_fl hc2 (.v _) (FrzL.cons (.f _) (FrzL.cons (Frz.fn _ _ _ _ _ rfl (fun j c d h=>by simp at h) rfl fun j cc d h h'=>?_) (FrzL.nil _))) ?_
    ·cases j with
     | zero=>cases h;cases h';exact Frz.ptr0 rfl rfl
     | succ j=>simp at h
    cases hC:inC S x with
    | true =>
     have hy:=hsy (by rw [hio,hA,hC];rfl)
     (repeat (with_reducible first|refine W_seq fun K hK=>?_|refine J_skip ?_|refine J_region ?_ |refine J_c ?_|refine Jc_false ?_|(refine Kont.go (by assumption) ?_)|(simp (config:={ maxSteps:=3000000 }) (disch:=omega) only [go_sem])))
     refine ⟨x+1,by omega,by omega,weak_of ?_ ?_⟩<;>(try simp (disch:=omega) only [go_sem,Nat.reduceAdd,hy])<;>(try first|done|omega|rfl|exact ⟨rfl,rfl⟩|trivial)
    | false =>
     have hy:=hsn (by rw [hio,hA,hC];rfl)
     (repeat (first|(with_reducible first|refine W_seq fun K hK=>?_|refine J_region ?_ |refine aApp_sl ?_|refine J_c ?_|refine Jc_true ?_|(refine Kont.go (by assumption) ?_)|(simp (config:={ maxSteps:=3000000 }) (disch:=omega) only [go_sem,Nat.reduceEqDiff,↓reduceIte,Nat.reduceAdd,Nat.reduceLeDiff,hal,hy]))|refine And.intro (by omega) ?_))
     refine ⟨x+1,by omega,by omega,weak_of ?_ ?_⟩<;>(try simp (disch:=omega) only [go_sem,Nat.reduceAdd])<;>(try first|done|omega|rfl|exact ⟨rfl,rfl⟩|trivial)
  ·have he:x=n:=by omega
   have hKe:trK L=kpT S x:=by unfold trK;rw [hb,←hS,←hn,he];rfl
   obtain ⟨Kp,hK⟩:∃Kp,Kp=kpT S x:=⟨_,rfl⟩
   rw [←hK] at hKe hkl ⊢
   have hK8:Kp.length≤8:=by omega
   have hKm0:∀v,Kp.getD v 0<256:=fun v=>by rw [hK];exact kpT_lt hS8 v
   have hKu:(Kp.map U).length=Kp.length:=List.length_map ..
   (repeat (with_reducible first|refine W_seq fun K hK=>?_|refine J_exit ?_|(refine Kont.go (by assumption) ?_)|(simp (config:={ maxSteps:=3000000 }) (disch:=omega) only [go_sem,↓reduceIte])))
   refine J_reserve ?_
   rcases Nat.eq_zero_or_pos Kp.length with hk0|hk0
   ·have hk:Kp=[]:=List.length_eq_zero_iff.1 hk0
    have e1:vK=[]:=by rw [hvK,hKe,hk]
    have e2:vL=[]:=by rw [hvL];unfold trL;rw [hb,hKe,hk];rfl
    have e3:vE=0:=by rw [hvE];unfold trE;rw [hb];rfl
    have hsn:sl 2 1 (Kp.map U)=.f nilV:=by rw [hk];rfl
    have hon:ob 56 1 (Kp.map U)=none:=by rw [hk];rfl
    have hls:=lists_w (S:=[]) (fun v=>by simp) (by simp)
    have g0:gvs []=[]:=rfl
    rw [hsn,hon]
    simp only [go_sem]
    (repeat (with_reducible first|refine W_seq fun K hK=>?_|refine J_block ?_|refine J_region ?_ |(refine Kont.go (by assumption) ?_)|(simp (config:={ maxSteps:=3000000 }) (disch:=omega) only [go_sem,↓reduceIte,Nat.reduceAdd])))
    refine W_loop [11,13,14,15,16,17,18,54,55,56,57,58,59,60,61,62,63,64,65,66,67,68,69,70,71,72,73,74,75,76,77,78,79,80,81,82,83,84,85,86,87,88,89,90,91,92,93,94,95,96,97,98,99,100,101,102,103,104,105,106,107] (fun j:Nat=>[(11,.f nilV)]) (fun j:Nat=>[none,some ⟨52,1,[.f nilV]⟩,none,none,some ⟨56,1,[.f (U 1)]⟩]) (fun j:Nat=>True) (fun j:Nat=>0) (0) (trivial) (by refine weak_of ?_ ?_<;>simp (disch:=omega) only [go_sem,Nat.reduceAdd]<;>first|rfl|exact ⟨rfl,rfl⟩|exact Or.inl rfl|exact ⟨Or.inl rfl,Or.inl rfl⟩|trivial|assumption|omega|(symm;assumption)|((repeat' apply And.intro)<;>first|rfl|omega|trivial|exact .inl rfl|exact .inr ⟨rfl,rfl⟩|exact .inr rfl|(right;symm;assumption)|(symm;assumption)|assumption)) ?_
    rintro j _
    simp only [go_sem,Nat.reduceLT]
    (repeat (with_reducible first|refine W_seq fun K hK=>?_|refine J_exit ?_|refine J_region ?_ |refine J_c ?_|refine Jc_false ?_|(refine Kont.go (by assumption) ?_)|(simp (config:={ maxSteps:=3000000 }) (disch:=omega) only [go_sem,↓reduceIte,Int.reduceLT,Int.reduceAdd])))
    refine .inl ⟨_,_,FrzL.cons (.nil _) (FrzL.nil _),hls,.inl (fun x hxm=>by rcases List.mem_singleton.1 hxm with rfl;exact ⟨_,rfl⟩),?_⟩
    (repeat (with_reducible first|refine J_ret ?_|(refine Kont.go (by assumption) ?_)|(simp (config:={ maxSteps:=3000000 }) (disch:=omega) only [go_sem])))
    rw [e1,e2,e3,g0]
    exact ⟨_,rfl,FrzL.cons (.f _) (FrzL.cons (.nil _) (FrzL.cons (.f _) (FrzL.nil _)))⟩
   ·have hne:Kp.map U≠[]:=fun e=>by have:=congrArg List.length e;rw [hKu] at this;have h0:([]:List FV).length=0:=rfl;omega
    have hsp:sl 2 1 (Kp.map U)=.own 2 1 0 Kp.length:=by rw [sl_pos hne,hKu]
    rw [hsp]
    refine J_freezeB (r:=2) (sz:=1) (l:=Kp.map U) rfl hne ?_
    simp only [go_sem,Nat.reduceEqDiff]
    (repeat (with_reducible first|refine W_seq fun K hK=>?_|refine J_block ?_|refine J_region ?_ |(refine Kont.go (by assumption) ?_)|(simp (config:={ maxSteps:=3000000 }) (disch:=omega) only [go_sem,↓reduceIte,Nat.reduceAdd])))
    have hl0:AV.f nilV=sl 3 3 (lnkT Kp 0):=rfl
    refine W_loop [11,13,14,15,16,17,18,54,55,56,57,58,59,60,61,62,63,64,65,66,67,68,69,70,71,72,73,74,75,76,77,78,79,80,81,82,83,84,85,86,87,88,89,90,91,92,93,94,95,96,97,98,99,100,101,102,103,104,105,106,107] (fun j:Nat=>[(11,sl 3 3 (lnkT Kp j))]) (fun j:Nat=>[none,some ⟨52,1,[.f (.fz 1 (Kp.map U))]⟩,none,ob 47 3 (lnkT Kp j),some ⟨56,1,[.f (U (trS Kp j).2)]⟩]) (fun j:Nat=>j=0∨j+1≤Kp.length) (fun j:Nat=>Kp.length-j) (0) (.inl rfl) (by refine weak_of ?_ ?_<;>simp (disch:=omega) only [go_sem,Nat.reduceAdd]<;>first|rfl|exact ⟨rfl,rfl⟩|exact Or.inl rfl|exact ⟨Or.inl rfl,Or.inl rfl⟩|trivial|assumption|omega|(symm;assumption)|((repeat' apply And.intro)<;>first|rfl|omega|trivial|exact .inl rfl|exact .inr ⟨rfl,rfl⟩|exact .inr rfl|(right;symm;assumption)|(symm;assumption)|assumption)) ?_
    rintro j hj
    have hlj:=lnkT_len (K:=Kp) (j:=j)
    simp only [go_sem]
    (repeat (with_reducible first|refine W_seq fun K hK=>?_|refine J_region ?_ |refine J_c ?_|(refine Kont.go (by assumption) ?_)|(simp (config:={ maxSteps:=3000000 }) (disch:=omega) only [go_sem,↓reduceIte,hKu,hlj])))
    refine Jc_if (fun hjk=>?_) (fun hjk=>?_)<;>try simp only [decide_eq_true_eq,decide_eq_false_iff_not] at hjk
    ·have hjl:j+1<Kp.length:=by omega
     have hT:=TrOk.all (K:=Kp) (by omega) hK8 j (by omega)
     obtain ⟨done,hdn⟩:∃done,done=(trS Kp j).2:=⟨_,rfl⟩
     have hd8:done<256:=by rw [hdn];exact hT.lt
     rw [←hdn]
     have hit:=all_iter done hd8
     have hKm:∀v,Kp.getD v 0<256:=hKm0
     have hdb:∀u,done.testBit u=true→u<Kp.length:=fun u hu=>hT.below u (by rw [←hdn];exact hu)
     (repeat (with_reducible first|refine W_seq fun K hK=>?_|refine J_block ?_|refine J_skip ?_|refine J_region ?_ |(refine Kont.go (by assumption) ?_)|(simp (config:={ maxSteps:=3000000 }) (disch:=omega) only [go_sem,Nat.reduceEqDiff,↓reduceIte,Nat.reduceAdd,Nat.reduceLeDiff,Int.reduceNeg])))
     refine J_rangeW hrd [15,16,17,18,63,64,65,66,67,68,69,70,71,72,73,74,75,76,77,78,79,80,81,82,83,84,85,86,87,88,89,90,91,92,93,94,95,96,97,98] (fun i=>[none,some ⟨52,1,[.f (.fz 1 (Kp.map U))]⟩,none,ob 47 3 (lnkT Kp j),some ⟨56,1,[.f (U done)]⟩,some ⟨47,3,[.f (bestF Kp (rowsL Kp done ((els done).take i)))]⟩,some ⟨3,1,[.f (I (mostI Kp (rowsL Kp done ((els done).take i))))]⟩]) rfl (hit) (by kernel_rfl) (by refine weak_of ?_ ?_<;>simp (disch:=omega) only [go_sem,Nat.reduceAdd]<;>first|rfl|exact ⟨rfl,rfl⟩|trivial|((repeat' apply And.intro)<;>first|rfl|trivial|exact .inl rfl|exact .inr ⟨rfl,rfl⟩|exact .inr rfl)) (by decide) (by kernel_rfl) (by kernel_rfl) ?_ ?_
     ·rintro i y hy X1 hX1 K hK
      obtain ⟨a,rfl,ha8,hda,hai,htk⟩:=els_take hy
      have hak:=hdb a hda
      have gk:∀v,v<Kp.length→(Kp.map U)[v]?=some (U (Kp.getD v 0)):=fun v hv=>sets_get hv
      obtain ⟨o,ho⟩:∃o,o=rowsL Kp done ((els done).take i):=⟨_,rfl⟩
      rw [←ho]
      simp only [go_sem]
      (repeat (with_reducible first|refine J_region ?_ |(refine Kont.go (by assumption) ?_)|(simp (config:={ maxSteps:=3000000 }) (disch:=omega) only [go_sem,Int.reduceNeg])))
      intro X2 hX2
      (repeat (with_reducible first|refine W_seq fun K hK=>?_|refine J_block ?_|refine J_region ?_ |(refine Kont.go (by assumption) ?_)|(simp (config:={ maxSteps:=3000000 }) (disch:=omega) only [go_sem,↓reduceIte,Int.reduceNeg,hKu])))
      have hz:rowL Kp done a o 0=o:=rfl
      rw [←hz]
      refine W_loop [16,17,18,66,67,68,69,70,71,72,73,74,75,76,77,78,79,80,81,82,83,84,85,86,87,88,89,90,91,92,93,94,95,96,97,98] (fun b:Nat=>[(66,.f (I b))]) (fun b:Nat=>[none,some ⟨52,1,[.f (.fz 1 (Kp.map U))]⟩,none,ob 47 3 (lnkT Kp j),some ⟨56,1,[.f (U done)]⟩,some ⟨47,3,[.f (bestF Kp (rowL Kp done a o b))]⟩,some ⟨3,1,[.f (I (mostI Kp (rowL Kp done a o b)))]⟩]) (fun b:Nat=>b≤Kp.length) (fun b:Nat=>Kp.length-b) (0) (Nat.zero_le _) (by refine weak_of ?_ ?_<;>simp (disch:=omega) only [go_sem,Nat.reduceAdd]<;>first|rfl|exact ⟨rfl,rfl⟩|exact Or.inl rfl|exact ⟨Or.inl rfl,Or.inl rfl⟩|trivial|assumption|omega|(symm;assumption)|((repeat' apply And.intro)<;>first|rfl|omega|trivial|exact .inl rfl|exact .inr ⟨rfl,rfl⟩|exact .inr rfl|(right;symm;assumption)|(symm;assumption)|assumption)) ?_
      rintro b hb
      simp only [go_sem]
      (repeat (with_reducible first|refine W_seq fun K hK=>?_|refine J_region ?_ |refine J_c ?_|(refine Kont.go (by assumption) ?_)|(simp (config:={ maxSteps:=3000000 }) (disch:=omega) only [go_sem,Int.reduceNeg])))
      refine Jc_if (fun hbl=>?_) (fun hbl=>?_)<;>try simp only [decide_eq_true_eq,decide_eq_false_iff_not] at hbl
      ·have gb:=gk b hbl
       have ga:=gk a hak
       have h3:Kp.getD a 0&&&Kp.getD b 0<256:=and_lt (hKm a)
       have han:=u_and (hKm a) (hKm b)
       have hcl:=len_w h3
       have hli:=list_w h3
       have hhs:=has_w (v:=b) hd8 (by omega)
       obtain ⟨oc,hoc⟩:∃oc,oc=rowL Kp done a o b:=⟨_,rfl⟩
       have hnx:=rowL_next (K:=Kp) (done:=done) (a:=a) (o:=o) (x:=b)
       rw [←hoc] at hnx ⊢
       have hcn:(((els (Kp.getD a 0&&&Kp.getD b 0)).length:Nat):Int)=((cnt Kp a b:Nat):Int):=rfl
       rw [hcn] at hcl
       have e1:done.testBit b=true→stpB Kp done a oc b=oc:=fun h=>by unfold stpB;rw [if_neg (fun hh=>by rw [h] at hh;cases hh.1)]
       have e2:¬mostI Kp oc<cnt Kp a b→stpB Kp done a oc b=oc:=fun h=>by unfold stpB;rw [if_neg (fun hh=>h hh.2)]
       have e3:done.testBit b=false→mostI Kp oc<cnt Kp a b→stpB Kp done a oc b=some (a,b):=fun h h'=>by unfold stpB;rw [if_pos ⟨h,h'⟩]
       (repeat (with_reducible first|refine W_seq fun K hK=>?_|refine J_block ?_|refine J_skip ?_|refine J_region ?_ |(refine Kont.go (by assumption) ?_)|(simp (config:={ maxSteps:=3000000 }) (disch:=omega) only [go_sem,↓reduceIte,Int.reduceNeg,ga,gb,han])))
       (first|refine call_f (hcl) rfl ?_|refine callQ_f (hcl) rfl ?_|refine callHK_f (hcl) rfl ?_|refine callH_f (hcl) rfl ?_)
       (repeat (with_reducible first|refine W_seq fun K hK=>?_|refine J_region ?_ |(refine Kont.go (by assumption) ?_)|(simp (config:={ maxSteps:=3000000 }) (disch:=omega) only [go_sem,↓reduceIte,Int.reduceNeg])))
       (first|refine call_f (hhs) rfl ?_|refine callQ_f (hhs) rfl ?_|refine callHK_f (hhs) rfl ?_|refine callH_f (hhs) rfl ?_)
       cases hdt:done.testBit b with
       | true =>
        have e:=hnx.trans (e1 hdt)
        (repeat (with_reducible first|refine J_skip ?_|refine J_region ?_ |refine J_c ?_|refine Jc_false ?_|(refine Kont.go (by assumption) ?_)|(simp (config:={ maxSteps:=3000000 }) (disch:=omega) only [go_sem,Int.reduceNeg])))
        refine ⟨b+1,by omega,by omega,weak_of ?_ ?_⟩<;>(try simp (disch:=omega) only [go_sem,Nat.reduceAdd,e])<;>(try first|done|omega|rfl|exact ⟨rfl,rfl⟩|trivial)
       | false =>
        by_cases hc:mostI Kp oc<(cnt Kp a b:Int)
        ·have e:=hnx.trans (e3 hdt hc)
         have hlf:bestF Kp (some (a,b))=.agg [I (a:Int),I (b:Int),.fz 1 (Ns (els (Kp.getD a 0&&&Kp.getD b 0)))]:=rfl
         have hmf:mostI Kp (some (a,b))=(cnt Kp a b:Int):=rfl
         (repeat (with_reducible first|refine J_region ?_ |refine J_c ?_|refine Jc_true ?_|(refine Kont.go (by assumption) ?_)|(simp (config:={ maxSteps:=3000000 }) (disch:=omega) only [go_sem,↓reduceIte,Int.reduceNeg,hc,ga,han])))
         (first|refine call_f (hli) rfl ?_|refine callQ_f (hli) rfl ?_|refine callHK_f (hli) rfl ?_|refine callH_f (hli) rfl ?_)
         (repeat (with_reducible first|refine J_region ?_ |(refine Kont.go (by assumption) ?_)|(simp (config:={ maxSteps:=3000000 }) (disch:=omega) only [go_sem,Nat.reduceEqDiff,↓reduceIte,Nat.reduceAdd,Nat.reduceLeDiff,Int.reduceNeg])))
         refine ⟨b+1,by omega,by omega,weak_of ?_ ?_⟩<;>(try simp (disch:=omega) only [go_sem,Nat.reduceAdd,e,hlf,hmf])<;>(try first|done|omega|rfl|exact ⟨rfl,rfl⟩|trivial)
        ·have e:=hnx.trans (e2 hc)
         (repeat (with_reducible first|refine J_skip ?_|refine J_region ?_ |refine J_c ?_|refine Jc_false ?_|(refine Kont.go (by assumption) ?_)|(simp (config:={ maxSteps:=3000000 }) (disch:=omega) only [go_sem,↓reduceIte,Int.reduceNeg,hc])))
         refine ⟨b+1,by omega,by omega,weak_of ?_ ?_⟩<;>(try simp (disch:=omega) only [go_sem,Nat.reduceAdd,e])<;>(try first|done|omega|rfl|exact ⟨rfl,rfl⟩|trivial)
      ·have e:b=Kp.length:=by omega
       rw [e]
       have hrn:=rowsL_next (K:=Kp) (done:=done) (l:=(els done).take i) (a:=a)
       rw [←ho,htk] at hrn
       rw [←hrn]
       (repeat (with_reducible first|refine J_exit ?_|(simp (config:={ maxSteps:=3000000 }) (disch:=omega) only [go_sem,↓reduceIte,Int.reduceNeg])))
       refine rpost_n (weak_of ?_ ?_)<;>(try simp (disch:=omega) only [go_sem,Nat.reduceAdd])<;>(try first|done|omega|rfl|exact ⟨rfl,rfl⟩|trivial)
     ·have hel:((els done).map Int.ofNat).length=(els done).length:=by rw [List.length_map]
      have hB:=hT.best hK8 hjl
      rw [←hdn] at hB
      obtain ⟨q1,q2,q3,q4,q5⟩:=hB
      rw [hel,List.take_length,q1]
      have hap:lnkT Kp j++[lnkF Kp (bstL Kp done)]=lnkT Kp (j+1):=by
       unfold lnkT
       rw [show (trS Kp (j+1)).1=(trS Kp j).1++[bstL Kp done] by rw [hdn];rfl,List.map_append];rfl
      have hdn1:(trS Kp (j+1)).2=done|||bit (bstL Kp done).2:=by rw [hdn];rfl
      obtain ⟨p,hp⟩:∃p,p=bstL Kp done:=⟨_,rfl⟩
      rw [←hp] at hap hdn1 q2 q3 q4 q5 ⊢
      have hlf:bestF Kp (some p)=.agg [I (p.1:Int),I (p.2:Int),.fz 1 (Ns (els (Kp.getD p.1 0&&&Kp.getD p.2 0)))]:=rfl
      have hap':lnkT Kp j++[.agg [I (p.1:Int),I (p.2:Int),.fz 1 (Ns (els (Kp.getD p.1 0&&&Kp.getD p.2 0)))]]=lnkT Kp (j+1):=hap
      have hal:((lnkT Kp j).length+1)*40≤140737488355328:=by rw [hlj];omega
      have hsh:=u_shl (v:=p.2) (by omega)
      have hor:=u_or hd8 (bit_lt (v:=p.2) (by omega))
      simp only [go_sem]
      (repeat (first|(with_reducible first|refine W_seq fun K hK=>?_|refine J_region ?_ |refine J_drawn mixed (by kernel_rfl) ?_|refine aApp_sl ?_|(refine Kont.go (by assumption) ?_)|(simp (config:={ maxSteps:=3000000 }) (disch:=omega) only [go_sem,Nat.reduceEqDiff,↓reduceIte,Nat.reduceAdd,Nat.reduceLeDiff,Int.reduceNeg,hlf,hap',hsh,hor,hlj]))|refine And.intro (by omega) ?_))
      refine ⟨j+1,by omega,by omega,weak_of ?_ ?_⟩<;>(try simp (disch:=omega) only [go_sem,Nat.reduceAdd,hdn1])<;>(try first|done|omega|rfl|exact ⟨rfl,rfl⟩|trivial)
    ·have hj1:j=Kp.length-1:=by omega
     have hKm:∀v,Kp.getD v 0<256:=hKm0
     have hls:=lists_w hKm (by omega)
     have e1:vK=Kp:=by rw [hvK,hKe]
     have e2:vL=lnkT Kp j:=by rw [hvL];unfold trL;rw [hb,hKe,hj1];rfl
     have e3:vE=0:=by rw [hvE];unfold trE;rw [hb];rfl
     (repeat (with_reducible first|refine W_seq fun K hK=>?_|refine J_exit ?_|refine J_region ?_ |(refine Kont.go (by assumption) ?_)|(simp (config:={ maxSteps:=3000000 }) (disch:=omega) only [go_sem,↓reduceIte])))
     (first|refine call_f (hls) rfl ?_|refine callQ_f (hls) rfl ?_|refine callHK_f (hls) rfl ?_|refine callH_f (hls) rfl ?_)
     (repeat (with_reducible first|refine J_ret ?_|(refine Kont.go (by assumption) ?_)|(simp (config:={ maxSteps:=3000000 }) (disch:=omega) only [go_sem])))
     rw [e1,e2,e3]
     exact ⟨_,rfl,FrzL.cons (.f _) (FrzL.cons (.sl rfl) (FrzL.cons (.f _) (FrzL.nil _)))⟩
end Go.Proofs.YtgjnbcfencallaaDoor
set_option linter.unusedVariables false
set_option linter.unusedSimpArgs false
namespace Go.Proofs.YtgjnbcfencallaaDoor
open Go Go.RowKit
def inK (L:List (List Int)) (i k:Nat):Bool:=!decide (k=i)&&insB (L.getD i []) (L.getD k [])&&(decide ((L.getD i []).length<(L.getD k []).length)||decide (k<i))
def inT (L:List (List Int)) (i x:Nat):Bool:=(List.range x).any (inK L i)
def kpD (L:List (List Int)) (x:Nat):List FV:=((List.range x).filter fun i=>!inT L i L.length).map fun i=>ints (L.getD i [])
section
variable {L : List (List Int)} {i k x s t : Nat} {l m : List Int}
theorem inT_next:inT L i (x+1)=(inT L i x||inK L i x):=by unfold inT;rw [List.range_succ,List.any_append];simp
theorem kpD_next:kpD L (x+1)=kpD L x++if inT L x L.length=true then [] else [ints (L.getD x [])]:=by
 unfold kpD
 rw [List.range_succ,List.filter_append,List.map_append]
 congr 1
 cases h:inT L x L.length<;>simp [h]
theorem kpD_len:(kpD L x).length≤x:=by
 unfold kpD;rw [List.length_map];exact Nat.le_trans (List.length_filter_le _ _) (by simp)
theorem ins_dif (hl:risB 8 l=true) (hm:risB 8 m=true):insB l m=decide (dif (setI l) (setI m)=0):=by
 rw [Bool.eq_iff_iff,decide_eq_true_iff,dif_zero]
 unfold insB
 rw [List.all_eq_true]
 constructor
 ·intro h v hv
  rw [set_mem hl] at hv
  rw [set_mem hm]
  exact h _ (of_decide_eq_true hv)
 ·intro h x hx
  obtain ⟨j,hj,e⟩:=List.getElem_of_mem hx
  have h1:=(ris_nn (x:=l.length) (risB_iff.1 hl)).2 j hj
  rw [lget_lt l 0 hj,e] at h1
  have h2:=h x.toNat
  rw [set_mem hl,set_mem hm,Int.toNat_of_nonneg h1] at h2
  exact h2 (decide_eq_true hx)
theorem ris_len (h:risB 8 l=true):l.length=(els (setI l)).length:=by
 have:=congrArg List.length (ris_els (by decide) h)
 rw [List.length_map,Ns_len] at this;exact this
theorem els_sub (h:dif s t=0):els s=(els t).filter fun v=>s.testBit v:=by
 unfold els
 rw [List.filter_filter]
 refine List.filter_congr fun v _=>?_
 have:=dif_zero.1 h v
 cases hs:s.testBit v with
 | false=>rfl
 | true=>rw [this hs];rfl
theorem els_lt (hs:s<256) (ht:t<256) (h:dif s t=0):(els s).length<(els t).length↔s≠t:=by
 constructor
 ·rintro h1 rfl;omega
 ·intro hne
  rw [els_sub h]
  refine Nat.lt_of_le_of_ne (List.length_filter_le _ _) fun e=>hne ?_
  have:=List.length_filter_eq_length_iff.1 e
  refine ext_bits hs ht fun v hv=>?_
  cases h1:t.testBit v with
  | true=>exact this v (els_mem.2 ⟨hv,h1⟩)
  | false =>
   cases h2:s.testBit v with
   | false=>rfl
   | true=>rw [dif_zero.1 h v h2] at h1;cases h1
theorem bag_ris (hb:bagsB L=true) (h:i<L.length):risB 8 (L.getD i [])=true:=by
 rw [lget_lt L [] h]
 exact (Bool.and_eq_true_iff.1 ((bagsB_iff.1 hb).2 _ (List.getElem_mem h))).1
theorem bagS_get (h:i<L.length):(bagS L).getD i 0=setI (L.getD i []):=by
 rw [lget_lt _ 0 (by rw [bagS_len];exact h),lget_lt L [] h]
 simp [bagS]
theorem inK_iff (hb:bagsB L=true) (hi:i<L.length) (hk:k<L.length):inK L i k=true↔k≠i∧dif ((bagS L).getD i 0) ((bagS L).getD k 0)=0∧((bagS L).getD i 0≠(bagS L).getD k 0∨k<i):=by
 have h1:=bag_ris hb hi
 have h2:=bag_ris hb hk
 have hi8:=bagS_lt hb i
 have hk8:=bagS_lt hb k
 unfold inK
 rw [ins_dif h1 h2,ris_len h1,ris_len h2,←bagS_get hi,←bagS_get hk]
 simp only [Bool.and_eq_true,Bool.or_eq_true,decide_eq_true_eq,Bool.not_eq_true',decide_eq_false_iff_not]
 constructor
 ·rintro ⟨⟨a,b⟩,c⟩;exact ⟨a,b,c.imp (els_lt hi8 hk8 b).1 id⟩
 ·rintro ⟨a,b,c⟩;exact ⟨⟨a,b⟩,c.imp (els_lt hi8 hk8 b).2 id⟩
theorem inT_inO (hb:bagsB L=true) (hi:i<L.length):inT L i L.length=inO (bagS L) i:=by
 have hl:(bagS L).length=L.length:=bagS_len
 rw [Bool.eq_iff_iff]
 unfold inT inO inA inC
 rw [Bool.or_eq_true,List.any_eq_true,List.any_eq_true,List.any_eq_true]
 have gt:∀q,q<i→((bagS L).take i).getD q 0=(bagS L).getD q 0:=fun q hq=>by
  rw [List.getD_eq_getElem?_getD,List.getD_eq_getElem?_getD,List.getElem?_take,if_pos hq]
 have gd:∀q,((bagS L).drop (i+1)).getD q 0=(bagS L).getD (i+1+q) 0:=fun q=>by
  rw [List.getD_eq_getElem?_getD,List.getD_eq_getElem?_getD,List.getElem?_drop]
 constructor
 ·rintro ⟨k,hk,h⟩
  have hk:=List.mem_range.1 hk
  obtain ⟨h1,h2,h3⟩:=(inK_iff hb hi hk).1 h
  by_cases hki:k<i
  ·refine .inl ⟨k,List.mem_range.2 (by rw [List.length_take,hl];omega),?_⟩
   rw [gt k hki];exact decide_eq_true h2
  ·refine .inr ⟨k-(i+1),List.mem_range.2 (by rw [List.length_drop,hl];omega),?_⟩
   rw [gd,show i+1+(k-(i+1))=k by omega,decide_eq_true h2,decide_eq_false (h3.resolve_right hki)];rfl
 ·rintro (⟨q,hq,h⟩|⟨q,hq,h⟩)
  ·have hq:=List.mem_range.1 hq
   rw [List.length_take,hl] at hq
   rw [gt q (by omega)] at h
   exact ⟨q,List.mem_range.2 (by omega),(inK_iff hb hi (by omega)).2 ⟨by omega,of_decide_eq_true h,.inr (by omega)⟩⟩
  ·have hq:=List.mem_range.1 hq
   rw [List.length_drop,hl] at hq
   rw [gd,Bool.and_eq_true,decide_eq_true_iff,Bool.not_eq_true',decide_eq_false_iff_not] at h
   exact ⟨i+1+q,List.mem_range.2 (by omega),(inK_iff hb hi (by omega)).2 ⟨by omega,h.1,.inl h.2⟩⟩
theorem kpD_end (hb:bagsB L=true):kpD L L.length=gvs (trK L):=by
 unfold kpD trK gvs kpT
 rw [if_pos hb,List.map_map]
 have e:(List.range L.length).filter (fun i=>!inT L i L.length)=(List.range L.length).filter fun i=>!inO (bagS L) i :=
  List.filter_congr fun i hi=>by rw [inT_inO hb (List.mem_range.1 hi)]
 rw [e]
 refine List.map_congr_left fun i hi=>?_
 have hi:=List.mem_range.1 (List.mem_filter.1 hi).1
 show ints _=FV.fz 1 (Ns (els ((bagS L).getD i 0)))
 rw [bagS_get hi,←ris_els (by decide) (bag_ris hb hi)]
theorem comT_els:comT (els s) (els t) (els s).length=els (s&&&t):=by
 unfold comT
 rw [List.take_length]
 unfold els
 rw [List.filter_filter]
 refine List.filter_congr fun v hv=>?_
 rw [Nat.testBit_and,Bool.and_comm]
 congr 1
 rw [Bool.eq_iff_iff,decide_eq_true_iff]
 exact ⟨fun h=>(List.mem_filter.1 h).2,fun h=>List.mem_filter.2 ⟨hv,h⟩⟩
end
def roL (K:List Nat) (done a:Nat) (o:Option (Nat × Nat)) (b:Nat):Option (Nat × Nat):=if done.testBit a=true then rowL K done a o b else o
section
variable {K : List Nat} {done a b x : Nat} {o : Option (Nat × Nat)}
theorem roL_zero:roL K done a o 0=o:=by unfold roL;split<;>rfl
theorem roL_next:roL K done a o (b+1)=if done.testBit a=true∧done.testBit b=false∧mostI K (roL K done a o b)<cnt K a b then some (a,b) else roL K done a o b:=by
 unfold roL
 by_cases h:done.testBit a=true
 ·simp only [rowL_next,h,true_and];rfl
 ·rw [if_neg h,if_neg h,if_neg fun hh=>h hh.1]
theorem roL_end:rowsR K done (x+1)=roL K done x (rowsR K done x) K.length:=rowsR_next
theorem roL_ok:∀b,b≤K.length→LinkOk K done o→a<8→LinkOk K done (roL K done a o b):=fun b hb h ha=>by
 unfold roL
 split
 ·rename_i h1;exact rowL_ok h1 ha h b hb
 ·exact h
theorem rowsR_ok (hm:K.length≤8):∀x,x≤K.length→LinkOk K done (rowsR K done x):=by
 intro x
 induction x with
 | zero=>intro _;exact ⟨fun a b e=>by cases e⟩
 | succ x ih=>intro hx;rw [roL_end];exact roL_ok _ (Nat.le_refl _) (ih (by omega)) (by omega)
end
end Go.Proofs.YtgjnbcfencallaaDoor
