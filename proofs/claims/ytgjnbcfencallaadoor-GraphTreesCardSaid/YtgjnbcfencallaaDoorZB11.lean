/- Tree, the program's way: walked. Conditions: what slices may hold. -/
import Derived.Test.YtgjnbcfencallaaDoorZB10
set_option linter.unusedVariables false
set_option linter.unusedSimpArgs false
namespace Go.Proofs.YtgjnbcfencallaaDoor
open Go Go.RowKit
def trK (L:List (List Int)):List Nat:=if bagsB L=true then kpT (bagS L) L.length else []
def trE (L:List (List Int)):Int:=if bagsB L=true then 0 else 11
theorem kpT_len {S:List Nat} {x:Nat}:(kpT S x).length≤x:=by
 unfold kpT;rw [List.length_map];exact Nat.le_trans (List.length_filter_le _ _) (by simp)
theorem kpT_lt {S:List Nat} {x:Nat} (h:∀v,S.getD v 0<256) (v:Nat):(kpT S x).getD v 0<256:=by
 by_cases hv:v<(kpT S x).length
 ·rw [lget_lt _ 0 hv]
  obtain ⟨i,_,e⟩:=List.mem_map.1 (List.getElem_mem hv)
  have e':S.getD i 0=(kpT S x)[v]:=e
  rw [←e'];exact h i
 ·rw [List.getD_eq_getElem?_getD,List.getElem?_eq_none (by omega)];exact (by decide:0<256)
theorem bagS_lt {L:List (List Int)} (hb:bagsB L=true) (v:Nat):(bagS L).getD v 0<256:=by
 by_cases hv:v<L.length
 ·have hm:=(bagsB_iff.1 hb).2 _ (List.getElem_mem hv)
  have hr:risB 8 L[v]=true:=(Bool.and_eq_true_iff.1 hm).1
  have:=readS_lt (n:=8) (l:=L[v]) (by decide)
  rw [(readS_nil hr).1] at this
  rw [lget_lt _ 0 (by rw [bagS_len];exact hv)]
  simpa [bagS] using this
 ·rw [List.getD_eq_getElem?_getD,List.getElem?_eq_none (by rw [bagS_len];omega)];exact (by decide:0<256)
def lnkF (K:List Nat) (p:Nat × Nat):FV:=.agg [I (p.1:Int),I (p.2:Int),.fz 1 (Ns (els (K.getD p.1 0&&&K.getD p.2 0)))]
def bestF (K:List Nat):Option (Nat × Nat)→FV
 | none=>.agg [I (-1),I 0,nilV]
 | some p=>lnkF K p
def lnkT (K:List Nat) (j:Nat):List FV:=(trS K j).1.map (lnkF K)
def trL (L:List (List Int)):List FV:=if bagsB L=true then lnkT (trK L) ((trK L).length-1) else []
theorem lnkT_len {K:List Nat} {j:Nat}:(lnkT K j).length=j:=by
 unfold lnkT
 rw [List.length_map]
 induction j with
 | zero=>rfl
 | succ j ih=>show ((trS K j).1++[_]).length=_;rw [List.length_append,ih];rfl
set_option maxRecDepth 100000 in
set_option maxHeartbeats 8000000 in
theorem Tree_w (L:List (List Int)) (hL:OkIss L):Good Tryd.prog 22 [.fz 1 (L.map ints)] (.tup [.fz 1 (gvs (trK L)),.fz 3 (trL L),I (trE L)]):=by
 have hrs0:=read2_w L hL
 obtain ⟨vK,hvK⟩:∃vK,vK=trK L:=⟨_,rfl⟩
 obtain ⟨vE,hvE⟩:∃vE,vE=trE L:=⟨_,rfl⟩
 obtain ⟨vL,hvL⟩:∃vL,vL=trL L:=⟨_,rfl⟩
 rw [←hvK,←hvE,←hvL]
 refine good_of Tryd.func22 rfl (by kernel_rfl) fun X hO hrd=>?_;rw [Tryd.ntmps22,Tryd.results22];simp only [ast0,List.map_cons,List.map_nil,List.length_cons,List.length_nil,Nat.reduceAdd,Nat.reduceSub,List.replicate_succ,List.replicate_zero,List.cons_append,List.nil_append]
 (repeat (with_reducible first|refine W_seq fun K hK=>?_|refine J_region ?_ |(refine Kont.go (by assumption) ?_)|(simp (config:={ maxSteps:=3000000 }) (disch:=omega) only [go_sem])))
 refine call_ot hrs0 (FrzL.fs [_]) ?_
 cases hb:bagsB L with
 | false =>
  have e1:vK=[]:=by rw [hvK];unfold trK;rw [hb];rfl
  have e2:vL=[]:=by rw [hvL];unfold trL;rw [hb];rfl
  have e3:vE=11:=by rw [hvE];unfold trE;rw [hb];rfl
  have e4:bgR L=.f nilV:=by unfold bgR;rw [hb];rfl
  have g0:gvs []=[]:=rfl
  rw [e4]
  (repeat (with_reducible first|refine W_seq fun K hK=>?_|refine J_ret ?_|refine J_region ?_ |refine J_c ?_|refine Jc_true ?_|(refine Kont.go (by assumption) ?_)|(simp (config:={ maxSteps:=3000000 }) (disch:=omega) only [go_sem])))
  rw [e1,e2,e3,g0]
  exact ⟨_,rfl,FrzL.cons (.nil _) (FrzL.cons (.nil _) (FrzL.cons (.f _) (FrzL.nil _)))⟩
 | true =>
  obtain ⟨⟨h1,h8⟩,_⟩:=bagsB_iff.1 hb
  have e4:bgR L=.own 56 1 ((bagS L).map U):=by unfold bgR;rw [hb];rfl
  rw [e4]
  obtain ⟨S,hS⟩:∃S,S=bagS L:=⟨_,rfl⟩
  obtain ⟨n,hn⟩:∃n,n=L.length:=⟨_,rfl⟩
  rw [←hS]
  have hSl:S.length=n:=by rw [hS,bagS_len,hn]
  have hS8:∀v,S.getD v 0<256:=fun v=>by rw [hS];exact bagS_lt hb v
  (repeat (with_reducible first|refine W_seq fun K hK=>?_|refine J_skip ?_|((fail_if_success refine J_region (id:=4) ?_);refine J_region ?_) |refine J_c ?_|refine Jc_false ?_|(refine Kont.go (by assumption) ?_)|(simp (config:={ maxSteps:=3000000 }) (disch:=omega) only [go_sem,List.length_map,hSl])))
  refine J_freezeA (r:=0) (sz:=1) (l:=S.map U) rfl ?_
  simp only [go_sem]
  (repeat (with_reducible first|refine W_seq fun K hK=>?_|refine J_block ?_|refine J_region ?_ |(refine Kont.go (by assumption) ?_)|(simp (config:={ maxSteps:=3000000 }) (disch:=omega) only [go_sem,↓reduceIte,List.length_map,hSl])))
  refine J_reserve ?_
  have h0:[AV.f nilV]=[sl 2 1 ((kpT S 0).map U)]:=rfl
  simp only [go_sem]
  rw [h0]
  refine W_loop [8,9,10,28,29,30,31,32,33,34,35,36,37,38,39,40,41,42,43,44,45,46,47,48,49,50,51,52,53] (fun x:Nat=>[(28,.f (I x))]) (fun x:Nat=>[none,some ⟨52,1,[sl 2 1 ((kpT S x).map U)]⟩,ob 56 1 ((kpT S x).map U)]) (fun x:Nat=>x≤n) (fun x:Nat=>n-x) (0) (Nat.zero_le _) (by refine weak_of ?_ ?_<;>simp (disch:=omega) only [go_sem,Nat.reduceAdd]<;>first|rfl|exact ⟨rfl,rfl⟩|exact Or.inl rfl|exact ⟨Or.inl rfl,Or.inl rfl⟩|trivial|assumption|omega|(symm;assumption)|((repeat' apply And.intro)<;>first|rfl|omega|trivial|exact .inl rfl|exact .inr ⟨rfl,rfl⟩|exact .inr rfl|(right;symm;assumption)|(symm;assumption)|assumption)) ?_
  rintro x hx
  have hkl:=kpT_len (S:=S) (x:=x)
  simp only [go_sem]
  (repeat (with_reducible first|refine W_seq fun K hK=>?_|refine J_region ?_ |refine J_c ?_|(refine Kont.go (by assumption) ?_)|(simp (config:={ maxSteps:=3000000 }) (disch:=omega) only [go_sem])))
  refine Jc_if (fun hxn=>?_) (fun hxn=>?_)<;>try simp only [decide_eq_true_eq,decide_eq_false_iff_not] at hxn
  ·have gx:(S.map U)[x]?=some (U (S.getD x 0)):=sets_get (by omega)
   obtain ⟨s,hs⟩:∃s,s=S.getD x 0:=⟨_,rfl⟩
   have hs8:s<256:=by rw [hs];exact hS8 x
   rw [←hs] at gx
   have hgt:∀(l:List Nat),(∀v∈l,v<256)→∀q,q<l.length→l.getD q 0<256:=fun l hl q hq=>by rw [lget_lt l 0 hq];exact hl _ (List.getElem_mem hq)
   have hSm:∀v∈S,v<256:=fun v hv=>by obtain ⟨j,hj,rfl⟩:=List.getElem_of_mem hv;have:=hS8 j;rwa [lget_lt S 0 hj] at this
   have hc1:=containsFuncS_w (l:=S.take x) (g:=51) (a:=[]) (b:=[.fp (U s) 0]) (p:=fun q=>decide (dif (S.getD x 0) ((S.take x).getD q 0)=0)) (by rw [List.length_take];omega) (fun q hq=>by rw [←hs];exact tree1_w hs8 (hgt _ (fun v hv=>hSm v (List.mem_of_mem_take hv)) q hq))
   have hc2:=containsFuncS_w (l:=S.drop (x+1)) (g:=52) (a:=[]) (b:=[.fp (U s) 0]) (p:=fun q=>decide (dif (S.getD x 0) ((S.drop (x+1)).getD q 0)=0)&&!decide (S.getD x 0=(S.drop (x+1)).getD q 0)) (by rw [List.length_drop];omega) (fun q hq=>by rw [←hs];exact tree2_w hs8 (hgt _ (fun v hv=>hSm v (List.mem_of_mem_drop hv)) q hq))
   have ea:((List.range (S.take x).length).any fun q=>decide (dif (S.getD x 0) ((S.take x).getD q 0)=0))=inA S x:=rfl
   have ec:((List.range (S.drop (x+1)).length).any fun q=>decide (dif (S.getD x 0) ((S.drop (x+1)).getD q 0)=0)&&!decide (S.getD x 0=(S.drop (x+1)).getD q 0))=inC S x:=rfl
   rw [ea] at hc1
   rw [ec] at hc2
   have hsl1:List.take ((x:Int)-0).toNat (List.drop 0 (List.map U S))=(S.take x).map U:=by
    rw [List.drop_zero,List.map_take,Int.sub_zero,Int.toNat_natCast]
   have hkn:=kpT_next (S:=S) (x:=x)
   have hio:inO S x=(inA S x||inC S x):=rfl
   have hal:((kpT S x).length+1)*8≤140737488355328:=by omega
   have hsn:inO S x=false→(kpT S x).map U++[U s]=(kpT S (x+1)).map U:=fun h=>by
    rw [hkn,h,List.map_append,hs];rfl
   have hsy:inO S x=true→kpT S (x+1)=kpT S x:=fun h=>by rw [hkn,h];simp
   (repeat (first|(with_reducible first|refine W_seq fun K hK=>?_|refine J_block ?_|refine J_skip ?_|refine J_region ?_ |(refine Kont.go (by assumption) ?_)|(simp (config:={ maxSteps:=3000000 }) (disch:=omega) only [go_sem,↓reduceIte,Nat.reduceAdd,Int.reduceLE,gx,hSl,List.length_map,hsl1]))|refine And.intro (by omega) ?_))
   refine call_fl hc1 (.v _) (FrzL.cons (.f _) (FrzL.cons (Frz.fn _ _ _ _ _ rfl (fun j c d h=>by simp at h) rfl fun j cc d h h'=>?_) (FrzL.nil _))) ?_
   ·cases j with
    | zero=>cases h;cases h';exact Frz.ptr0 rfl rfl
    | succ j=>simp at h
   cases hA:inA S x with
   | true =>
    have hy:=hsy (by rw [hio,hA];rfl)
    (repeat (with_reducible first|refine W_seq fun K hK=>?_|refine J_skip ?_|refine J_region ?_ |refine J_c ?_|refine Jc_false ?_|(refine Kont.go (by assumption) ?_)|(simp (config:={ maxSteps:=3000000 }) (disch:=omega) only [go_sem])))
    refine ⟨x+1,by omega,by omega,weak_of ?_ ?_⟩<;>(try simp (disch:=omega) only [go_sem,Nat.reduceAdd,hy])<;>(try first|done|omega|rfl|exact ⟨rfl,rfl⟩|trivial)
   | false =>
    have hsl2:List.take ((n:Int)-((x:Int)+1)).toNat (List.drop ((x:Int)+1).toNat (List.map U S))=(S.drop (x+1)).map U:=by
     rw [show ((x:Int)+1).toNat=x+1 by omega,List.map_drop,List.take_of_length_le (by rw [List.length_drop,List.length_map];omega)]
    (repeat (first|(with_reducible first|refine W_seq fun K hK=>?_|refine J_region ?_ |(refine Kont.go (by assumption) ?_)|(simp (config:={ maxSteps:=3000000 }) (disch:=omega) only [go_sem,hSl,List.length_map,hsl2]))|refine And.intro (by omega) ?_))
    refine call_fl hc2 (.v _) (FrzL.cons (.f _) (FrzL.cons (Frz.fn _ _ _ _ _ rfl (fun j c d h=>by simp at h) rfl fun j cc d h h'=>?_) (FrzL.nil _))) ?_
    ·cases j with
     | zero=>cases h;cases h';exact Frz.ptr0 rfl rfl
     | succ j=>simp at h
    cases hC:inC S x with
    | true =>
     have hy:=hsy (by rw [hio,hA,hC];rfl)
     (repeat (with_reducible first|refine W_seq fun K hK=>?_|refine J_skip ?_|refine J_region ?_ |refine J_c ?_|refine Jc_false ?_|(refine Kont.go (by assumption) ?_)|(simp (config:={ maxSteps:=3000000 }) (disch:=omega) only [go_sem])))
     refine ⟨x+1,by omega,by omega,weak_of ?_ ?_⟩<;>(try simp (disch:=omega) only [go_sem,Nat.reduceAdd,hy])<;>(try first|done|omega|rfl|exact ⟨rfl,rfl⟩|trivial)
    | false =>
     have hy:=hsn (by rw [hio,hA,hC];rfl)
     (repeat (first|(with_reducible first|refine W_seq fun K hK=>?_|refine J_region ?_ |refine aApp_sl ?_|refine J_c ?_|refine Jc_true ?_|(refine Kont.go (by assumption) ?_)|(simp (config:={ maxSteps:=3000000 }) (disch:=omega) only [go_sem,Nat.reduceEqDiff,↓reduceIte,Nat.reduceAdd,Nat.reduceLeDiff,hal,hy]))|refine And.intro (by omega) ?_))
     refine ⟨x+1,by omega,by omega,weak_of ?_ ?_⟩<;>(try simp (disch:=omega) only [go_sem,Nat.reduceAdd])<;>(try first|done|omega|rfl|exact ⟨rfl,rfl⟩|trivial)
  ·have he:x=n:=by omega
   have hKe:trK L=kpT S x:=by unfold trK;rw [hb,←hS,←hn,he];rfl
   obtain ⟨Kp,hK⟩:∃Kp,Kp=kpT S x:=⟨_,rfl⟩
   rw [←hK] at hKe hkl ⊢
   have hK8:Kp.length≤8:=by omega
   have hKm0:∀v,Kp.getD v 0<256:=fun v=>by rw [hK];exact kpT_lt hS8 v
   have hKu:(Kp.map U).length=Kp.length:=List.length_map ..
   (repeat (with_reducible first|refine W_seq fun K hK=>?_|refine J_exit ?_|(refine Kont.go (by assumption) ?_)|(simp (config:={ maxSteps:=3000000 }) (disch:=omega) only [go_sem,↓reduceIte])))
   refine J_reserve ?_
   rcases Nat.eq_zero_or_pos Kp.length with hk0|hk0
   ·have hk:Kp=[]:=List.length_eq_zero_iff.1 hk0
    have e1:vK=[]:=by rw [hvK,hKe,hk]
    have e2:vL=[]:=by rw [hvL];unfold trL;rw [hb,hKe,hk];rfl
    have e3:vE=0:=by rw [hvE];unfold trE;rw [hb];rfl
    have hsn:sl 2 1 (Kp.map U)=.f nilV:=by rw [hk];rfl
    have hon:ob 56 1 (Kp.map U)=none:=by rw [hk];rfl
    have hls:=lists_w (S:=[]) (fun v=>by simp) (by simp)
    have g0:gvs []=[]:=rfl
    rw [hsn,hon]
    simp only [go_sem]
    (repeat (with_reducible first|refine W_seq fun K hK=>?_|refine J_block ?_|refine J_region ?_ |(refine Kont.go (by assumption) ?_)|(simp (config:={ maxSteps:=3000000 }) (disch:=omega) only [go_sem,↓reduceIte,Nat.reduceAdd])))
    refine W_loop [11,13,14,15,16,17,18,54,55,56,57,58,59,60,61,62,63,64,65,66,67,68,69,70,71,72,73,74,75,76,77,78,79,80,81,82,83,84,85,86,87,88,89,90,91,92,93,94,95,96,97,98,99,100,101,102,103,104,105,106,107] (fun j:Nat=>[(11,.f nilV)]) (fun j:Nat=>[none,some ⟨52,1,[.f nilV]⟩,none,none,some ⟨56,1,[.f (U 1)]⟩]) (fun j:Nat=>True) (fun j:Nat=>0) (0) (trivial) (by refine weak_of ?_ ?_<;>simp (disch:=omega) only [go_sem,Nat.reduceAdd]<;>first|rfl|exact ⟨rfl,rfl⟩|exact Or.inl rfl|exact ⟨Or.inl rfl,Or.inl rfl⟩|trivial|assumption|omega|(symm;assumption)|((repeat' apply And.intro)<;>first|rfl|omega|trivial|exact .inl rfl|exact .inr ⟨rfl,rfl⟩|exact .inr rfl|(right;symm;assumption)|(symm;assumption)|assumption)) ?_
    rintro j _
    simp only [go_sem,Nat.reduceLT]
    (repeat (with_reducible first|refine W_seq fun K hK=>?_|refine J_exit ?_|refine J_region ?_ |refine J_c ?_|refine Jc_false ?_|(refine Kont.go (by assumption) ?_)|(simp (config:={ maxSteps:=3000000 }) (disch:=omega) only [go_sem,↓reduceIte,Int.reduceLT,Int.reduceAdd])))
    refine .inl ⟨_,_,FrzL.cons (.nil _) (FrzL.nil _),hls,.inl (fun x hxm=>by rcases List.mem_singleton.1 hxm with rfl;exact ⟨_,rfl⟩),?_⟩
    (repeat (with_reducible first|refine J_ret ?_|(refine Kont.go (by assumption) ?_)|(simp (config:={ maxSteps:=3000000 }) (disch:=omega) only [go_sem])))
    rw [e1,e2,e3,g0]
    exact ⟨_,rfl,FrzL.cons (.f _) (FrzL.cons (.nil _) (FrzL.cons (.f _) (FrzL.nil _)))⟩
   ·have hne:Kp.map U≠[]:=fun e=>by have:=congrArg List.length e;rw [hKu] at this;have h0:([]:List FV).length=0:=rfl;omega
    have hsp:sl 2 1 (Kp.map U)=.own 2 1 0 Kp.length:=by rw [sl_pos hne,hKu]
    rw [hsp]
    refine J_freezeB (r:=2) (sz:=1) (l:=Kp.map U) rfl hne ?_
    simp only [go_sem,Nat.reduceEqDiff]
    (repeat (with_reducible first|refine W_seq fun K hK=>?_|refine J_block ?_|refine J_region ?_ |(refine Kont.go (by assumption) ?_)|(simp (config:={ maxSteps:=3000000 }) (disch:=omega) only [go_sem,↓reduceIte,Nat.reduceAdd])))
    have hl0:AV.f nilV=sl 3 3 (lnkT Kp 0):=rfl
    refine W_loop [11,13,14,15,16,17,18,54,55,56,57,58,59,60,61,62,63,64,65,66,67,68,69,70,71,72,73,74,75,76,77,78,79,80,81,82,83,84,85,86,87,88,89,90,91,92,93,94,95,96,97,98,99,100,101,102,103,104,105,106,107] (fun j:Nat=>[(11,sl 3 3 (lnkT Kp j))]) (fun j:Nat=>[none,some ⟨52,1,[.f (.fz 1 (Kp.map U))]⟩,none,ob 47 3 (lnkT Kp j),some ⟨56,1,[.f (U (trS Kp j).2)]⟩]) (fun j:Nat=>j=0∨j+1≤Kp.length) (fun j:Nat=>Kp.length-j) (0) (.inl rfl) (by refine weak_of ?_ ?_<;>simp (disch:=omega) only [go_sem,Nat.reduceAdd]<;>first|rfl|exact ⟨rfl,rfl⟩|exact Or.inl rfl|exact ⟨Or.inl rfl,Or.inl rfl⟩|trivial|assumption|omega|(symm;assumption)|((repeat' apply And.intro)<;>first|rfl|omega|trivial|exact .inl rfl|exact .inr ⟨rfl,rfl⟩|exact .inr rfl|(right;symm;assumption)|(symm;assumption)|assumption)) ?_
    rintro j hj
    have hlj:=lnkT_len (K:=Kp) (j:=j)
    simp only [go_sem]
    (repeat (with_reducible first|refine W_seq fun K hK=>?_|refine J_region ?_ |refine J_c ?_|(refine Kont.go (by assumption) ?_)|(simp (config:={ maxSteps:=3000000 }) (disch:=omega) only [go_sem,↓reduceIte,hKu,hlj])))
    refine Jc_if (fun hjk=>?_) (fun hjk=>?_)<;>try simp only [decide_eq_true_eq,decide_eq_false_iff_not] at hjk
    ·have hjl:j+1<Kp.length:=by omega
     have hT:=TrOk.all (K:=Kp) (by omega) hK8 j (by omega)
     obtain ⟨done,hdn⟩:∃done,done=(trS Kp j).2:=⟨_,rfl⟩
     have hd8:done<256:=by rw [hdn];exact hT.lt
     rw [←hdn]
     have hit:=all_iter done hd8
     have hKm:∀v,Kp.getD v 0<256:=hKm0
     have hdb:∀u,done.testBit u=true→u<Kp.length:=fun u hu=>hT.below u (by rw [←hdn];exact hu)
     (repeat (with_reducible first|refine W_seq fun K hK=>?_|refine J_block ?_|refine J_skip ?_|refine J_region ?_ |(refine Kont.go (by assumption) ?_)|(simp (config:={ maxSteps:=3000000 }) (disch:=omega) only [go_sem,Nat.reduceEqDiff,↓reduceIte,Nat.reduceAdd,Nat.reduceLeDiff,Int.reduceNeg])))
     refine J_rangeW hrd [15,16,17,18,63,64,65,66,67,68,69,70,71,72,73,74,75,76,77,78,79,80,81,82,83,84,85,86,87,88,89,90,91,92,93,94,95,96,97,98] (fun i=>[none,some ⟨52,1,[.f (.fz 1 (Kp.map U))]⟩,none,ob 47 3 (lnkT Kp j),some ⟨56,1,[.f (U done)]⟩,some ⟨47,3,[.f (bestF Kp (rowsL Kp done ((els done).take i)))]⟩,some ⟨3,1,[.f (I (mostI Kp (rowsL Kp done ((els done).take i))))]⟩]) rfl (hit) (by kernel_rfl) (by refine weak_of ?_ ?_<;>simp (disch:=omega) only [go_sem,Nat.reduceAdd]<;>first|rfl|exact ⟨rfl,rfl⟩|trivial|((repeat' apply And.intro)<;>first|rfl|trivial|exact .inl rfl|exact .inr ⟨rfl,rfl⟩|exact .inr rfl)) (by decide) (by kernel_rfl) (by kernel_rfl) ?_ ?_
     ·rintro i y hy X1 hX1 K hK
      obtain ⟨a,rfl,ha8,hda,hai,htk⟩:=els_take hy
      have hak:=hdb a hda
      have gk:∀v,v<Kp.length→(Kp.map U)[v]?=some (U (Kp.getD v 0)):=fun v hv=>sets_get hv
      obtain ⟨o,ho⟩:∃o,o=rowsL Kp done ((els done).take i):=⟨_,rfl⟩
      rw [←ho]
      simp only [go_sem]
      (repeat (with_reducible first|refine J_region ?_ |(refine Kont.go (by assumption) ?_)|(simp (config:={ maxSteps:=3000000 }) (disch:=omega) only [go_sem,Int.reduceNeg])))
      intro X2 hX2
      (repeat (with_reducible first|refine W_seq fun K hK=>?_|refine J_block ?_|refine J_region ?_ |(refine Kont.go (by assumption) ?_)|(simp (config:={ maxSteps:=3000000 }) (disch:=omega) only [go_sem,↓reduceIte,Int.reduceNeg,hKu])))
      have hz:rowL Kp done a o 0=o:=rfl
      rw [←hz]
      refine W_loop [16,17,18,66,67,68,69,70,71,72,73,74,75,76,77,78,79,80,81,82,83,84,85,86,87,88,89,90,91,92,93,94,95,96,97,98] (fun b:Nat=>[(66,.f (I b))]) (fun b:Nat=>[none,some ⟨52,1,[.f (.fz 1 (Kp.map U))]⟩,none,ob 47 3 (lnkT Kp j),some ⟨56,1,[.f (U done)]⟩,some ⟨47,3,[.f (bestF Kp (rowL Kp done a o b))]⟩,some ⟨3,1,[.f (I (mostI Kp (rowL Kp done a o b)))]⟩]) (fun b:Nat=>b≤Kp.length) (fun b:Nat=>Kp.length-b) (0) (Nat.zero_le _) (by refine weak_of ?_ ?_<;>simp (disch:=omega) only [go_sem,Nat.reduceAdd]<;>first|rfl|exact ⟨rfl,rfl⟩|exact Or.inl rfl|exact ⟨Or.inl rfl,Or.inl rfl⟩|trivial|assumption|omega|(symm;assumption)|((repeat' apply And.intro)<;>first|rfl|omega|trivial|exact .inl rfl|exact .inr ⟨rfl,rfl⟩|exact .inr rfl|(right;symm;assumption)|(symm;assumption)|assumption)) ?_
      rintro b hb
      simp only [go_sem]
      (repeat (with_reducible first|refine W_seq fun K hK=>?_|refine J_region ?_ |refine J_c ?_|(refine Kont.go (by assumption) ?_)|(simp (config:={ maxSteps:=3000000 }) (disch:=omega) only [go_sem,Int.reduceNeg])))
      refine Jc_if (fun hbl=>?_) (fun hbl=>?_)<;>try simp only [decide_eq_true_eq,decide_eq_false_iff_not] at hbl
      ·have gb:=gk b hbl
       have ga:=gk a hak
       have h3:Kp.getD a 0&&&Kp.getD b 0<256:=and_lt (hKm a)
       have han:=u_and (hKm a) (hKm b)
       have hcl:=len_w h3
       have hli:=list_w h3
       have hhs:=has_w (v:=b) hd8 (by omega)
       obtain ⟨oc,hoc⟩:∃oc,oc=rowL Kp done a o b:=⟨_,rfl⟩
       have hnx:=rowL_next (K:=Kp) (done:=done) (a:=a) (o:=o) (x:=b)
       rw [←hoc] at hnx ⊢
       have hcn:(((els (Kp.getD a 0&&&Kp.getD b 0)).length:Nat):Int)=((cnt Kp a b:Nat):Int):=rfl
       rw [hcn] at hcl
       have e1:done.testBit b=true→stpB Kp done a oc b=oc:=fun h=>by unfold stpB;rw [if_neg (fun hh=>by rw [h] at hh;cases hh.1)]
       have e2:¬mostI Kp oc<cnt Kp a b→stpB Kp done a oc b=oc:=fun h=>by unfold stpB;rw [if_neg (fun hh=>h hh.2)]
       have e3:done.testBit b=false→mostI Kp oc<cnt Kp a b→stpB Kp done a oc b=some (a,b):=fun h h'=>by unfold stpB;rw [if_pos ⟨h,h'⟩]
       (repeat (with_reducible first|refine W_seq fun K hK=>?_|refine J_block ?_|refine J_skip ?_|refine J_region ?_ |(refine Kont.go (by assumption) ?_)|(simp (config:={ maxSteps:=3000000 }) (disch:=omega) only [go_sem,↓reduceIte,Int.reduceNeg,ga,gb,han])))
       (first|refine call_f (hcl) rfl ?_|refine callQ_f (hcl) rfl ?_|refine callHK_f (hcl) rfl ?_|refine callH_f (hcl) rfl ?_)
       (repeat (with_reducible first|refine W_seq fun K hK=>?_|refine J_region ?_ |(refine Kont.go (by assumption) ?_)|(simp (config:={ maxSteps:=3000000 }) (disch:=omega) only [go_sem,↓reduceIte,Int.reduceNeg])))
       (first|refine call_f (hhs) rfl ?_|refine callQ_f (hhs) rfl ?_|refine callHK_f (hhs) rfl ?_|refine callH_f (hhs) rfl ?_)
       cases hdt:done.testBit b with
       | true =>
        have e:=hnx.trans (e1 hdt)
        (repeat (with_reducible first|refine J_skip ?_|refine J_region ?_ |refine J_c ?_|refine Jc_false ?_|(refine Kont.go (by assumption) ?_)|(simp (config:={ maxSteps:=3000000 }) (disch:=omega) only [go_sem,Int.reduceNeg])))
        refine ⟨b+1,by omega,by omega,weak_of ?_ ?_⟩<;>(try simp (disch:=omega) only [go_sem,Nat.reduceAdd,e])<;>(try first|done|omega|rfl|exact ⟨rfl,rfl⟩|trivial)
       | false =>
        by_cases hc:mostI Kp oc<(cnt Kp a b:Int)
        ·have e:=hnx.trans (e3 hdt hc)
         have hlf:bestF Kp (some (a,b))=.agg [I (a:Int),I (b:Int),.fz 1 (Ns (els (Kp.getD a 0&&&Kp.getD b 0)))]:=rfl
         have hmf:mostI Kp (some (a,b))=(cnt Kp a b:Int):=rfl
         (repeat (with_reducible first|refine J_region ?_ |refine J_c ?_|refine Jc_true ?_|(refine Kont.go (by assumption) ?_)|(simp (config:={ maxSteps:=3000000 }) (disch:=omega) only [go_sem,↓reduceIte,Int.reduceNeg,hc,ga,han])))
         (first|refine call_f (hli) rfl ?_|refine callQ_f (hli) rfl ?_|refine callHK_f (hli) rfl ?_|refine callH_f (hli) rfl ?_)
         (repeat (with_reducible first|refine J_region ?_ |(refine Kont.go (by assumption) ?_)|(simp (config:={ maxSteps:=3000000 }) (disch:=omega) only [go_sem,Nat.reduceEqDiff,↓reduceIte,Nat.reduceAdd,Nat.reduceLeDiff,Int.reduceNeg])))
         refine ⟨b+1,by omega,by omega,weak_of ?_ ?_⟩<;>(try simp (disch:=omega) only [go_sem,Nat.reduceAdd,e,hlf,hmf])<;>(try first|done|omega|rfl|exact ⟨rfl,rfl⟩|trivial)
        ·have e:=hnx.trans (e2 hc)
         (repeat (with_reducible first|refine J_skip ?_|refine J_region ?_ |refine J_c ?_|refine Jc_false ?_|(refine Kont.go (by assumption) ?_)|(simp (config:={ maxSteps:=3000000 }) (disch:=omega) only [go_sem,↓reduceIte,Int.reduceNeg,hc])))
         refine ⟨b+1,by omega,by omega,weak_of ?_ ?_⟩<;>(try simp (disch:=omega) only [go_sem,Nat.reduceAdd,e])<;>(try first|done|omega|rfl|exact ⟨rfl,rfl⟩|trivial)
      ·have e:b=Kp.length:=by omega
       rw [e]
       have hrn:=rowsL_next (K:=Kp) (done:=done) (l:=(els done).take i) (a:=a)
       rw [←ho,htk] at hrn
       rw [←hrn]
       (repeat (with_reducible first|refine J_exit ?_|(simp (config:={ maxSteps:=3000000 }) (disch:=omega) only [go_sem,↓reduceIte,Int.reduceNeg])))
       refine rpost_n (weak_of ?_ ?_)<;>(try simp (disch:=omega) only [go_sem,Nat.reduceAdd])<;>(try first|done|omega|rfl|exact ⟨rfl,rfl⟩|trivial)
     ·have hel:((els done).map Int.ofNat).length=(els done).length:=by rw [List.length_map]
      have hB:=hT.best hK8 hjl
      rw [←hdn] at hB
      obtain ⟨q1,q2,q3,q4,q5⟩:=hB
      rw [hel,List.take_length,q1]
      have hap:lnkT Kp j++[lnkF Kp (bstL Kp done)]=lnkT Kp (j+1):=by
       unfold lnkT
       rw [show (trS Kp (j+1)).1=(trS Kp j).1++[bstL Kp done] by rw [hdn];rfl,List.map_append];rfl
      have hdn1:(trS Kp (j+1)).2=done|||bit (bstL Kp done).2:=by rw [hdn];rfl
      obtain ⟨p,hp⟩:∃p,p=bstL Kp done:=⟨_,rfl⟩
      rw [←hp] at hap hdn1 q2 q3 q4 q5 ⊢
      have hlf:bestF Kp (some p)=.agg [I (p.1:Int),I (p.2:Int),.fz 1 (Ns (els (Kp.getD p.1 0&&&Kp.getD p.2 0)))]:=rfl
      have hap':lnkT Kp j++[.agg [I (p.1:Int),I (p.2:Int),.fz 1 (Ns (els (Kp.getD p.1 0&&&Kp.getD p.2 0)))]]=lnkT Kp (j+1):=hap
      have hal:((lnkT Kp j).length+1)*40≤140737488355328:=by rw [hlj];omega
      have hsh:=u_shl (v:=p.2) (by omega)
      have hor:=u_or hd8 (bit_lt (v:=p.2) (by omega))
      simp only [go_sem]
      (repeat (first|(with_reducible first|refine W_seq fun K hK=>?_|refine J_region ?_ |refine J_drawn mixed (by kernel_rfl) ?_|refine aApp_sl ?_|(refine Kont.go (by assumption) ?_)|(simp (config:={ maxSteps:=3000000 }) (disch:=omega) only [go_sem,Nat.reduceEqDiff,↓reduceIte,Nat.reduceAdd,Nat.reduceLeDiff,Int.reduceNeg,hlf,hap',hsh,hor,hlj]))|refine And.intro (by omega) ?_))
      refine ⟨j+1,by omega,by omega,weak_of ?_ ?_⟩<;>(try simp (disch:=omega) only [go_sem,Nat.reduceAdd,hdn1])<;>(try first|done|omega|rfl|exact ⟨rfl,rfl⟩|trivial)
    ·have hj1:j=Kp.length-1:=by omega
     have hKm:∀v,Kp.getD v 0<256:=hKm0
     have hls:=lists_w hKm (by omega)
     have e1:vK=Kp:=by rw [hvK,hKe]
     have e2:vL=lnkT Kp j:=by rw [hvL];unfold trL;rw [hb,hKe,hj1];rfl
     have e3:vE=0:=by rw [hvE];unfold trE;rw [hb];rfl
     (repeat (with_reducible first|refine W_seq fun K hK=>?_|refine J_exit ?_|refine J_region ?_ |(refine Kont.go (by assumption) ?_)|(simp (config:={ maxSteps:=3000000 }) (disch:=omega) only [go_sem,↓reduceIte])))
     (first|refine call_f (hls) rfl ?_|refine callQ_f (hls) rfl ?_|refine callHK_f (hls) rfl ?_|refine callH_f (hls) rfl ?_)
     (repeat (with_reducible first|refine J_ret ?_|(refine Kont.go (by assumption) ?_)|(simp (config:={ maxSteps:=3000000 }) (disch:=omega) only [go_sem])))
     rw [e1,e2,e3]
     exact ⟨_,rfl,FrzL.cons (.f _) (FrzL.cons (.sl rfl) (FrzL.cons (.f _) (FrzL.nil _)))⟩
end Go.Proofs.YtgjnbcfencallaaDoor
set_option linter.unusedVariables false
set_option linter.unusedSimpArgs false
namespace Go.Proofs.YtgjnbcfencallaaDoor
open Go Go.RowKit
section
variable {L : List (List Int)} {i k x s t : Nat} {l m : List Int}
theorem els_sub (h:dif s t=0):els s=(els t).filter fun v=>s.testBit v:=by
 unfold els
 rw [List.filter_filter]
 refine List.filter_congr fun v _=>?_
 have:=dif_zero.1 h v
 cases hs:s.testBit v with
 | false=>rfl
 | true=>rw [this hs];rfl
theorem els_lt (hs:s<256) (ht:t<256) (h:dif s t=0):(els s).length<(els t).length↔s≠t:=by
 constructor
 ·rintro h1 rfl;omega
 ·intro hne
  rw [els_sub h]
  refine Nat.lt_of_le_of_ne (List.length_filter_le _ _) fun e=>hne ?_
  have:=List.length_filter_eq_length_iff.1 e
  refine ext_bits hs ht fun v hv=>?_
  cases h1:t.testBit v with
  | true=>exact this v (els_mem.2 ⟨hv,h1⟩)
  | false =>
   cases h2:s.testBit v with
   | false=>rfl
   | true=>rw [dif_zero.1 h v h2] at h1;cases h1
end
section
variable {K : List Nat} {done a b x : Nat} {o : Option (Nat × Nat)}
end
end Go.Proofs.YtgjnbcfencallaaDoor
set_option linter.unusedVariables false
set_option linter.unusedSimpArgs false
namespace Go.Proofs.YtgjnbcfencallaaDoor
open Go Go.RowKit
def Sb (s t:Nat):Prop:=∀v,s.testBit v=true→t.testBit v=true
theorem Sb.refl (s:Nat):Sb s s:=fun _ h=>h
theorem Sb.trans {s t u:Nat} (h:Sb s t) (h':Sb t u):Sb s u:=fun v hv=>h' v (h v hv)
theorem Sb.and {s t u:Nat} (h:Sb s t) (h':Sb s u):Sb s (t&&&u):=fun v hv=>by rw [Nat.testBit_and,h v hv,h' v hv];rfl
theorem and_bit {s t v:Nat}:(s&&&t).testBit v=true↔s.testBit v=true∧t.testBit v=true:=by rw [Nat.testBit_and,Bool.and_eq_true]
theorem Sb.left (s t:Nat):Sb (s&&&t) s:=fun v h=>(and_bit.1 h).1
theorem Sb.right (s t:Nat):Sb (s&&&t) t:=fun v h=>(and_bit.1 h).2
inductive Cn (E : List (Nat × Nat)) (T : Nat) : Nat → Nat → Prop
  | refl {a : Nat} (h : Sb T a) : Cn E T a a
  | step {a b c : Nat} (h : Cn E T a b) (he : (b, c) ∈ E ∨ (c, b) ∈ E) (hc : Sb T c) : Cn E T a c
section
variable {E E' H : List (Nat × Nat)} {T T' a b c d : Nat}
theorem Cn.right (h:Cn E T a b):Sb T b:=by cases h with|refl h=>exact h|step _ _ h=>exact h
theorem Cn.left (h:Cn E T a b):Sb T a:=by
 induction h with
 | refl h=>exact h
 | step _ _ _ ih=>exact ih
theorem Cn.trans (h:Cn E T a b) (h':Cn E T b c):Cn E T a c:=by
 induction h' with
 | refl _=>exact h
 | step _ he hc ih=>exact .step ih he hc
theorem Cn.symm (h:Cn E T a b):Cn E T b a:=by
 induction h with
 | refl h=>exact .refl h
 | step h he hc ih=>exact (Cn.step (.refl hc) he.symm h.right).trans ih
theorem Cn.mono (h:Cn E T a b) (hE:∀p∈E,p∈E') (hT:Sb T' T):Cn E' T' a b:=by
 induction h with
 | refl h=>exact .refl (hT.trans h)
 | step h he hc ih=>exact .step ih (he.imp (hE _) (hE _)) (hT.trans hc)
theorem Cn.subst (h:Cn E T a b) (hE:∀c d,(c,d)∈E→Sb T c→Sb T d→Cn E' T c d):Cn E' T a b:=by
 induction h with
 | refl h=>exact .refl h
 | step h he hc ih=>exact ih.trans (he.elim (fun he=>hE _ _ he h.right hc) fun he=>(hE _ _ he hc h.right).symm)
theorem Cn.inv {p:Nat→Prop} (h:Cn E T a b) (hE:∀q∈E,(p q.1↔p q.2)):p a→p b:=by
 induction h with
 | refl h=>exact id
 | step h he hc ih=>exact fun hp=>he.elim (fun he=>(hE _ he).1 (ih hp)) fun he=>(hE _ he).2 (ih hp)
theorem Cn.map {r:Nat→Nat} (h:Cn E T a b) (hr:∀z,Sb T z→Sb T (r z)):Cn (E.map fun p=>(r p.1,r p.2)) T (r a) (r b):=by
 induction h with
 | refl h=>exact .refl (hr _ h)
 | step h he hc ih=>exact .step ih (he.imp (fun h=>List.mem_map.2 ⟨_,h,rfl⟩) fun h=>List.mem_map.2 ⟨_,h,rfl⟩) (hr _ hc)
theorem Cn.one (h:Cn (H++[(c,d)]) T a b):Cn H T a b∨(Cn H T a c∧Cn H T d b)∨(Cn H T a d∧Cn H T c b):=by
 induction h with
 | refl h=>exact .inl (.refl h)
 | step h he hc ih =>
  rename_i e f
  have old:((e,f)∈H∨(f,e)∈H)→Cn H T a f∨(Cn H T a c∧Cn H T d f)∨(Cn H T a d∧Cn H T c f):=fun ho=>by
   rcases ih with h1|⟨h1,h2⟩|⟨h1,h2⟩
   ·exact .inl (.step h1 ho hc)
   ·exact .inr (.inl ⟨h1,.step h2 ho hc⟩)
   ·exact .inr (.inr ⟨h1,.step h2 ho hc⟩)
  rcases he with he|he<;>rcases List.mem_append.1 he with he|he
  ·exact old (.inl he)
  ·obtain ⟨rfl,rfl⟩:=Prod.mk.inj (List.mem_singleton.1 he)
   rcases ih with h1|⟨h1,h2⟩|⟨h1,h2⟩
   ·exact .inr (.inl ⟨h1,.refl hc⟩)
   ·exact .inr (.inl ⟨h1,.refl hc⟩)
   ·exact .inl h1
  ·exact old (.inr he)
  ·obtain ⟨rfl,rfl⟩:=Prod.mk.inj (List.mem_singleton.1 he)
   rcases ih with h1|⟨h1,h2⟩|⟨h1,h2⟩
   ·exact .inr (.inr ⟨h1,.refl hc⟩)
   ·exact .inl h1
   ·exact .inr (.inr ⟨h1,.refl hc⟩)
theorem Cn.pivot:∀{G H:List (Nat × Nat)},Cn (H++G) T a b→¬Cn H T a b→∃P c d Q,G=P++(c,d)::Q∧((Cn (H++P) T a c∧Cn (H++P) T d b)∨(Cn (H++P) T a d∧Cn (H++P) T c b)):=by
 intro G
 induction G with
 | nil=>intro H h hn;rw [List.append_nil] at h;exact absurd h hn
 | cons g G ih =>
  intro H h hn
  obtain ⟨c,d⟩:=g
  by_cases h1:Cn (H++[(c,d)]) T a b
  ·refine ⟨[],c,d,G,rfl,?_⟩
   rw [List.append_nil]
   exact h1.one.resolve_left hn
  ·rw [show H++(c,d)::G=(H++[(c,d)])++G by rw [List.append_assoc];rfl] at h
   obtain ⟨P,c',d',Q,e,hh⟩:=ih h h1
   refine ⟨(c,d)::P,c',d',Q,by rw [e];rfl,?_⟩
   rw [show H++(c,d)::P=(H++[(c,d)])++P by rw [List.append_assoc];rfl]
   exact hh
end
structure Rip (K : List Nat) (E : List (Nat × Nat)) : Prop where
  cn : ∀ x ∈ K, ∀ y ∈ K, Cn E (x &&& y) x y
  ends : ∀ p ∈ E, p.1 ∈ K ∧ p.2 ∈ K
  len : E.length + 1 = K.length
theorem splitE (D:Nat→Prop):∀G:List (Nat × Nat),∃G1 G2:List (Nat × Nat),(∀p∈G1,(D p.1↔D p.2))∧(∀p∈G2,¬(D p.1↔D p.2))∧(∀p,p∈G↔p∈G1∨p∈G2)∧G1.length+G2.length=G.length:=by
 intro G
 induction G with
 | nil=>exact ⟨[],[],by simp,by simp,by simp,rfl⟩
 | cons g G ih =>
  obtain ⟨G1,G2,h1,h2,h3,h4⟩:=ih
  by_cases h:D g.1↔D g.2
  ·refine ⟨g::G1,G2,fun p hp=>?_,h2,fun p=>?_,by simp;omega⟩
   ·rcases List.mem_cons.1 hp with rfl|hp
    ·exact h
    ·exact h1 p hp
   ·rw [List.mem_cons,List.mem_cons,h3,or_assoc]
  ·refine ⟨G1,g::G2,h1,fun p hp=>?_,fun p=>?_,by simp;omega⟩
   ·rcases List.mem_cons.1 hp with rfl|hp
    ·exact h
    ·exact h2 p hp
   ·rw [List.mem_cons,List.mem_cons,h3]
    exact ⟨fun h=>h.elim (fun h=>.inr (.inl h)) fun h=>h.elim .inl fun h=>.inr (.inr h),fun h=>h.elim (fun h=>.inr (.inl h)) fun h=>h.elim .inl fun h=>.inr (.inr h)⟩
theorem exchange {K:List Nat} {F G:List (Nat × Nat)} (D:Nat→Prop) (h:Rip K (F++G)) (hF:∀p∈F,D p.1∧D p.2) {a b:Nat} (ha:a∈K) (hb:b∈K) (hDa:D a) (hDb:¬D b)
  (hbest:∀c∈K,∀d∈K,D c→¬D d→Sb (a&&&b) (c&&&d)→Sb (c&&&d) (a&&&b)):∃G',Rip K (F++(a,b)::G'):=by
 obtain ⟨G1,G2,h1,h2,h3,h4⟩:=splitE D G
 have hc:=h.cn a ha b hb
 have hc1:Cn ((F++G1)++G2) (a&&&b) a b:=hc.mono (fun p hp=>by
  rcases List.mem_append.1 hp with hp|hp
  ·exact List.mem_append_left _ (List.mem_append_left _ hp)
  ·rcases (h3 p).1 hp with hp|hp
   ·exact List.mem_append_left _ (List.mem_append_right _ hp)
   ·exact List.mem_append_right _ hp) (Sb.refl _)
 have hn:¬Cn (F++G1) (a&&&b) a b:=fun hh=>hDb (hh.inv (p:=D) (fun q hq=>by
  rcases List.mem_append.1 hq with hq|hq
  ·exact ⟨fun _=>(hF q hq).2,fun _=>(hF q hq).1⟩
  ·exact h1 q hq) hDa)
 obtain ⟨P,c,d,Q,hG2,hw⟩:=Cn.pivot hc1 hn
 have hcd2:(c,d)∈G2:=by rw [hG2];simp
 have hcd:(c,d)∈F++G:=List.mem_append_right _ ((h3 _).2 (.inr hcd2))
 obtain ⟨hcK,hdK⟩:=h.ends _ hcd
 have hcr:=h2 _ hcd2
 have hTc:Sb (a&&&b) c:=by rcases hw with ⟨w1,w2⟩|⟨w1,w2⟩;exact w1.right;exact w2.left
 have hTd:Sb (a&&&b) d:=by rcases hw with ⟨w1,w2⟩|⟨w1,w2⟩;exact w2.left;exact w1.right
 have hle:Sb (c&&&d) (a&&&b):=by
  by_cases e:D c
  ·exact hbest c hcK d hdK e (fun hd=>hcr ⟨fun _=>hd,fun _=>e⟩) (hTc.and hTd)
  ·have hd:D d:=Classical.byContradiction fun hd=>hcr ⟨fun h=>absurd h e,fun h=>absurd h hd⟩
   have:=hbest d hdK c hcK hd e (hTd.and hTc)
   rwa [Nat.and_comm d c] at this
 have sub:∀p,p∈(F++G1)++P→p∈F++(a,b)::(G1++(P++Q)):=fun p hp=>by
  rcases List.mem_append.1 hp with hp|hp
  ·rcases List.mem_append.1 hp with hp|hp
   ·exact List.mem_append_left _ hp
   ·exact List.mem_append_right _ (List.mem_cons_of_mem _ (List.mem_append_left _ hp))
  ·exact List.mem_append_right _ (List.mem_cons_of_mem _ (List.mem_append_right _ (List.mem_append_left _ hp)))
 have key:∀T',Sb T' (a&&&b)→Cn (F++(a,b)::(G1++(P++Q))) T' c d:=fun T' hT=>by
  have hab:Cn (F++(a,b)::(G1++(P++Q))) T' a b:=.step (.refl (hT.trans (Sb.left _ _))) (.inl (by simp)) (hT.trans (Sb.right _ _))
  rcases hw with ⟨w1,w2⟩|⟨w1,w2⟩
  ·exact ((w1.mono sub hT).symm.trans hab).trans (w2.mono sub hT).symm
  ·exact (((w1.mono sub hT).symm.trans hab).trans (w2.mono sub hT).symm).symm
 refine ⟨G1++(P++Q),fun x hx y hy=>(h.cn x hx y hy).subst fun e f hef hTe hTf=>?_,fun p hp=>?_,?_⟩
 ·have direct:(e,f)∈F++(a,b)::(G1++(P++Q))→Cn (F++(a,b)::(G1++(P++Q))) (x&&&y) e f:=fun hm=>.step (.refl hTe) (.inl hm) hTf
  rcases List.mem_append.1 hef with hm|hm
  ·exact direct (List.mem_append_left _ hm)
  ·rcases (h3 _).1 hm with hm|hm
   ·exact direct (List.mem_append_right _ (List.mem_cons_of_mem _ (List.mem_append_left _ hm)))
   ·rw [hG2] at hm
    rcases List.mem_append.1 hm with hm|hm
    ·exact direct (List.mem_append_right _ (List.mem_cons_of_mem _ (List.mem_append_right _ (List.mem_append_left _ hm))))
    ·rcases List.mem_cons.1 hm with hm|hm
     ·obtain ⟨rfl,rfl⟩:=Prod.mk.inj hm
      exact key _ ((hTe.and hTf).trans hle)
     ·exact direct (List.mem_append_right _ (List.mem_cons_of_mem _ (List.mem_append_right _ (List.mem_append_right _ hm))))
 ·rcases List.mem_append.1 hp with hp|hp
  ·exact h.ends p (List.mem_append_left _ hp)
  ·rcases List.mem_cons.1 hp with rfl|hp
   ·exact ⟨ha,hb⟩
   ·refine h.ends p (List.mem_append_right _ ((h3 p).2 ?_))
    rcases List.mem_append.1 hp with hp|hp
    ·exact .inl hp
    ·refine .inr ?_
     rw [hG2]
     rcases List.mem_append.1 hp with hp|hp
     ·exact List.mem_append_left _ hp
     ·exact List.mem_append_right _ (List.mem_cons_of_mem _ hp)
 ·have hl:=h.len
  have h5:=congrArg List.length hG2
  simp only [List.length_append,List.length_cons] at hl h5 ⊢
  omega
structure Elim (n : Nat) (B v : Nat → Nat) : Prop where
  own : ∀ k, k < n → (B k).testBit (v k) = true
  out : ∀ k j, k < j → j < n → (B j).testBit (v k) = false
  up : ∀ k, k < n → (∀ u, (B k).testBit u = true → u = v k) ∨ ∃ j, k < j ∧ j < n ∧ ∀ u, (B k).testBit u = true → u ≠ v k → (B j).testBit u = true
structure MaxL (n k : Nat) (B : Nat → Nat) (K : List Nat) : Prop where
  nd : K.Nodup
  src : ∀ M ∈ K, ∃ j, k ≤ j ∧ j < n ∧ M = B j
  all : ∀ j, k ≤ j → j < n → ∃ M ∈ K, Sb (B j) M
  anti : ∀ M ∈ K, ∀ N ∈ K, Sb M N → M = N
theorem elim_tree {n:Nat} {B v:Nat→Nat} (h:Elim n B v):∀d k,k+d+1=n→∃K E,MaxL n k B K∧Rip K E:=by
 intro d
 induction d with
 | zero =>
  intro k hk
  refine ⟨[B k],[],⟨by simp,fun M hM=>⟨k,Nat.le_refl _,by omega,List.mem_singleton.1 hM⟩,fun j h1 h2=>⟨B k,by simp,by rw [show j=k by omega];exact Sb.refl _⟩,fun M hM N hN _=>by rw [List.mem_singleton.1 hM,List.mem_singleton.1 hN]⟩,
   ⟨fun x hx y hy=>?_,fun p hp=>by simp at hp,rfl⟩⟩
  rw [List.mem_singleton.1 hx,List.mem_singleton.1 hy]
  exact .refl (Sb.left _ _)
 | succ d ih =>
  intro k hk
  obtain ⟨K,E,hm,hr⟩:=ih (k+1) (by omega)
  have hv:∀N∈K,N.testBit (v k)=false:=fun N hN=>by
   obtain ⟨j,h1,h2,rfl⟩:=hm.src N hN
   exact h.out k j (by omega) h2
  have hown:=h.own k (by omega)
  obtain ⟨M,hMK,hMu⟩:∃M∈K,∀u,(B k).testBit u=true→u≠v k→M.testBit u=true:=by
   rcases h.up k (by omega) with hu|⟨j,h1,h2,hu⟩
   ·obtain ⟨M,hM,_⟩:=hm.all (k+1) (Nat.le_refl _) (by omega)
    exact ⟨M,hM,fun u h1 h2=>absurd (hu u h1) h2⟩
   ·obtain ⟨M,hM,hs⟩:=hm.all j (by omega) h2
    exact ⟨M,hM,fun u h3 h4=>hs u (hu u h3 h4)⟩
  have hsubM:∀N∈K,Sb N (B k)→Sb N M:=fun N hN hs u hu=>hMu u (hs u hu) fun e=>by
   have:=hv N hN;rw [←e,hu] at this;cases this
  have hBn:∀N∈K,¬Sb (B k) N:=fun N hN hs=>by have:=hs _ hown;rw [hv N hN] at this;cases this
  by_cases hMB:Sb M (B k)
  ·obtain ⟨r,hr0⟩:∃r:Nat→Nat,r=fun x=>if x=M then B k else x:=⟨_,rfl⟩
   have rM:r M=B k:=by rw [hr0];exact if_pos rfl
   have rn:∀x,x≠M→r x=x:=fun x hx=>by rw [hr0];exact if_neg hx
   have hgrow:∀z,Sb z (r z):=fun z=>by
    by_cases e:z=M
    ·subst e;rw [rM];exact hMB
    ·rw [rn z e];exact Sb.refl _
   have hbit:∀y∈K,y≠M→B k&&&y=M&&&y:=fun y hy _=>ext_bits' fun u=>by
    rw [Bool.eq_iff_iff,and_bit,and_bit]
    exact ⟨fun ⟨h1,h2⟩=>⟨hMu u h1 fun e=>(by have:=hv y hy;rw [←e,h2] at this;cases this),h2⟩,fun ⟨h1,h2⟩=>⟨hMB u h1,h2⟩⟩
   have hinj:∀x∈K,∀y∈K,r x=r y→x=y:=fun x hx y hy e=>by
    by_cases ex:x=M<;>by_cases ey:y=M
    ·rw [ex,ey]
    ·rw [ex,rM,rn y ey] at e;exact absurd (e▸Sb.refl _) (hBn y hy)
    ·rw [ey,rM,rn x ex] at e;exact absurd (e▸Sb.refl _) (hBn x hx)
    ·rwa [rn x ex,rn y ey] at e
   refine ⟨K.map r,E.map fun p=>(r p.1,r p.2),⟨?_,fun N hN=>?_,fun j h1 h2=>?_,fun N hN O hO hs=>?_⟩,⟨fun x hx y hy=>?_,fun p hp=>?_,?_⟩⟩
   ·unfold List.Nodup
    rw [List.pairwise_map]
    exact List.Pairwise.imp_of_mem (fun hx hy hne e=>hne (hinj _ hx _ hy e)) hm.nd
   ·obtain ⟨x,hx,rfl⟩:=List.mem_map.1 hN
    by_cases e:x=M
    ·exact ⟨k,Nat.le_refl _,by omega,by rw [e,rM]⟩
    ·obtain ⟨j,h1,h2,h3⟩:=hm.src x hx
     exact ⟨j,by omega,h2,by rw [rn x e];exact h3⟩
   ·by_cases e:j=k
    ·exact ⟨r M,List.mem_map.2 ⟨M,hMK,rfl⟩,by rw [rM,e];exact Sb.refl _⟩
    ·obtain ⟨N,hN,hs⟩:=hm.all j (by omega) h2
     exact ⟨r N,List.mem_map.2 ⟨N,hN,rfl⟩,hs.trans (hgrow N)⟩
   ·obtain ⟨x,hx,rfl⟩:=List.mem_map.1 hN
    obtain ⟨y,hy,rfl⟩:=List.mem_map.1 hO
    by_cases ex:x=M<;>by_cases ey:y=M
    ·rw [ex,ey]
    ·rw [ex,rM,rn y ey] at hs;exact absurd hs (hBn y hy)
    ·rw [ey,rM,rn x ex] at hs;exact absurd (hm.anti x hx M hMK (hsubM x hx hs)) ex
    ·rw [rn x ex,rn y ey] at hs ⊢;exact hm.anti x hx y hy hs
   ·obtain ⟨x,hxK,rfl⟩:=List.mem_map.1 hx
    obtain ⟨y,hyK,rfl⟩:=List.mem_map.1 hy
    by_cases e:x=y
    ·subst e;exact .refl (Sb.left _ _)
    ·have hxy:r x&&&r y=x&&&y:=by
      by_cases ex:x=M<;>by_cases ey:y=M
      ·exact absurd (ex.trans ey.symm) e
      ·rw [ex,rM,rn y ey];exact hbit y hyK ey
      ·rw [ey,rM,rn x ex,Nat.and_comm,hbit x hxK ex,Nat.and_comm]
      ·rw [rn x ex,rn y ey]
     rw [hxy]
     exact (hr.cn x hxK y hyK).map fun z hz=>hz.trans (hgrow z)
   ·obtain ⟨q,hq,rfl⟩:=List.mem_map.1 hp
    obtain ⟨h1,h2⟩:=hr.ends q hq
    exact ⟨List.mem_map.2 ⟨_,h1,rfl⟩,List.mem_map.2 ⟨_,h2,rfl⟩⟩
   ·rw [List.length_map,List.length_map];exact hr.len
  ·have sub:∀p∈E,p∈(M,B k)::E:=fun p hp=>List.mem_cons_of_mem _ hp
   have hBK:B k∉K:=fun hB=>hBn _ hB (Sb.refl _)
   have hto:∀y∈K,Cn ((M,B k)::E) (y&&&B k) y (B k):=fun y hy=>by
    have hT:Sb (y&&&B k) (y&&&M):=fun u hu=>by
     obtain ⟨h1,h2⟩:=and_bit.1 hu
     exact and_bit.2 ⟨h1,hMu u h2 fun e=>(by have:=hv y hy;rw [←e,h1] at this;cases this)⟩
    exact .step ((hr.cn y hy M hMK).mono sub hT) (.inl (List.mem_cons_self ..)) (Sb.right _ _)
   refine ⟨B k::K,(M,B k)::E,⟨List.nodup_cons.2 ⟨hBK,hm.nd⟩,fun N hN=>?_,fun j h1 h2=>?_,fun N hN O hO hs=>?_⟩,⟨fun x hx y hy=>?_,fun p hp=>?_,?_⟩⟩
   ·rcases List.mem_cons.1 hN with rfl|hN
    ·exact ⟨k,Nat.le_refl _,by omega,rfl⟩
    ·obtain ⟨j,h1,h2,h3⟩:=hm.src N hN
     exact ⟨j,by omega,h2,h3⟩
   ·by_cases e:j=k
    ·exact ⟨B k,List.mem_cons_self ..,by rw [e];exact Sb.refl _⟩
    ·obtain ⟨N,hN,hs⟩:=hm.all j (by omega) h2
     exact ⟨N,List.mem_cons_of_mem _ hN,hs⟩
   ·rcases List.mem_cons.1 hN with rfl|hN<;>rcases List.mem_cons.1 hO with rfl|hO
    ·rfl
    ·exact absurd hs (hBn O hO)
    ·exact absurd (hm.anti N hN M hMK (hsubM N hN hs)▸hs) hMB
    ·exact hm.anti N hN O hO hs
   ·rcases List.mem_cons.1 hx with rfl|hx<;>rcases List.mem_cons.1 hy with rfl|hy
    ·exact .refl (Sb.left _ _)
    ·rw [Nat.and_comm];exact (hto y hy).symm
    ·exact hto x hx
    ·exact (hr.cn x hx y hy).mono sub (Sb.refl _)
   ·rcases List.mem_cons.1 hp with rfl|hp
    ·exact ⟨List.mem_cons_of_mem _ hMK,List.mem_cons_self ..⟩
    ·obtain ⟨h1,h2⟩:=hr.ends p hp
     exact ⟨List.mem_cons_of_mem _ h1,List.mem_cons_of_mem _ h2⟩
   ·have:=hr.len;simp only [List.length_cons];omega
end Go.Proofs.YtgjnbcfencallaaDoor
