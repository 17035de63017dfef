/- Metropolis, of the program and of the document. Conditions: numbers of 10^6 bytes each. -/
import Derived.Test.YtfjgijkhmhhkdaaGreatDoorYB16
import Derived.Test.YtfjgijkhmhhkdaaGreatDoorYB10
import Derived.Test.YtfjgijkhmhhkdaaGreatDoorYB19
set_option linter.unusedVariables false
set_option linter.unusedSimpArgs false
namespace Go.Proofs.YtfjgijkhmhhkdaaGreatDoor
open Go Go.RowKit
def mvB (w:List Rat) (q:List (List Rat)) (i k:Nat):Rat:=w.getD k 0*at2 q k i/w.getD i 0
def mv (w:List Rat) (q:List (List Rat)) (i k:Nat):Rat:=if w.getD i 0≠0∧mvB w q i k<at2 q i k then mvB w q i k else at2 q i k
def offTo (w:List Rat) (q:List (List Rat)) (i:Nat):Nat→Rat
 | 0=>0
 | k+1=>offTo w q i k+(if k=i then 0 else mv w q i k)
structure Fit (k : Nat) (w : List Rat) (q : List (List Rat)) : Prop where
  row : Row k w
  mat : ∀ r ∈ q, Row k r
  len : w.length = q.length
  sq : ∀ r ∈ q, List.length r = q.length
  le : q.length ≤ 6
section
variable {k : Nat} {w : List Rat} {q : List (List Rat)} {i j : Nat}
theorem Fit.e2 (h:Fit k w q) (hi:i<q.length) (hj:j<q.length):at2 q i j=(q[i]'hi)[j]'(by rw [h.sq _ (List.getElem_mem hi)];exact hj):=by unfold at2;rw [lget_lt q [] hi,lget_lt _ 0]
theorem Fit.f2 (h:Fit k w q) (hi:i<q.length) (hj:j<q.length):Fz (at2 q i j) k:=by rw [h.e2 hi hj];exact (h.mat _ (List.getElem_mem hi)) _ (List.getElem_mem _)
theorem Fit.fw (h:Fit k w q) (hi:i<q.length):Fz (w.getD i 0) k:=by rw [lget_lt w 0 (by rw [h.len];exact hi)];exact h.row _ (List.getElem_mem _)
theorem Fit.fm (h:Fit k w q) (hi:i<q.length) (hj:j<q.length):Fz (mv w q i j) (3*k):=by
 unfold mv
 split
 ·exact (((h.fw hj).mul (h.f2 hj hi)).div (h.fw hi)).up (by omega)
 ·exact (h.f2 hi hj).up (by omega)
theorem Fit.off (h:Fit k w q) (hi:i<q.length):∀j,j≤q.length→Fz (offTo w q i j) (8+j*(3*k+1)):=by
 intro j
 induction j with
 | zero=>intro _;exact (Fz.int (n:=0) (by decide)).up (by omega)
 | succ j ih =>
  intro hj
  have:=ih (by omega)
  show Fz (offTo w q i j+_) _
  split
  ·rw [Rat.add_zero];exact this.up (by rw [Nat.add_mul];omega)
  ·exact (this.add (h.fm hi (by omega))).up (by rw [Nat.add_mul];omega)
theorem FrM.at2 {ys:List FV} (h:FrM k ys q) (hf:Fit k w q) (hi:i<q.length) (hj:j<q.length):∃xs g n d,ys[i]?=some (.fz 3 xs)∧xs[j]?=some (frR g n d)∧IsFr (frR g n d) (at2 q i j) k:=by
 obtain ⟨xs,h1,h2⟩:=h.at hi
 obtain ⟨g,n,d,h3,h4⟩:=h2.at3 (i:=j) (by rw [hf.sq _ (List.getElem_mem hi)];exact hj)
 exact ⟨xs,g,n,d,h1,h3,by rw [hf.e2 hi hj];exact h4⟩
end
set_option maxRecDepth 100000 in
theorem noughts_w (n:Nat) (hp:1≤n) (hn:n≤1000):GoodO Tryz.prog 41 [I n] (.own 30 3 (List.replicate n (fr 0))):=by
 refine goodO_of Tryz.func41 rfl (by kernel_rfl) fun X hO hrd=>?_;rw [Tryz.ntmps41,Tryz.results41];simp only [ast0,List.map_cons,List.map_nil,List.length_cons,List.length_nil,Nat.reduceAdd,Nat.reduceSub,List.replicate_succ,List.replicate_zero,List.cons_append,List.nil_append]
 (repeat (with_reducible first|refine W_seq fun K hK=>?_|refine J_block ?_|refine J_region ?_ |(refine Kont.go (by assumption) ?_)|(simp (config:={ maxSteps:=3000000 }) (disch:=omega) only [go_sem])))
 refine J_reserve ?_
 refine W_loop [3,4,5,6,7,8,9,10,11,12,13] (fun x:Nat=>[(4,.f (I x)),(3,sl 0 3 (List.replicate x (fr ((0:Int):Rat))))]) (fun x:Nat=>[ob 30 3 (List.replicate x (fr ((0:Int):Rat)))]) (fun x:Nat=>x≤n) (fun x:Nat=>n-x) (0) (Nat.zero_le _) (by refine weak_of ?_ ?_<;>simp (disch:=omega) only [go_sem]<;>first|rfl|exact ⟨rfl,rfl⟩|exact Or.inl rfl|exact ⟨Or.inl rfl,Or.inl rfl⟩|trivial|assumption|omega|(symm;assumption)|((repeat' apply And.intro)<;>first|rfl|omega|trivial|exact .inl rfl|exact .inr ⟨rfl,rfl⟩|exact .inr rfl|(right;symm;assumption)|(symm;assumption)|assumption)) ?_
 rintro i hi
 simp only [go_sem]
 (repeat (with_reducible first|refine W_seq fun K hK=>?_|refine J_region ?_ |refine J_c ?_|(refine Kont.go (by assumption) ?_)|(simp (config:={ maxSteps:=3000000 }) (disch:=omega) only [go_sem])))
 refine Jc_if (fun hlt=>?_) (fun hlt=>?_)<;>try simp only [decide_eq_true_eq,decide_eq_false_iff_not] at hlt
 ·have hrep:List.replicate i (fr ((0:Int):Rat))++[fr ((0:Int):Rat)]=List.replicate (i+1) (fr ((0:Int):Rat)):=(List.replicate_succ' ..).symm
  (repeat (first|(with_reducible first|refine W_seq fun K hK=>?_|refine J_block ?_|refine J_skip ?_|refine J_region ?_ |refine aApp_sl ?_|(refine Kont.go (by assumption) ?_)|(simp (config:={ maxSteps:=3000000 }) (disch:=omega) only [go_sem,Nat.reduceEqDiff,↓reduceIte,Nat.reduceAdd,Nat.reduceLeDiff,hrep,List.length_replicate]))|refine call_f (rof_frac (by omega) (by omega)) rfl ?_|refine And.intro (by omega) ?_))
  refine ⟨i+1,by omega,by omega,weak_of ?_ ?_⟩<;>(try simp (disch:=omega) only [go_sem])<;>(try first|done|omega|rfl|exact ⟨rfl,rfl⟩|trivial)
 ·have he:i=n:=by omega
  subst he
  (repeat (with_reducible first|refine W_seq fun K hK=>?_|refine J_exit ?_|refine J_ret ?_|refine J_region ?_ |(refine Kont.go (by assumption) ?_)|(simp (config:={ maxSteps:=3000000 }) (disch:=omega) only [go_sem,↓reduceIte])))
  have hne:List.replicate i (fr ((0:Int):Rat))≠[]:=fun h=>by have:=congrArg List.length h;simp at this;omega
  exact ownR_sl (l:=List.replicate i (fr ((0:Int):Rat))) hne rfl fun x hx=>by rw [List.eq_of_mem_replicate hx];exact flatF_fr _
end Go.Proofs.YtfjgijkhmhhkdaaGreatDoor
set_option linter.unusedVariables false
set_option linter.unusedSimpArgs false
namespace Go.Proofs.YtfjgijkhmhhkdaaGreatDoor
open Go Go.RowKit
def qS (h:HM) (l:List (List Nat)) (j k x:Nat):Rat:=sumF (fun i=>if (l.getD i []).getD j 0=k then h.wl (l.getD i []) else 0) x
def qRow (h:HM) (n:Nat) (l:List (List Nat)) (j x:Nat):List Rat:=(List.range n).map fun k=>qS h l j k x
section
variable {h : HM} {n j x b : Nat} {l : List (List Nat)}
theorem qRow_len:(qRow h n l j x).length=n:=by simp [qRow]
theorem qRow_zero:List.replicate n (AV.f (fr 0))=((qRow h n l j 0).map fr).map AV.f:=by
 unfold qRow
 rw [List.map_map,List.map_map]
 apply List.ext_getElem?
 intro i
 by_cases hi:i<n
 ·simp [hi];rfl
 ·simp [hi]
theorem qRow_get {c:Nat} (hc:c<n):(((qRow h n l j x).map fr).map AV.f)[c]?=some (.f (fr (qS h l j c x))):=by simp [qRow,hc]
theorem qRow_set {c:Nat} (hc:c<n) (e:(l.getD x []).getD j 0=c):(((qRow h n l j x).map fr).map AV.f).set c (.f (fr (qS h l j c x+h.wl (l.getD x []))))=((qRow h n l j (x+1)).map fr).map AV.f:=by
 unfold qRow
 rw [List.map_map,List.map_map,range_set hc,List.map_map,List.map_map]
 refine List.map_congr_left fun k _=>?_
 show (if k=c then _ else AV.f (fr (qS h l j k x)))=AV.f (fr (qS h l j k (x+1)))
 have:qS h l j k (x+1)=qS h l j k x+(if (l.getD x []).getD j 0=k then h.wl (l.getD x []) else 0):=rfl
 rw [this,e]
 by_cases hk:k=c
 ·rw [if_pos hk,if_pos hk.symm,hk]
 ·rw [if_neg hk,if_neg (fun he=>hk he.symm),Rat.add_zero]
theorem qS_fz {k:Nat} (hb:8≤b) (hz:∀i,i<x→Fz (h.wl (l.getD i [])) b):Fz (qS h l j k x) (8+x*(b+1)):=sumF_fz fun i hi=>by
 split
 ·exact hz i hi
 ·exact (Fz.int (n:=0) (by decide)).up hb
theorem qRow_fw {t:Nat}:qRow h h.n (wyL h.n (t+1)) t (wyL h.n (t+1)).length=aRow h (fun a b=>a+b) t:=by
 unfold qRow aRow
 refine List.map_congr_left fun i hi=>?_
 have hi:=List.mem_range.1 hi
 rw [h.gA_fw t i]
 have e0:qS h (wyL h.n (t+1)) t i (wyL h.n (t+1)).length=lsm (fun w=>h.wl w*((fun k=>if k=i then (1:Rat) else 0) (w.getD t 0))) (wyL h.n (t+1)):=by
  rw [lsm_F (d:=[])]
  refine sumF_congr fun q _=>?_
  show (if _ then _ else _)=_*(if _ then (1:Rat) else 0)
  split<;>grind
 rw [e0,wy_last (h:=h) (fun k=>if k=i then (1:Rat) else 0) t,sumF_single (i:=i) (fun k _ hne=>by rw [if_neg hne];grind) hi,if_pos rfl,Rat.mul_one]
end
section
variable {k : Nat} {fs ms ss : List FV} {st : List Rat} {mv sh : List (List Rat)} {seen : List Int} {w : List Nat}
set_option maxRecDepth 100000 in
set_option maxHeartbeats 4000000 in
theorem rforward_w (h:HidF k fs ms ss st mv sh) (h1:1≤k) (hk:k≤1000) (hsl:seen.length≤140737488355328) (hs:∀x∈seen,-9223372036854775808≤x∧x≤9223372036854775807) :
  Good Tryz.prog 12 [hidV fs ms ss,ints seen] (.tup [rowsF (fwR st mv sh seen),I (mayE st mv sh seen)]):=by
 have hm1:=rseen_w h h1 (by omega) seen hsl hs
 by_cases hE:mayE st mv sh seen=0
 ·have e:fwR st mv sh seen=aR (hm st mv sh seen) (fun a b=>a+b) seen.length:=by unfold fwR;rw [if_pos hE]
  have ok:=mayE_ok h hE
  have ht8:=ok.t8
  have hn4:=ok.n4
  have hn1:=ok.n1
  obtain ⟨M,hM⟩:∃M,M=hm st mv sh seen:=⟨_,rfl⟩
  have eMn:M.n=st.length:=by rw [hM];rfl
  have hfl:fs.length=st.length:=h.ist.len
  rw [e,hE,←hM]
  refine good_of Tryz.func12 rfl (by kernel_rfl) fun X hO hrd=>?_;rw [Tryz.ntmps12,Tryz.results12];simp only [ast0,List.map_cons,List.map_nil,List.length_cons,List.length_nil,Nat.reduceAdd,Nat.reduceSub,List.replicate_succ,List.replicate_zero,List.cons_append,List.nil_append]
  (repeat (with_reducible first|refine W_seq fun K hK=>?_|refine J_region ?_ |(refine Kont.go (by assumption) ?_)|(simp (config:={ maxSteps:=3000000 }) (disch:=omega) only [go_sem,↓reduceIte,Nat.reduceAdd])))
  refine call_f hm1 rfl ?_
  (repeat (with_reducible first|refine W_seq fun K hK=>?_|refine J_block ?_|refine J_skip ?_|refine J_region ?_ |refine J_c ?_|refine Jc_false ?_|(refine Kont.go (by assumption) ?_)|(simp (config:={ maxSteps:=3000000 }) (disch:=omega) only [go_sem,hE])))
  refine J_reserve ?_
  refine W_loop [7,8,9,10,11,12,19,20,21,22,23,24,25,26,27,28,29,30,31,32,33,34,35,36,37,38,39,40,41,42,43,44,45,46,47,48,49,50,51,52,53,54,55,56,57,58,59,60,61,62,63,64,65,66,67,68,69,70,71,72,73] (fun x:Nat=>[(8,.f (I ((x:Int)+1))),(7,sl 1 1 ((aR M (fun a b=>a+b) x).map frs))]) (fun x:Nat=>[some ⟨25,3,[.f (hidV fs ms ss)]⟩,ob 22 1 ((aR M (fun a b=>a+b) x).map frs)]) (fun x:Nat=>x≤seen.length) (fun x:Nat=>seen.length-x) (0) (Nat.zero_le _) (by refine weak_of ?_ ?_<;>simp (disch:=omega) only [go_sem,Nat.reduceAdd]<;>first|rfl|exact ⟨rfl,rfl⟩|exact Or.inl rfl|exact ⟨Or.inl rfl,Or.inl rfl⟩|trivial|assumption|omega|(symm;assumption)|((repeat' apply And.intro)<;>first|rfl|omega|trivial|exact .inl rfl|exact .inr ⟨rfl,rfl⟩|exact .inr rfl|(right;symm;assumption)|(symm;assumption)|assumption)) ?_
  rintro t ht
  simp only [go_sem]
  (repeat (with_reducible first|refine W_seq fun K hK=>?_|refine J_region ?_ |refine J_c ?_|(refine Kont.go (by assumption) ?_)|(simp (config:={ maxSteps:=3000000 }) (disch:=omega) only [go_sem,List.length_map])))
  refine Jc_if (fun htl=>?_) (fun htl=>?_)<;>try simp only [decide_eq_true_eq,decide_eq_false_iff_not] at htl
  ·have htn:t+1≤seen.length:=by omega
   obtain ⟨l,hl⟩:∃l,l=wyL st.length (t+1):=⟨_,rfl⟩
   obtain ⟨W,hW⟩:∃W,W=l.length:=⟨_,rfl⟩
   have hwl:=wyL_le (n:=st.length) (t:=t+1) hn4 (by omega)
   rw [←hl,←hW] at hwl
   have hwyl:(wyF st.length (t+1)).length=W:=by unfold wyF;rw [List.length_map,hW,hl]
   have hrw:=rways_w (n:=st.length) (T:=t+1) hn4 (by omega)
   have hway:=fun {w:List Nat} (hw:w∈wyL st.length (t+1))=>rwayF_w ok h1 hk hsl htn hw
   have hwz:=fun {w:List Nat} (hw:w∈wyL st.length (t+1))=>wl_fz ok h1 htn hw
   rw [←hM] at hway hwz
   have hmu:=Nat.mul_le_mul (show t+1≤8 by omega) (show k+k≤2000 by omega)
   obtain ⟨b,hb⟩:∃b,b=8+(t+1)*(k+k):=⟨_,rfl⟩
   rw [←hb,←hl] at hwz
   rw [←hl] at hway
   have hmem:∀i,i<W→l.getD i []∈l:=fun i hi=>by rw [lget_lt l [] (by omega)];exact List.getElem_mem _
   have hq0:List.replicate st.length (AV.f (fr 0))=((qRow M st.length l t 0).map fr).map AV.f:=qRow_zero
   have hti:(t:Int)+1-1=(t:Int):=by omega
   (repeat (with_reducible first|refine W_seq fun K hK=>?_|refine J_block ?_|refine J_skip ?_|refine J_region ?_ |(refine Kont.go (by assumption) ?_)|(simp (config:={ maxSteps:=3000000 }) (disch:=omega) only [go_sem,↓reduceIte,hfl])))
   refine call_o (noughts_w st.length hn1 (by omega)) (FrzL.fs [_]) ?_
   (repeat (with_reducible first|refine W_seq fun K hK=>?_|refine J_region ?_ |(refine Kont.go (by assumption) ?_)|(simp (config:={ maxSteps:=3000000 }) (disch:=omega) only [go_sem,↓reduceIte,Nat.reduceAdd,hfl,hq0])))
   refine call_f hrw rfl ?_
   (repeat (with_reducible first|refine W_seq fun K hK=>?_|refine J_block ?_|refine J_region ?_ |(refine Kont.go (by assumption) ?_)|(simp (config:={ maxSteps:=3000000 }) (disch:=omega) only [go_sem,List.length_replicate])))
   refine W_loop [11,12,34,35,36,37,38,39,40,41,42,43,44,45,46,47,48,49,50,51,52,53,54,55,56,57,58,59,60,61,62,63,64,65,66,67,68,69] (fun x:Nat=>[(11,.f (I x))]) (fun x:Nat=>[some ⟨25,3,[.f (hidV fs ms ss)]⟩,ob 22 1 ((aR M (fun a b=>a+b) t).map frs),some ⟨30,3,((qRow M st.length l t x).map fr).map .f⟩]) (fun x:Nat=>x≤W) (fun x:Nat=>W-x) (0) (Nat.zero_le _) (by refine weak_of ?_ ?_<;>simp (disch:=omega) only [go_sem,Nat.reduceAdd]<;>first|rfl|exact ⟨rfl,rfl⟩|exact Or.inl rfl|exact ⟨Or.inl rfl,Or.inl rfl⟩|trivial|assumption|omega|(symm;assumption)|((repeat' apply And.intro)<;>first|rfl|omega|trivial|exact .inl rfl|exact .inr ⟨rfl,rfl⟩|exact .inr rfl|(right;symm;assumption)|(symm;assumption)|assumption)) ?_
   rintro i hi
   simp only [go_sem]
   (repeat (with_reducible first|refine W_seq fun K hK=>?_|refine J_region ?_ |refine J_c ?_|(refine Kont.go (by assumption) ?_)|(simp (config:={ maxSteps:=3000000 }) (disch:=omega) only [go_sem,hwyl])))
   refine Jc_if (fun hil=>?_) (fun hil=>?_)<;>try simp only [decide_eq_true_eq,decide_eq_false_iff_not] at hil
   ·have hm1:=hmem i hil
    obtain ⟨w,hw⟩:∃w,w=l.getD i []:=⟨_,rfl⟩
    rw [←hw] at hm1
    have ew:wF (t+1) w=.fz 1 (Ns w):=by unfold wF;rw [if_neg (by omega)]
    have gw:(wyF st.length (t+1))[i]?=some (.fz 1 (Ns w)):=by rw [←ew];unfold wyF;rw [←hl,map_get (wF (t+1)) l (by omega),hw,lget_lt l [] (by omega)]
    have hcall:=hway hm1
    rw [ew] at hcall
    have hwn:=wyL_len (hl▸hm1)
    obtain ⟨c,hc⟩:∃c,c=w.getD t 0:=⟨_,rfl⟩
    have hcn:c<st.length:=by rw [hc,lget_lt w 0 (by omega)];exact hwn.2 _ (List.getElem_mem _)
    have g2:(Ns w)[t]?=some (I (c:Nat)):=by rw [hc];exact Ns_get (by omega)
    have c1:=IsFr.c (qS_fz (h:=M) (l:=l) (j:=t) (x:=i) (k:=c) (b:=b) (by omega) fun q hq=>hwz (hmem q (by omega)))
    have c2:=IsFr.c (hwz hm1)
    have hmx:=Nat.mul_le_mul (show i≤65536 by omega) (show b+1≤16009 by omega)
    have gr:=qRow_get (h:=M) (n:=st.length) (l:=l) (j:=t) (x:=i) hcn
    have hset:=qRow_set (h:=M) (n:=st.length) (l:=l) (j:=t) (x:=i) hcn (by rw [hc,hw])
    rw [←hw] at hset
    (repeat (with_reducible first|refine W_seq fun K hK=>?_|refine J_block ?_|refine J_skip ?_|refine J_drawn mixed (by kernel_rfl) ?_|(refine Kont.go (by assumption) ?_)|(simp (config:={ maxSteps:=3000000 }) (disch:=omega) only [go_sem,↓reduceIte,Nat.reduceAdd,gw,true_and,and_self])))
    refine callQ_f hcall rfl ?_
    (repeat (first|(with_reducible first|refine J_region ?_ |refine J_drawn mixed (by kernel_rfl) ?_|(refine Kont.go (by assumption) ?_)|(simp (config:={ maxSteps:=3000000 }) (disch:=omega) only [go_sem,↓reduceIte,Nat.reduceAdd,gw,g2,hti,hcn,gr,hset,true_and,and_self]))|refine callQ_f (radd_w (by assumption) (by assumption) (by omega) (by omega)) rfl ?_))
    refine ⟨i+1,by omega,by omega,weak_of ?_ ?_⟩<;>(try simp (disch:=omega) only [go_sem,Nat.reduceAdd])<;>(try first|done|omega|rfl|exact ⟨rfl,rfl⟩|trivial)
   ·have he:i=W:=by omega
    subst he
    have hend:qRow M st.length l t i=aRow M (fun a b=>a+b) t:=by rw [hW,hl,←eMn];exact qRow_fw
    rw [hend]
    (repeat (with_reducible first|refine J_exit ?_|(refine Kont.go (by assumption) ?_)|(simp (config:={ maxSteps:=3000000 }) (disch:=omega) only [go_sem,↓reduceIte])))
    refine J_freezeO (j:=9) (l:=(aRow M (fun a b=>a+b) t).map fr) rfl (by rw [List.length_map,aRow_len,eMn]) rfl ?_
    (repeat (first|(with_reducible first|refine J_region ?_ |refine aApp_sl ?_|(refine Kont.go (by assumption) ?_)|(simp (config:={ maxSteps:=3000000 }) (disch:=omega) only [go_sem,Nat.reduceEqDiff,↓reduceIte,Nat.reduceAdd,Nat.reduceLeDiff,aR_next,List.length_map,aR_len]))|refine And.intro (by omega) ?_))
    refine ⟨t+1,by omega,by omega,weak_of ?_ ?_⟩<;>(try simp (disch:=omega) only [go_sem,Nat.reduceAdd])<;>(try first|done|omega|rfl|exact ⟨rfl,rfl⟩|trivial)
  ·have he:t=seen.length:=by omega
   subst he
   (repeat (with_reducible first|refine W_seq fun K hK=>?_|refine J_exit ?_|refine J_ret ?_|refine J_region ?_ |(refine Kont.go (by assumption) ?_)|(simp (config:={ maxSteps:=3000000 }) (disch:=omega) only [go_sem,↓reduceIte])))
   exact ⟨_,rfl,FrzL.cons (.sl rfl) (FrzL.cons (.f _) (FrzL.nil _))⟩
 ·have e:fwR st mv sh seen=[]:=by unfold fwR;rw [if_neg hE]
  rw [e]
  refine good_of Tryz.func12 rfl (by kernel_rfl) fun X hO hrd=>?_;rw [Tryz.ntmps12,Tryz.results12];simp only [ast0,List.map_cons,List.map_nil,List.length_cons,List.length_nil,Nat.reduceAdd,Nat.reduceSub,List.replicate_succ,List.replicate_zero,List.cons_append,List.nil_append]
  (repeat (with_reducible first|refine W_seq fun K hK=>?_|refine J_region ?_ |(refine Kont.go (by assumption) ?_)|(simp (config:={ maxSteps:=3000000 }) (disch:=omega) only [go_sem,↓reduceIte,Nat.reduceAdd])))
  refine call_f hm1 rfl ?_
  (repeat (with_reducible first|refine W_seq fun K hK=>?_|refine J_ret ?_|refine J_region ?_ |refine J_c ?_|refine Jc_true ?_|(refine Kont.go (by assumption) ?_)|(simp (config:={ maxSteps:=3000000 }) (disch:=omega) only [go_sem,hE])))
  exact ⟨_,rfl,FrzL.cons (.nil _) (FrzL.cons (.f _) (FrzL.nil _))⟩
end
end Go.Proofs.YtfjgijkhmhhkdaaGreatDoor
set_option linter.unusedVariables false
set_option linter.unusedSimpArgs false
namespace Go.Proofs.YtfjgijkhmhhkdaaGreatDoor
open Go Go.RowKit
section
variable {st : List Rat} {mv sh : List (List Rat)} {seen : List Int} {t s : Nat}
theorem drop_getD {α:Type} {l:List α} {a j:Nat} {d:α}:(l.drop a).getD j d=l.getD (a+j) d:=by
 rw [List.getD_eq_getElem?_getD,List.getElem?_drop,List.getD_eq_getElem?_getD]
theorem bwU_drop (hn:(mv.getD s []).length=st.length):∀u,u+(t+1)≤seen.length→∀i,(hm (mv.getD s []) mv sh (seen.drop (t+1))).bwU u i=(hm st mv sh seen).bwU u i:=by
 intro u
 induction u with
 | zero=>intro _ _;rfl
 | succ u ih =>
  intro hu i
  show sumF (fun k=>at2 mv i k*at2 sh k (((seen.drop (t+1)).getD ((seen.drop (t+1)).length-1-u) 0).toNat)*(hm (mv.getD s []) mv sh (seen.drop (t+1))).bwU u k) (mv.getD s []).length=sumF (fun k=>at2 mv i k*at2 sh k ((seen.getD (seen.length-1-u) 0).toNat)*(hm st mv sh seen).bwU u k) st.length
  rw [hn]
  refine sumF_congr fun k _=>?_
  rw [ih (by omega) k,drop_getD,List.length_drop,show t+1+(seen.length-(t+1)-1-u)=seen.length-1-u by omega]
theorem lik_drop (hn:(mv.getD s []).length=st.length) (ht:t<seen.length):(hm (mv.getD s []) mv sh (seen.drop (t+1))).lik=(hm st mv sh seen).bw t s:=by
 by_cases h0:seen.length=t+1
 ·have e1:(hm (mv.getD s []) mv sh (seen.drop (t+1))).lik=1:=by
   unfold HM.lik
   exact if_pos (show (seen.drop (t+1)).length=0 by rw [List.length_drop];omega)
  rw [e1]
  show (1:Rat)=(hm st mv sh seen).bwU (seen.length-1-t) s
  rw [show seen.length-1-t=0 by omega]
  rfl
 ·have hT:0<(hm (mv.getD s []) mv sh (seen.drop (t+1))).T:=by show 0<(seen.drop (t+1)).length;rw [List.length_drop];omega
  rw [HM.lik_zero hT]
  obtain ⟨u,hu⟩:∃u,seen.length-1-t=u+1:=⟨seen.length-2-t,by omega⟩
  show sumF (fun i=>(mv.getD s []).getD i 0*at2 sh i (((seen.drop (t+1)).getD 0 0).toNat)*(hm (mv.getD s []) mv sh (seen.drop (t+1))).bwU ((seen.drop (t+1)).length-1-0) i) (mv.getD s []).length=(hm st mv sh seen).bwU (seen.length-1-t) s
  rw [hu,hn]
  show _=sumF (fun k=>at2 mv s k*at2 sh k ((seen.getD (seen.length-1-u) 0).toNat)*(hm st mv sh seen).bwU u k) st.length
  refine sumF_congr fun k _=>?_
  rw [List.length_drop,show seen.length-(t+1)-1-0=u by omega,bwU_drop hn u (by omega),drop_getD,show t+1+0=seen.length-1-u by omega]
  rfl
end
def bqRow (h:HM) (n t s:Nat) (q:Rat):List Rat:=(List.range n).map fun k=>if k<s then h.bw t k else if k=s then q else 0
section
variable {h : HM} {n t s : Nat} {q q' : Rat}
theorem bqRow_zero:List.replicate n (AV.f (fr 0))=((bqRow h n t 0 0).map fr).map AV.f:=by
 unfold bqRow
 rw [List.map_map,List.map_map]
 apply List.ext_getElem?
 intro i
 by_cases hi:i<n
 ·simp [hi]
 ·simp [hi]
theorem bqRow_get (hs:s<n):(((bqRow h n t s q).map fr).map AV.f)[s]?=some (.f (fr q)):=by simp [bqRow,hs]
theorem bqRow_set (hs:s<n):(((bqRow h n t s q).map fr).map AV.f).set s (.f (fr q'))=((bqRow h n t s q').map fr).map AV.f:=by
 unfold bqRow
 rw [List.map_map,List.map_map,range_set hs,List.map_map,List.map_map]
 refine List.map_congr_left fun k _=>?_
 show (if k=s then _ else AV.f (fr (if k<s then h.bw t k else if k=s then q else 0)))=AV.f (fr (if k<s then h.bw t k else if k=s then q' else 0))
 by_cases hk:k=s
 ·rw [if_pos hk,if_neg (by omega),if_pos hk]
 ·rw [if_neg hk,if_neg hk,if_neg hk]
theorem bqRow_next:bqRow h n t s (h.bw t s)=bqRow h n t (s+1) 0:=by
 unfold bqRow
 refine List.map_congr_left fun k _=>?_
 by_cases hk:k=s
 ·rw [if_neg (by omega),if_pos hk,if_pos (by omega),hk]
 ·by_cases hl:k<s
  ·rw [if_pos hl,if_pos (by omega)]
  ·rw [if_neg hl,if_neg hk,if_neg (by omega)];split<;>rfl
end
def bRx (h:HM) (x:Nat):List (List Rat):=(List.range x).map (bRow h fun a b=>a+b)
theorem bRx_len {h:HM} {x:Nat}:(bRx h x).length=x:=by simp [bRx]
theorem bRx_next {h:HM} {x:Nat}:(bRx h x).map frs++[frs (bRow h (fun a b=>a+b) x)]=(bRx h (x+1)).map frs:=by simp [bRx,List.range_succ]
theorem bqRow_all {h:HM} {t:Nat} {q:Rat}:bqRow h h.n t h.n q=bRow h (fun a b=>a+b) t:=by
 unfold bqRow bRow
 refine List.map_congr_left fun k hk=>?_
 rw [if_pos (List.mem_range.1 hk)]
 exact (h.gU_bw _ _).symm
section
variable {k : Nat} {fs ms ss : List FV} {st : List Rat} {mv sh : List (List Rat)} {seen : List Int} {w : List Nat}
theorem HOk.from {xs:List FV} {s t:Nat} (h:HOk k fs ms ss st mv sh seen) (hs:s<st.length) (hx:Frs k xs (mv.getD s [])):HOk k xs ms ss (mv.getD s []) mv sh (seen.drop (t+1)) where
 f:={ ist:=hx,imv:=h.f.imv,ish:=h.f.ish,bst:=by rw [h.rm s hs];exact h.f.bst,bmv:=h.f.bmv,bsh:=h.f.bsh,bsr:=h.f.bsr,bmr:=h.f.bmr }
 n1:=by rw [h.rm s hs];exact h.n1
 n4:=by rw [h.rm s hs];exact h.n4
 lm:=by rw [h.rm s hs];exact h.lm
 ls:=by rw [h.rm s hs];exact h.ls
 rm:=fun i hi=>by rw [h.rm s hs] at hi ⊢;exact h.rm i hi
 rs:=fun i hi=>by rw [h.rm s hs] at hi;exact h.rs i hi
 t8:=by rw [List.length_drop];have:=h.t8;omega
 se:=fun i hi=>by rw [List.length_drop] at hi;rw [drop_getD];exact h.se _ (by omega)
set_option maxRecDepth 100000 in
set_option maxHeartbeats 4000000 in
theorem rbackward_w (h:HidF k fs ms ss st mv sh) (h1:1≤k) (hk:k≤1000) (hsl:seen.length≤140737488355328) (hs:∀x∈seen,-9223372036854775808≤x∧x≤9223372036854775807) :
  Good Tryz.prog 15 [hidV fs ms ss,ints seen] (.tup [rowsF (bwR st mv sh seen),I (mayE st mv sh seen)]):=by
 have hm1:=rseen_w h h1 (by omega) seen hsl hs
 by_cases hE:mayE st mv sh seen=0
 ·have ok:=mayE_ok h hE
  have ht8:=ok.t8
  have hn4:=ok.n4
  have hn1:=ok.n1
  obtain ⟨M,hM⟩:∃M,M=hm st mv sh seen:=⟨_,rfl⟩
  have eMn:M.n=st.length:=by rw [hM];rfl
  have e:bwR st mv sh seen=bRx M seen.length:=by unfold bwR;rw [if_pos hE,←hM];unfold bR bRx;rw [hM];rfl
  have hfl:fs.length=st.length:=h.ist.len
  rw [e,hE]
  refine good_of Tryz.func15 rfl (by kernel_rfl) fun X hO hrd=>?_;rw [Tryz.ntmps15,Tryz.results15];simp only [ast0,List.map_cons,List.map_nil,List.length_cons,List.length_nil,Nat.reduceAdd,Nat.reduceSub,List.replicate_succ,List.replicate_zero,List.cons_append,List.nil_append]
  (repeat (with_reducible first|refine W_seq fun K hK=>?_|refine J_region ?_ |(refine Kont.go (by assumption) ?_)|(simp (config:={ maxSteps:=3000000 }) (disch:=omega) only [go_sem,↓reduceIte,Nat.reduceAdd])))
  refine call_f hm1 rfl ?_
  (repeat (with_reducible first|refine W_seq fun K hK=>?_|refine J_block ?_|refine J_skip ?_|refine J_region ?_ |refine J_c ?_|refine Jc_false ?_|(refine Kont.go (by assumption) ?_)|(simp (config:={ maxSteps:=3000000 }) (disch:=omega) only [go_sem,hE])))
  refine J_reserve ?_
  refine W_loop [7,8,9,10,11,12,13,14,15,22,23,24,25,26,27,28,29,30,31,32,33,34,35,36,37,38,39,40,41,42,43,44,45,46,47,48,49,50,51,52,53,54,55,56,57,58,59,60,61,62,63,64,65,66,67,68,69,70,71,72,73,74,75,76,77,78,79,80,81,82,83,84] (fun x:Nat=>[(8,.f (I (x:Nat))),(7,sl 1 1 ((bRx M x).map frs))]) (fun x:Nat=>[some ⟨25,3,[.f (hidV fs ms ss)]⟩,ob 22 1 ((bRx M x).map frs)]) (fun x:Nat=>x≤seen.length) (fun x:Nat=>seen.length-x) (0) (Nat.zero_le _) (by refine weak_of ?_ ?_<;>simp (disch:=omega) only [go_sem,Nat.reduceAdd]<;>first|rfl|exact ⟨rfl,rfl⟩|exact Or.inl rfl|exact ⟨Or.inl rfl,Or.inl rfl⟩|trivial|assumption|omega|(symm;assumption)|((repeat' apply And.intro)<;>first|rfl|omega|trivial|exact .inl rfl|exact .inr ⟨rfl,rfl⟩|exact .inr rfl|(right;symm;assumption)|(symm;assumption)|assumption)) ?_
  rintro t ht
  simp only [go_sem]
  (repeat (with_reducible first|refine W_seq fun K hK=>?_|refine J_region ?_ |refine J_c ?_|(refine Kont.go (by assumption) ?_)|(simp (config:={ maxSteps:=3000000 }) (disch:=omega) only [go_sem,List.length_map])))
  refine Jc_if (fun htl=>?_) (fun htl=>?_)<;>try simp only [decide_eq_true_eq,decide_eq_false_iff_not] at htl
  ·obtain ⟨r,hr⟩:∃r,r=seen.drop (t+1):=⟨_,rfl⟩
   have hrl:r.length=seen.length-(t+1):=by rw [hr,List.length_drop]
   have k1:((t:Int)+1).toNat=t+1:=by omega
   have k2:((seen.length:Int)-((t:Int)+1)).toNat=seen.length-(t+1):=by omega
   have k3:List.take (seen.length-(t+1)) (List.drop (t+1) (seen.map I))=r.map I:=by rw [hr,List.take_of_length_le (by simp),List.map_drop]
   have hq0:List.replicate st.length (AV.f (fr 0))=((bqRow M st.length t 0 0).map fr).map AV.f:=bqRow_zero
   (repeat (with_reducible first|refine W_seq fun K hK=>?_|refine J_block ?_|refine J_skip ?_|refine J_region ?_ |(refine Kont.go (by assumption) ?_)|(simp (config:={ maxSteps:=3000000 }) (disch:=omega) only [go_sem,↓reduceIte,hfl])))
   refine call_o (noughts_w st.length hn1 (by omega)) (FrzL.fs [_]) ?_
   (repeat (first|(with_reducible first|refine W_seq fun K hK=>?_|refine J_region ?_ |(refine Kont.go (by assumption) ?_)|(simp (config:={ maxSteps:=3000000 }) (disch:=omega) only [go_sem,↓reduceIte,Nat.reduceAdd,hfl,hq0,k1,k2,k3,List.length_map,hrl]))|refine And.intro (by omega) ?_))
   obtain ⟨T,hT⟩:∃T,T=seen.length-(t+1):=⟨_,rfl⟩
   obtain ⟨l,hl⟩:∃l,l=wyL st.length T:=⟨_,rfl⟩
   obtain ⟨W,hW⟩:∃W,W=l.length:=⟨_,rfl⟩
   have hwl:=wyL_le (n:=st.length) (t:=T) hn4 (by omega)
   rw [←hl,←hW] at hwl
   have hwyl:(wyF st.length T).length=W:=by unfold wyF;rw [List.length_map,hW,hl]
   have hrw:=rways_w (n:=st.length) (T:=T) hn4 (by omega)
   have hmem:∀i,i<W→l.getD i []∈l:=fun i hi=>by rw [lget_lt l [] (by omega)];exact List.getElem_mem _
   rw [←hT]
   refine call_f hrw rfl ?_
   (repeat (with_reducible first|refine W_seq fun K hK=>?_|refine J_block ?_|refine J_region ?_ |(refine Kont.go (by assumption) ?_)|(simp (config:={ maxSteps:=3000000 }) (disch:=omega) only [go_sem,List.length_replicate])))
   refine W_loop [12,13,14,15,42,43,44,45,46,47,48,49,50,51,52,53,54,55,56,57,58,59,60,61,62,63,64,65,66,67,68,69,70,71,72,73,74,75,76,77,78,79,80] (fun x:Nat=>[(12,.f (I x))]) (fun x:Nat=>[some ⟨25,3,[.f (hidV fs ms ss)]⟩,ob 22 1 ((bRx M t).map frs),some ⟨30,3,((bqRow M st.length t x 0).map fr).map .f⟩]) (fun x:Nat=>x≤st.length) (fun x:Nat=>st.length-x) (0) (Nat.zero_le _) (by refine weak_of ?_ ?_<;>simp (disch:=omega) only [go_sem,Nat.reduceAdd]<;>first|rfl|exact ⟨rfl,rfl⟩|exact Or.inl rfl|exact ⟨Or.inl rfl,Or.inl rfl⟩|trivial|assumption|omega|(symm;assumption)|((repeat' apply And.intro)<;>first|rfl|omega|trivial|exact .inl rfl|exact .inr ⟨rfl,rfl⟩|exact .inr rfl|(right;symm;assumption)|(symm;assumption)|assumption)) ?_
   rintro s hs'
   simp only [go_sem]
   (repeat (with_reducible first|refine W_seq fun K hK=>?_|refine J_region ?_ |refine J_c ?_|(refine Kont.go (by assumption) ?_)|(simp (config:={ maxSteps:=3000000 }) (disch:=omega) only [go_sem,↓reduceIte,hfl])))
   refine Jc_if (fun hsl2=>?_) (fun hsl2=>?_)<;>try simp only [decide_eq_true_eq,decide_eq_false_iff_not] at hsl2
   ·have hms:s<mv.length:=by rw [ok.lm];exact hsl2
    obtain ⟨xs,x0,y0⟩:=h.imv.at hms
    rw [←lget_lt mv [] hms] at y0
    have ok':=ok.from (t:=t) hsl2 y0
    rw [←hr] at ok'
    have hrs:r.length≤140737488355328:=by omega
    have hTr:T≤r.length:=by omega
    obtain ⟨M',hM'⟩:∃M',M'=hm (mv.getD s []) mv sh r:=⟨_,rfl⟩
    have hn':(mv.getD s []).length=st.length:=ok.rm s hsl2
    have eMn':M'.n=st.length:=by rw [hM'];exact hn'
    have hway:=fun {w:List Nat} (hw:w∈wyL (mv.getD s []).length T)=>rwayF_w ok' h1 hk hrs hTr hw
    have hwz:=fun {w:List Nat} (hw:w∈wyL (mv.getD s []).length T)=>wl_fz ok' h1 hTr hw
    rw [←hM',hn',←hl] at hway hwz
    have hmu:=Nat.mul_le_mul (show T≤8 by omega) (show k+k≤2000 by omega)
    obtain ⟨b,hb⟩:∃b,b=8+T*(k+k):=⟨_,rfl⟩
    rw [←hb] at hwz
    have hall:wsF M' T W=M.bw t s:=by
     have:=wsF_all (h:=M') (t:=T)
     rw [eMn',←hl,←hW] at this
     rw [this,hl,←eMn',show T=M'.T by rw [hM'];show T=r.length;omega,wy_lik,hM',hr,lik_drop hn' (by omega),hM]
    have hsz:∀x,x≤W→Fz (wsF M' T x) (8+x*(b+1)):=fun x hx=>sumF_fz fun q hq=>hwz (by rw [eMn',←hl];exact hmem q (by omega))
    have h00:bqRow M st.length t s 0=bqRow M st.length t s (wsF M' T 0):=rfl
    rw [h00]
    (repeat (with_reducible first|refine W_seq fun K hK=>?_|refine J_block ?_|refine J_skip ?_|refine J_region ?_ |refine J_drawn mixed (by kernel_rfl) ?_|(refine Kont.go (by assumption) ?_)|(simp (config:={ maxSteps:=3000000 }) (disch:=omega) only [go_sem,Nat.reduceEqDiff,↓reduceIte,Nat.reduceAdd,Nat.reduceLeDiff,x0,Nat.le_refl,true_and,and_self])))
    refine W_loop [14,15,59,60,61,62,63,64,65,66,67,68,69,70,71,72,73,74,75,76,77,78,79,80] (fun x:Nat=>[(14,.f (I x))]) (fun x:Nat=>[some ⟨25,3,[.f (hidV fs ms ss)]⟩,ob 22 1 ((bRx M t).map frs),some ⟨30,3,((bqRow M st.length t s (wsF M' T x)).map fr).map .f⟩,some ⟨25,3,[.f (hidV xs ms ss)]⟩]) (fun x:Nat=>x≤W) (fun x:Nat=>W-x) (0) (Nat.zero_le _) (by refine weak_of ?_ ?_<;>simp (disch:=omega) only [go_sem,Nat.reduceAdd]<;>first|rfl|exact ⟨rfl,rfl⟩|exact Or.inl rfl|exact ⟨Or.inl rfl,Or.inl rfl⟩|trivial|assumption|omega|(symm;assumption)|((repeat' apply And.intro)<;>first|rfl|omega|trivial|exact .inl rfl|exact .inr ⟨rfl,rfl⟩|exact .inr rfl|(right;symm;assumption)|(symm;assumption)|assumption)) ?_
    rintro i hi
    simp only [go_sem]
    (repeat (with_reducible first|refine W_seq fun K hK=>?_|refine J_region ?_ |refine J_c ?_|(refine Kont.go (by assumption) ?_)|(simp (config:={ maxSteps:=3000000 }) (disch:=omega) only [go_sem,hwyl])))
    refine Jc_if (fun hil=>?_) (fun hil=>?_)<;>try simp only [decide_eq_true_eq,decide_eq_false_iff_not] at hil
    ·have hm1:=hmem i hil
     obtain ⟨w,hw⟩:∃w,w=l.getD i []:=⟨_,rfl⟩
     rw [←hw] at hm1
     have gw:(wyF st.length T)[i]?=some (wF T w):=by unfold wyF;rw [←hl,map_get (wF T) l (by omega),hw,lget_lt l [] (by omega)]
     have hcall:Good Tryz.prog 33 [hidV xs ms ss,wF T w,ints r] (fr (M'.wl w)):=hway hm1
     have c1:=IsFr.c (hsz i (by omega))
     have c2:=IsFr.c (hwz hm1)
     have hmx:=Nat.mul_le_mul (show i≤65536 by omega) (show b+1≤16009 by omega)
     have gr:=bqRow_get (h:=M) (n:=st.length) (t:=t) (q:=wsF M' T i) hsl2
     have hset:=bqRow_set (h:=M) (n:=st.length) (t:=t) (q:=wsF M' T i) (q':=wsF M' T (i+1)) hsl2
     have en:fr (wsF M' T i+M'.wl w)=fr (wsF M' T (i+1)):=by rw [hw,hl,←eMn'];rfl
     (repeat (with_reducible first|refine W_seq fun K hK=>?_|refine J_block ?_|refine J_skip ?_|refine J_drawn mixed (by kernel_rfl) ?_|(refine Kont.go (by assumption) ?_)|(simp (config:={ maxSteps:=3000000 }) (disch:=omega) only [go_sem,↓reduceIte,Nat.reduceAdd,gw,wF_cells,true_and,and_self])))
     refine callQ_f hcall rfl ?_
     (repeat (first|(with_reducible first|refine J_region ?_ |refine J_drawn mixed (by kernel_rfl) ?_|(refine Kont.go (by assumption) ?_)|(simp (config:={ maxSteps:=3000000 }) (disch:=omega) only [go_sem,↓reduceIte,Nat.reduceAdd,hsl2,gr,en,hset,true_and,and_self]))|refine callQ_f (radd_w (by assumption) (by assumption) (by omega) (by omega)) rfl ?_))
     refine ⟨i+1,by omega,by omega,weak_of ?_ ?_⟩<;>(try simp (disch:=omega) only [go_sem,Nat.reduceAdd])<;>(try first|done|omega|rfl|exact ⟨rfl,rfl⟩|trivial)
    ·have he:i=W:=by omega
     subst he
     rw [hall,bqRow_next]
     (repeat (with_reducible first|refine J_exit ?_|refine J_region ?_ |(refine Kont.go (by assumption) ?_)|(simp (config:={ maxSteps:=3000000 }) (disch:=omega) only [go_sem,↓reduceIte])))
     refine ⟨s+1,by omega,by omega,weak_of ?_ ?_⟩<;>(try simp (disch:=omega) only [go_sem,Nat.reduceAdd])<;>(try first|done|omega|rfl|exact ⟨rfl,rfl⟩|trivial)
   ·have he:s=st.length:=by omega
    subst he
    have hend:bqRow M st.length t st.length 0=bRow M (fun a b=>a+b) t:=by rw [←eMn];exact bqRow_all
    rw [hend]
    (repeat (with_reducible first|refine J_exit ?_|(refine Kont.go (by assumption) ?_)|(simp (config:={ maxSteps:=3000000 }) (disch:=omega) only [go_sem,↓reduceIte])))
    refine J_freezeO (j:=9) (l:=(bRow M (fun a b=>a+b) t).map fr) rfl (by rw [List.length_map,bRow_len,eMn]) rfl ?_
    (repeat (first|(with_reducible first|refine J_region ?_ |refine aApp_sl ?_|(refine Kont.go (by assumption) ?_)|(simp (config:={ maxSteps:=3000000 }) (disch:=omega) only [go_sem,Nat.reduceEqDiff,↓reduceIte,Nat.reduceAdd,Nat.reduceLeDiff,bRx_next,List.length_map,bRx_len]))|refine And.intro (by omega) ?_))
    refine ⟨t+1,by omega,by omega,weak_of ?_ ?_⟩<;>(try simp (disch:=omega) only [go_sem,Nat.reduceAdd])<;>(try first|done|omega|rfl|exact ⟨rfl,rfl⟩|trivial)
  ·have he:t=seen.length:=by omega
   subst he
   (repeat (with_reducible first|refine W_seq fun K hK=>?_|refine J_exit ?_|refine J_ret ?_|refine J_region ?_ |(refine Kont.go (by assumption) ?_)|(simp (config:={ maxSteps:=3000000 }) (disch:=omega) only [go_sem,↓reduceIte])))
   exact ⟨_,rfl,FrzL.cons (.sl rfl) (FrzL.cons (.f _) (FrzL.nil _))⟩
 ·have e:bwR st mv sh seen=[]:=by unfold bwR;rw [if_neg hE]
  rw [e]
  refine good_of Tryz.func15 rfl (by kernel_rfl) fun X hO hrd=>?_;rw [Tryz.ntmps15,Tryz.results15];simp only [ast0,List.map_cons,List.map_nil,List.length_cons,List.length_nil,Nat.reduceAdd,Nat.reduceSub,List.replicate_succ,List.replicate_zero,List.cons_append,List.nil_append]
  (repeat (with_reducible first|refine W_seq fun K hK=>?_|refine J_region ?_ |(refine Kont.go (by assumption) ?_)|(simp (config:={ maxSteps:=3000000 }) (disch:=omega) only [go_sem,↓reduceIte,Nat.reduceAdd])))
  refine call_f hm1 rfl ?_
  (repeat (with_reducible first|refine W_seq fun K hK=>?_|refine J_ret ?_|refine J_region ?_ |refine J_c ?_|refine Jc_true ?_|(refine Kont.go (by assumption) ?_)|(simp (config:={ maxSteps:=3000000 }) (disch:=omega) only [go_sem,hE])))
  exact ⟨_,rfl,FrzL.cons (.nil _) (FrzL.cons (.f _) (FrzL.nil _))⟩
end
end Go.Proofs.YtfjgijkhmhhkdaaGreatDoor
