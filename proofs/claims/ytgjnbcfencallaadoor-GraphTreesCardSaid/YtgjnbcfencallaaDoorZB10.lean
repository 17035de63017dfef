/- What lacks: walked. Conditions: sets below 256. -/
import Derived.Test.YtgjnbcfencallaaDoorZB08
import Derived.Test.YtgjnbcfencallaaDoorZB09
import Derived.Test.YtgjnbcfencallaaDoorZB07
import Derived.Test.YtgjnbcfencallaaDoorZB05
set_option linter.unusedVariables false
set_option linter.unusedSimpArgs false
namespace Go.Proofs.YtgjnbcfencallaaDoor
open Go Go.RowKit
theorem U_get {l:List Nat} {v:Nat} (h:v<l.length):(l.map U)[v]?=some (U (l.getD v 0)):=by rw [map_get U l h,lget_lt l 0 h]
set_option maxRecDepth 100000 in
set_option maxHeartbeats 8000000 in
theorem lacks_w {l:List Nat} {s:Nat} (hl:∀v,l.getD v 0<256) (hn:l.length≤8) (hs:s<256) (hb:∀v,s.testBit v=true→v<l.length) :
  Good Tryd.prog 47 [.fz 1 (l.map U),U s] (I ((lackS l s (els s).length/2:Nat):Int)):=by
 have hit:=all_iter s hs
 have hel:=els_len (s:=s)
 have h0:I 0=I ((lackS l s 0:Nat):Int):=by unfold lackS;rfl
 refine good_of Tryd.func47 rfl (by kernel_rfl) fun X hO hrd=>?_;rw [Tryd.ntmps47,Tryd.results47];simp only [ast0,List.map_cons,List.map_nil,List.length_cons,List.length_nil,Nat.reduceAdd,Nat.reduceSub,List.replicate_succ,List.replicate_zero,List.cons_append,List.nil_append]
 (repeat (with_reducible first|refine W_seq fun K hK=>?_|refine J_block ?_|refine J_region ?_ |(refine Kont.go (by assumption) ?_)|(simp (config:={ maxSteps:=3000000 }) (disch:=omega) only [go_sem,↓reduceIte,Nat.reduceAdd])))
 refine J_rangeW hrd [6,9,10,11,12,13,14,15,16,17,18,19,20,21] (fun i=>[some ⟨52,1,[.f (.fz 1 (l.map U))]⟩,some ⟨56,1,[.f (U s)]⟩,some ⟨3,1,[.f (I ((lackS l s i:Nat):Int))]⟩]) rfl (hit) (by kernel_rfl) (by refine weak_of ?_ ?_<;>simp (disch:=omega) only [go_sem,Nat.reduceAdd]<;>first|rfl|exact ⟨rfl,rfl⟩|trivial|((repeat' apply And.intro)<;>first|rfl|trivial|exact .inl rfl|exact .inr ⟨rfl,rfl⟩|exact .inr rfl)) (by decide) (by kernel_rfl) (by kernel_rfl) ?_ ?_
 ·rintro i x hx X1 hX1 K hK
  obtain ⟨v,rfl,hv8,hvs,hvi,htk⟩:=els_take hx
  simp only [go_sem]
  (repeat (with_reducible first|refine J_region ?_ |(refine Kont.go (by assumption) ?_)|(simp (config:={ maxSteps:=3000000 }) (disch:=omega) only [go_sem])))
  intro X2 hX2
  have hvl:=hb v hvs
  have g1:=U_get hvl
  have a1:=u_an hs (hl v)
  have a2:=u_shl hv8
  have a3:=u_an (dif_lt (b:=l.getD v 0) hs) (bit_lt hv8)
  have hlen:=len_w (dif_lt (b:=bit v) (dif_lt (b:=l.getD v 0) hs))
  have hnx:=lackS_next (l:=l) (s:=s) hvi
  have hi8:i<8:=by have:=(List.getElem?_eq_some_iff.1 hvi).1;omega
  have hle:=lackS_le (l:=l) (s:=s) i (by omega)
  have hle2:=els_len (s:=dif (dif s (l.getD v 0)) (bit v))
  have hnx':((lackS l s i:Nat):Int)+((els (dif (dif s (l.getD v 0)) (bit v))).length:Int)=((lackS l s (i+1):Nat):Int):=by omega
  (repeat (with_reducible first|refine J_block ?_|refine J_drawn mixed (by kernel_rfl) ?_|(simp (config:={ maxSteps:=3000000 }) (disch:=omega) only [go_sem,↓reduceIte,g1,a1,a2,a3,true_and,and_self])))
  (first|refine call_f (hlen) rfl ?_|refine callQ_f (hlen) rfl ?_|refine callHK_f (hlen) rfl ?_|refine callH_f (hlen) rfl ?_)
  (repeat (with_reducible first|(simp (config:={ maxSteps:=3000000 }) (disch:=omega) only [go_sem,hnx'])))
  refine rpost_n (weak_of ?_ ?_)<;>(try simp (disch:=omega) only [go_sem,Nat.reduceAdd])<;>(try first|done|omega|rfl|exact ⟨rfl,rfl⟩|trivial)
 ·have he:((els s).map Int.ofNat).length=(els s).length:=by rw [List.length_map]
  rw [he]
  have hle:=lackS_le (l:=l) (s:=s) (els s).length hel
  have hq:((lackS l s (els s).length:Nat):Int).tdiv 2=((lackS l s (els s).length/2:Nat):Int):=by
   rw [Int.tdiv_eq_ediv_of_nonneg (by omega)];omega
  simp only [go_sem]
  (repeat (with_reducible first|refine W_seq fun K hK=>?_|refine J_ret ?_|refine J_region ?_ |exact Frz.f _|(refine Kont.go (by assumption) ?_)|(simp (config:={ maxSteps:=3000000 }) (disch:=omega) only [go_sem,↓reduceIte,Int.reduceEq,hq])))
end Go.Proofs.YtgjnbcfencallaaDoor
set_option linter.unusedVariables false
set_option linter.unusedSimpArgs false
namespace Go.Proofs.YtgjnbcfencallaaDoor
open Go Go.RowKit
def symB (L:List (List Int)):Bool:=(List.range L.length).all fun v=>(els ((setsOf L).getD v 0)).all fun u=>((setsOf L).getD u 0).testBit v
def filE (L:List (List Int)):Int:=if listsB L=true∧symB L=true then 0 else 11
def lft (n:Nat):Nat:=2^n-1
def filO (L:List (List Int)):List Nat:=if listsB L=true∧symB L=true then (List.range L.length).map (fB (setsOf L) (lft L.length)) else []
def filB (L:List (List Int)):List Nat:=if listsB L=true∧symB L=true then (List.range L.length).map (fBag (setsOf L) (lft L.length)) else []
def bA (l:List Nat) (left:Nat):Nat→Int × Nat
 | 0=>(-1,0)
 | i+1=>if (bA l left i).1<0∨lk l left ((els left).getD i 0)<(bA l left i).2 then (((els left).getD i 0:Nat),lk l left ((els left).getD i 0)) else bA l left i
def updI (l:List Nat) (left i:Nat):List Nat:=(List.range l.length).map fun v=>if v∈(els (updS l left)).take i then l.getD v 0|||dif (updS l left) (bit v) else l.getD v 0
theorem sn_lt {f:Nat→Nat} {m:Nat}:∀{n:Nat},(∀k,k<n→f k≤m)→sn f n≤n*m:=by
 intro n
 induction n with
 | zero=>intro _;simp [sn]
 | succ n ih=>intro h;have h1:=ih fun k hk=>h k (by omega);have h2:=h n (by omega);show sn f n+f n≤_;rw [Nat.add_mul];omega
section
variable {l : List Nat} {n left i v u : Nat}
theorem bA_inv:∀i,i≤(els left).length→(i=0∧bA l left i=(-1,0))∨(0<i∧∃v:Nat,(bA l left i)=((v:Int),lk l left v)∧v∈(els left).take i∧∀u∈(els left).take i,lk l left v≤lk l left u∧(lk l left u=lk l left v→v≤u)):=by
 intro i
 induction i with
 | zero=>intro _;exact .inl ⟨rfl,rfl⟩
 | succ i ih =>
  intro hi
  have hil:i<(els left).length:=by omega
  have hg:(els left).getD i 0=(els left)[i]:=lget_lt _ 0 hil
  have htk:(els left).take (i+1)=(els left).take i++[(els left)[i]]:=by rw [List.take_add_one,List.getElem?_eq_getElem hil];rfl
  refine .inr ⟨by omega,?_⟩
  unfold bA
  rw [hg]
  rcases ih (by omega) with ⟨rfl,e⟩|⟨h0,v,e,hm,hb⟩
  ·rw [e,if_pos (.inl (by decide))]
   refine ⟨_,rfl,by rw [htk];simp,fun u hu=>?_⟩
   rw [htk] at hu
   simp at hu
   rw [hu]
   exact ⟨Nat.le_refl _,fun _=>Nat.le_refl _⟩
  ·rw [e]
   by_cases hc:lk l left (els left)[i]<lk l left v
   ·rw [if_pos (.inr hc)]
    refine ⟨_,rfl,by rw [htk];exact List.mem_append_right _ (List.mem_singleton.2 rfl),fun u hu=>?_⟩
    rw [htk] at hu
    rcases List.mem_append.1 hu with hu|hu
    ·have:=(hb u hu).1
     exact ⟨by omega,fun e=>by omega⟩
    ·rw [List.mem_singleton.1 hu];exact ⟨Nat.le_refl _,fun _=>Nat.le_refl _⟩
   ·rw [if_neg (fun h=>by rcases h with h|h;exact absurd h (by simp only;omega);exact hc h)]
    refine ⟨v,rfl,by rw [htk];exact List.mem_append_left _ hm,fun u hu=>?_⟩
    rw [htk] at hu
    rcases List.mem_append.1 hu with hu|hu
    ·exact hb u hu
    ·rw [List.mem_singleton.1 hu]
     refine ⟨by omega,fun _=>?_⟩
     obtain ⟨j,hj,ej⟩:=List.getElem_of_mem hm
     rw [List.length_take] at hj
     rw [List.getElem_take] at ej
     have:=(List.pairwise_iff_getElem.1 (els_sorted (s:=left))) j i (by omega) hil (by omega)
     omega
theorem bA_end (h0:left≠0) (h8:left<256):bA l left (els left).length=(((bst l left:Nat):Int),lk l left (bst l left)):=by
 have hb:=bst_lt (l:=l) h0 h8
 have hm:bst l left∈els left:=els_mem.2 ⟨hb.here,hb.mem⟩
 rcases bA_inv (l:=l) (left:=left) _ (Nat.le_refl _) with ⟨e,_⟩|⟨_,v,e,hv,hl⟩
 ·rw [List.length_eq_zero_iff.1 e] at hm;simp at hm
 ·rw [e]
  rw [List.take_length] at hv hl
  have h1:=hl _ hm
  obtain ⟨hv8,hvb⟩:=els_mem.1 hv
  have h2:=hb.least v hv8 hvb
  have:v=bst l left:=by
   have a:=h1.1
   have b:=h2.1
   have c:=h1.2 (by omega)
   have d:=h2.2 (by omega)
   omega
  rw [this]
theorem bA_le:∀i,(bA l left i).2≤64∧-1≤(bA l left i).1∧(bA l left i).1≤8:=by
 have hlk:∀v,lk l left v≤64:=fun v=>sn_lt (m:=8) fun a ha=>Nat.le_trans (sn_lt (m:=1) fun b hb=>by unfold lackF;split<;>omega) (by omega)
 intro i
 induction i with
 | zero=>exact ⟨Nat.zero_le _,Int.le_refl _,by show (-1:Int)≤8;decide⟩
 | succ i ih =>
  unfold bA
  split
  ·refine ⟨hlk _,by simp only;omega,?_⟩
   simp only
   by_cases hi:i<(els left).length
   ·rw [lget_lt _ 0 hi]
    have:=(els_mem.1 (List.getElem_mem hi)).1
    omega
   ·rw [List.getD_eq_getElem?_getD,List.getElem?_eq_none (by omega)];simp
  ·exact ih
theorem updI_zero:updI l left 0=l:=by
 unfold updI
 apply List.ext_getElem?
 intro j
 by_cases hj:j<l.length
 ·simp [hj]
 ·rw [List.getElem?_eq_none (by simp;omega),List.getElem?_eq_none (by omega)]
theorem updI_len:(updI l left i).length=l.length:=by simp [updI]
theorem updI_get (h:v<l.length):(updI l left i).getD v 0=if v∈(els (updS l left)).take i then l.getD v 0|||dif (updS l left) (bit v) else l.getD v 0:=by
 rw [lget_lt _ 0 (by rw [updI_len];exact h)];simp [updI]
theorem updI_all (h8:updS l left<256):updI l left (els (updS l left)).length=updL l left:=by
 unfold updI updL
 refine List.map_congr_left fun v hv=>?_
 rw [List.take_length]
 have:(v∈els (updS l left))=((updS l left).testBit v=true):=propext ⟨fun h=>(els_mem.1 h).2,fun h=>els_mem.2 ⟨bits_lt8 h8 h,h⟩⟩
 simp only [this]
theorem updI_step (hu:(els (updS l left))[i]?=some u) (hul:u<l.length):(((updI l left i).map U).map AV.f).set u (.f (U (l.getD u 0|||dif (updS l left) (bit u))))=((updI l left (i+1)).map U).map .f:=by
 rw [←List.map_set,←List.map_set]
 congr 2
 unfold updI
 rw [range_set hul]
 refine List.map_congr_left fun k hk=>?_
 rw [List.take_add_one,hu]
 by_cases e:k=u
 ·subst e;simp
 ·simp [e]
theorem updI_cur (hu:(els (updS l left))[i]?=some u) (hul:u<l.length):(updI l left i).getD u 0=l.getD u 0:=by
 rw [updI_get hul,if_neg]
 intro hm
 have hnd:=els_nodup (s:=updS l left)
 rw [←List.take_append_drop i (els (updS l left))] at hnd
 have hd:u∈(els (updS l left)).drop i:=List.mem_of_getElem? (i:=0) (by rw [List.getElem?_drop];exact hu)
 exact (List.nodup_append.1 hnd).2.2 u hm u hd rfl
end
theorem lft_bit {n u:Nat} (hn:n≤8):(lft n).testBit u=decide (u<n):=by
 unfold lft;exact Nat.testBit_two_pow_sub_one n u
theorem lft_lt {n:Nat} (hn:n≤8):lft n<256:=lt256 fun v hv=>by
 rw [lft_bit hn] at hv;have:=of_decide_eq_true hv;omega
theorem lft_shl:∀n:Nat,n≤8→IntKind.u64.wrap (IntKind.u64.wrap (1*2^min n 64)-1)=((lft n:Nat):Int):=by decide
theorem symB_ok {L:List (List Int)} (hb:listsB L=true) (hs:symB L=true):GrOk L.length (setsOf L):=by
 have hg:=GP.of hb
 have h1:∀v u,((setsOf L).getD v 0).testBit u=true→((setsOf L).getD u 0).testBit v=true:=fun v u h=>by
  have hv:=(hg.pa u v h).2
  have:=List.all_eq_true.1 (List.all_eq_true.1 hs v (List.mem_range.2 hv)) u (els_mem.2 ⟨bits_lt8 hg.lt8 h,h⟩)
  exact this
 refine ⟨hg.len,hg.n8,fun a b=>?_,hg.irr,hg.lt⟩
 rw [Bool.eq_iff_iff]
 exact ⟨h1 a b,h1 b a⟩
end Go.Proofs.YtgjnbcfencallaaDoor
set_option linter.unusedVariables false
set_option linter.unusedSimpArgs false
namespace Go.Proofs.YtgjnbcfencallaaDoor
open Go Go.RowKit
section
variable {n v u s : Nat} {l : List Nat}
end
end Go.Proofs.YtgjnbcfencallaaDoor
set_option linter.unusedVariables false
set_option linter.unusedSimpArgs false
namespace Go.Proofs.YtgjnbcfencallaaDoor
open Go Go.RowKit
abbrev Wx:=Nat→Nat→Bool
def rowB (n:Nat) (W:Wx) (v:Nat):List FV:=(List.range n).map fun u=>Bo (W v u)
def rowsB (n:Nat) (W:Wx) (x:Nat):List (List FV):=(List.range x).map (rowB n W)
def oesF (c n x:Nat):List AV:=(List.range n).map fun j=>if j<x then .own (c+j) 1 0 n else .f nilV
section
variable {c n x i j k N : Nat} {W V : Wx}
theorem rowsB_len:(rowsB n W x).length=x:=by simp [rowsB]
theorem objLt_oesF {e:TypeId} (h:c+x≤N):objLt N ⟨e,1,oesF c n x⟩=True:=propext ⟨fun _=>trivial,fun _ y hy=>by
 obtain ⟨j,_,rfl⟩:=List.mem_map.1 (show y∈oesF c n x from hy)
 split
 ·exact decide_eq_true (show c+j<N by omega)
 ·rfl⟩
theorem oesF_kill1 {r:Nat} (h:r<c):(oesF c n x).map (AV.kill1 r)=oesF c n x:=by
 unfold oesF
 rw [List.map_map]
 refine List.map_congr_left fun j _=>?_
 show AV.kill1 r (if j<x then _ else _)=_
 split
 ·simp only [kill1_own];rw [if_neg (by omega)]
 ·rfl
theorem dy_kill {A B:AH} {e:TypeId} {sz r:Nat} {R:List (List FV)}:List.map (killO r) (dy A e sz R B)=dy (A.map (killO r)) e sz R (B.map (killO r)):=by
 unfold dy
 rw [List.map_append,List.map_append]
 congr 2
 unfold rowsO
 rw [List.map_map]
 refine List.map_congr_left fun l _=>?_
 show killO r (some _)=some _
 rw [killO_def,map_kill1_f]
end
section
variable {A A' B : AH} {e : TypeId} {sz a n : Nat} {R : List (List FV)} {ns : List Nat}
end
attribute [go_sem] rowsB_len objLt_oesF oesF_kill1 dy_kill
end Go.Proofs.YtgjnbcfencallaaDoor
set_option linter.unusedVariables false
set_option linter.unusedSimpArgs false
namespace Go.Proofs.YtgjnbcfencallaaDoor
open Go Go.RowKit
section
variable {n v left j x u s i k : Nat} {l o L : List Nat} {W : Wx}
theorem upd_bit (h:GrOk n l) (hv:v<n):((updL l left).getD v 0).testBit u=((l.getD v 0).testBit u||((updS l left).testBit v&&(updS l left).testBit u&&decide (v≠u))):=by
 have hg:(updL l left).getD v 0=if (updS l left).testBit v=true then l.getD v 0|||dif (updS l left) (bit v) else l.getD v 0:=by
  unfold updL
  rw [List.getD_eq_getElem?_getD,List.getElem?_map,List.getElem?_range (by rw [h.len];exact hv)];rfl
 rw [hg]
 cases hs:(updS l left).testBit v with
 | false=>rw [if_neg (by decide)];simp
 | true =>
  rw [if_pos rfl,Nat.testBit_or,dif_bit,bit_bit]
  by_cases e:v=u<;>simp [e]
end
end Go.Proofs.YtgjnbcfencallaaDoor
set_option linter.unusedVariables false
set_option linter.unusedSimpArgs false
namespace Go.Proofs.YtgjnbcfencallaaDoor
open Go Go.RowKit
def inA (S:List Nat) (i:Nat):Bool:=(List.range (S.take i).length).any fun q=>decide (dif (S.getD i 0) ((S.take i).getD q 0)=0)
def inC (S:List Nat) (i:Nat):Bool:=(List.range (S.drop (i+1)).length).any fun q=>decide (dif (S.getD i 0) ((S.drop (i+1)).getD q 0)=0)&&!decide (S.getD i 0=(S.drop (i+1)).getD q 0)
def inO (S:List Nat) (i:Nat):Bool:=inA S i||inC S i
def kpT (S:List Nat) (x:Nat):List Nat:=((List.range x).filter fun i=>!inO S i).map fun i=>S.getD i 0
def cnt (K:List Nat) (a b:Nat):Nat:=(els (K.getD a 0&&&K.getD b 0)).length
def mostI (K:List Nat):Option (Nat × Nat)→Int
 | none=>-1
 | some (a,b)=>cnt K a b
def stpB (K:List Nat) (done a:Nat) (o:Option (Nat × Nat)) (b:Nat):Option (Nat × Nat):=if done.testBit b=false∧mostI K o<cnt K a b then some (a,b) else o
def rowL (K:List Nat) (done a:Nat) (o:Option (Nat × Nat)) (x:Nat):Option (Nat × Nat):=(List.range x).foldl (stpB K done a) o
def rowsL (K:List Nat) (done:Nat) (l:List Nat):Option (Nat × Nat):=l.foldl (fun o a=>rowL K done a o K.length) none
def bstL (K:List Nat) (done:Nat):Nat × Nat:=(rowsL K done (els done)).getD (0,0)
def trS (K:List Nat):Nat→List (Nat × Nat) × Nat
 | 0=>([],1)
 | j+1=>((trS K j).1++[bstL K (trS K j).2],(trS K j).2|||bit (bstL K (trS K j).2).2)
section
variable {S K l : List Nat} {i x a b done j m : Nat} {o : Option (Nat × Nat)}
theorem kpT_next:kpT S (x+1)=kpT S x++if inO S x=true then [] else [S.getD x 0]:=by
 unfold kpT
 rw [List.range_succ,List.filter_append,List.map_append]
 congr 1
 cases h:inO S x<;>simp [h]
theorem rowL_next:rowL K done a o (x+1)=stpB K done a (rowL K done a o x) x:=by unfold rowL;rw [List.range_succ,List.foldl_append];rfl
theorem rowsL_next:rowsL K done (l++[a])=rowL K done a (rowsL K done l) K.length:=by unfold rowsL;rw [List.foldl_append];rfl
structure LinkOk (K : List Nat) (done : Nat) (o : Option (Nat × Nat)) : Prop where
  here : ∀ a b, o = some (a, b) → done.testBit a = true ∧ done.testBit b = false ∧ a < 8 ∧ b < K.length
theorem stpB_some (h:done.testBit b=false):(stpB K done a o b).isSome=true:=by
 unfold stpB
 cases o with
 | none=>rw [if_pos ⟨h,by show (-1:Int)<_;omega⟩];rfl
 | some p=>split<;>rfl
theorem stpB_keep (h:o.isSome=true):(stpB K done a o b).isSome=true:=by
 unfold stpB;split
 ·rfl
 ·exact h
theorem stpB_ok (ha:done.testBit a=true) (ha8:a<8) (hb:b<K.length) (h:LinkOk K done o):LinkOk K done (stpB K done a o b):=by
 unfold stpB
 split
 ·rename_i h1
  exact ⟨fun a' b' e=>by cases e;exact ⟨ha,h1.1,ha8,hb⟩⟩
 ·exact h
theorem rowL_ok (ha:done.testBit a=true) (ha8:a<8) (h:LinkOk K done o):∀x,x≤K.length→LinkOk K done (rowL K done a o x):=by
 intro x
 induction x with
 | zero=>intro _;exact h
 | succ x ih=>intro hx;rw [rowL_next];exact stpB_ok ha ha8 (by omega) (ih (by omega))
theorem rowL_keep (h:o.isSome=true):∀x,(rowL K done a o x).isSome=true:=by
 intro x
 induction x with
 | zero=>exact h
 | succ x ih=>rw [rowL_next];exact stpB_keep ih
theorem rowL_some (hb:b<K.length) (h:done.testBit b=false):∀x,b<x→(rowL K done a o x).isSome=true:=by
 intro x
 induction x with
 | zero=>intro h;omega
 | succ x ih =>
  intro hx
  rw [rowL_next]
  by_cases e:b=x
  ·subst e;exact stpB_some h
  ·exact stpB_keep (ih (by omega))
theorem rowsL_ok:∀l:List Nat,(∀a∈l,done.testBit a=true∧a<8)→∀o,LinkOk K done o→LinkOk K done (l.foldl (fun o a=>rowL K done a o K.length) o):=by
 intro l
 induction l with
 | nil=>intro _ o h;exact h
 | cons a l ih =>
  intro hl o h
  obtain ⟨h1,h2⟩:=hl a (List.mem_cons_self ..)
  exact ih (fun c hc=>hl c (List.mem_cons_of_mem _ hc)) _ (rowL_ok h1 h2 h _ (Nat.le_refl _))
theorem rowsL_keep:∀l:List Nat,∀o:Option (Nat × Nat),o.isSome=true→(l.foldl (fun o a=>rowL K done a o K.length) o).isSome=true:=by
 intro l
 induction l with
 | nil=>intro o h;exact h
 | cons a l ih=>intro o h;exact ih _ (rowL_keep h _)
theorem rowsL_some (hb:b<K.length) (h:done.testBit b=false) (hl:l≠[]):(rowsL K done l).isSome=true:=by
 cases l with
 | nil=>exact absurd rfl hl
 | cons a l=>exact rowsL_keep l _ (rowL_some hb h _ hb)
end
structure TrOk (K : List Nat) (j : Nat) : Prop where
  lt : (trS K j).2 < 256
  len : (trS K j).1.length = j
  card : (els (trS K j).2).length = j + 1
  below : ∀ u, (trS K j).2.testBit u = true → u < K.length
section
variable {K : List Nat} {j s b m : Nat}
theorem els_add (h8:b<8) (h:s.testBit b=false):(els (s|||bit b)).length=(els s).length+1:=by
 unfold els
 rw [filter_len,filter_len,sn_congr (g:=fun v=>(if s.testBit v=true then 1 else 0)+(if v=b then 1 else 0)) fun v _=>?_,sn_add]
 ·congr 1
  revert h8
  clear h
  revert b
  decide
 ·rw [Nat.testBit_or,bit_bit]
  by_cases e:v=b
  ·subst e;simp [h]
  ·have:decide (b=v)=false:=decide_eq_false fun h=>e h.symm
   rw [this,Bool.or_false,if_neg e];rfl
theorem some_free (hl:(els s).length<m) (hm:m≤8):∃u,u<m∧s.testBit u=false:=by
 refine Classical.byContradiction fun hn=>?_
 have hall:∀u,u<m→u∈els s:=fun u hu=>els_mem.2 ⟨by omega,by
  cases h:s.testBit u with
  | true=>rfl
  | false=>exact absurd ⟨u,hu,h⟩ hn⟩
 have:=List.Nodup.length_le_of_subset (List.nodup_range (n:=m)) (l₂:=els s) fun x hx=>hall x (List.mem_range.1 hx)
 simp at this
 omega
theorem TrOk.zero (h:1≤K.length):TrOk K 0:=⟨by show 1<256;decide,rfl,by show (els 1).length=1;decide,fun u hu=>by
 have e:(trS K 0).2=bit 0:=rfl
 rw [e,bit_bit] at hu
 have:=of_decide_eq_true hu;omega⟩
theorem TrOk.best (h:TrOk K j) (hm:K.length≤8) (hj:j+1<K.length):rowsL K (trS K j).2 (els (trS K j).2)=some (bstL K (trS K j).2)∧(trS K j).2.testBit (bstL K (trS K j).2).1=true∧(trS K j).2.testBit (bstL K (trS K j).2).2=false∧(bstL K (trS K j).2).1<K.length∧(bstL K (trS K j).2).2<K.length:=by
 obtain ⟨u,hu,hf⟩:=some_free (s:=(trS K j).2) (m:=K.length) (by rw [h.card];exact hj) hm
 have hne:els (trS K j).2≠[]:=fun e=>by have:=h.card;rw [e] at this;simp at this
 have h1:=rowsL_some hu hf hne
 have h2:=rowsL_ok (K:=K) (els (trS K j).2) (fun a ha=>⟨(els_mem.1 ha).2,(els_mem.1 ha).1⟩) none ⟨fun a b e=>by cases e⟩
 unfold bstL
 cases hr:rowsL K (trS K j).2 (els (trS K j).2) with
 | none=>rw [hr] at h1;cases h1
 | some p =>
  obtain ⟨k1,k2,k3,k4⟩:=h2.here p.1 p.2 hr
  exact ⟨rfl,k1,k2,h.below _ k1,k4⟩
theorem TrOk.next (h:TrOk K j) (hm:K.length≤8) (hj:j+1<K.length):TrOk K (j+1):=by
 obtain ⟨h1,h2,h3,h4,h5⟩:=h.best hm hj
 refine ⟨or_lt h.lt (bit_lt (by omega)),?_,?_,fun u hu=>?_⟩
 ·show ((trS K j).1++[_]).length=_
  rw [List.length_append,h.len];rfl
 ·show (els ((trS K j).2|||bit _)).length=_
  rw [els_add (by omega) h3,h.card]
 ·have e:(trS K (j+1)).2=(trS K j).2|||bit (bstL K (trS K j).2).2:=rfl
  rw [e,Nat.testBit_or,bit_bit] at hu
  cases hb:(trS K j).2.testBit u with
  | true=>exact h.below u hb
  | false=>rw [hb,Bool.false_or] at hu;rw [←of_decide_eq_true hu];exact h5
theorem TrOk.all (h1:1≤K.length) (hm:K.length≤8):∀j,j+1≤K.length→TrOk K j:=by
 intro j
 induction j with
 | zero=>intro _;exact .zero h1
 | succ j ih=>intro hj;exact (ih (by omega)).next hm (by omega)
end
end Go.Proofs.YtgjnbcfencallaaDoor
set_option linter.unusedVariables false
set_option linter.unusedSimpArgs false
namespace Go.Proofs.YtgjnbcfencallaaDoor
open Go Go.RowKit
abbrev Hd:=Nat→Option Obj
def Hd.put (h:Hd) (b:Nat) (o:Obj):Hd:=fun k=>if k=b then some o else h k
def Hd.one (b:Nat) (o:Obj):Hd:=fun k=>if k=b then some o else none
section
variable {P : Program} {X : Cx} {w : World} {F : Nat → Prop} {loc : Nat → Nat × Nat} {s : AS} {a : Act} {h h' : Hd}
def aopX (X:Cx) (P:Program) (o:Oper) (K:Hd→AS→Prop) (h:Hd) (s:AS):Prop :=
 match o.op with
 | .makeMap t none=>∀b,X.w0.heap.size≤b→K (h.put b (.map #[] 0)) (s.put o.dst (.f (.v (.map (some b)))))
 | .lookup t m k false=>∃(b:Nat) (ob:Obj) (x:FV) (kv r:Value),s.ev m=.f (.v (.map (some b)))∧h b=some ob∧s.ev k=.f x∧x.val=some kv∧(∀w:World,w.heap[b]?=some ob→(Instr.lookup t (.map (some b)) kv false).run P w=.ok r w)∧K h (s.put o.dst (.f (.v r)))
 | .mapUpdate t m k x=>∃(b:Nat) (ob ob':Obj) (y z:FV) (kv xv:Value),s.ev m=.f (.v (.map (some b)))∧h b=some ob∧X.w0.heap.size≤b∧s.ev k=.f y∧y.val=some kv∧s.ev x=.f z∧z.val=some xv ∧
   (∀w:World,w.heap[b]?=some ob→(Instr.mapUpdate t (.map (some b)) kv xv).run P w=.ok () (w.putObj b ob'))∧(∃es c,ob'=.map es c)∧K (h.put b ob') (s.put o.dst (.f (.v undef)))
 | _=>aop P o (K h) s
def aopsX (X:Cx) (P:Program) (ops:Array Oper):List Oper→(Hd→AS→Prop)→Hd→AS→Prop
 | [],K,h,s=>K h s
 | o::rest,K,h,s=>awant ops o s (aopX X P o (aopsX X P ops rest K) h s) (aopsX X P ops rest K h (s.put o.dst (.f (.v undef))))
variable {Q : Exit → Hd → AS → Prop}
def KontH (K A:Hd→AS→Prop):Prop:=∀h s,A h s→K h s
theorem KontH.go {K A:Hd→AS→Prop} {h:Hd} {s:AS} (hk:KontH K A) (ha:A h s):K h s:=hk h s ha
def hthen (K:Hd→AS→Prop) (Q:Exit→Hd→AS→Prop):Exit→Hd→AS→Prop
 | .normal,h,s=>K h s
 | e,h,s=>Q e h s
def hblock (id:Nat) (Q:Exit→Hd→AS→Prop):Exit→Hd→AS→Prop
 | .exit id',h,s=>if id'=id then Q .normal h s else Q (.exit id') h s
 | e,h,s=>Q e h s
theorem hthen_n {K:Hd→AS→Prop} {Q:Exit→Hd→AS→Prop} {h:Hd} {s:AS}:hthen K Q .normal h s=K h s:=rfl
theorem hthen_x {K:Hd→AS→Prop} {Q:Exit→Hd→AS→Prop} {h:Hd} {s:AS} {i:Nat}:hthen K Q (.exit i) h s=Q (.exit i) h s:=rfl
theorem hthen_r {K:Hd→AS→Prop} {Q:Exit→Hd→AS→Prop} {h:Hd} {s:AS}:hthen K Q .ret h s=Q .ret h s:=rfl
theorem hblock_n {j:Nat} {Q:Exit→Hd→AS→Prop} {h:Hd} {s:AS}:hblock j Q .normal h s=Q .normal h s:=rfl
theorem hblock_x {j i:Nat} {Q:Exit→Hd→AS→Prop} {h:Hd} {s:AS}:hblock j Q (.exit i) h s=if i=j then Q .normal h s else Q (.exit i) h s:=rfl
theorem hblock_r {j:Nat} {Q:Exit→Hd→AS→Prop} {h:Hd} {s:AS}:hblock j Q .ret h s=Q .ret h s:=rfl
theorem ren_fn1 {g:Nat→Nat} {f:FuncId} {y:FV}:AV.ren g (.fn f [.f y] [])=.fn f [.f y] []:=rfl
theorem lt0_fn1 {n:Nat} {f:FuncId} {y:FV}:(AV.lt0 n (.fn f [.f y] [])=true)=True:=eq_self true
end
section
variable {P : Program} {X : Cx} {ops : Array Oper} {rest : List Oper} {K : Hd → AS → Prop} {h : Hd} {s : AS} {d : Option Tmp} {t ty : TypeId} {pos : String} {af : Array Edge} {m k x : Operand}
theorem aopsX_nil:aopsX X P ops [] K h s=K h s:=rfl
end
attribute [go_sem] ren_fn1 lt0_fn1 hthen_n hthen_x hthen_r hblock_n hblock_x hblock_r aopsX_nil
section
variable {P : Program} {X : Cx} {w : World} {F : Nat → Prop} {loc : Nat → Nat × Nat} {s : AS} {a : Act}
end
end Go.Proofs.YtgjnbcfencallaaDoor
