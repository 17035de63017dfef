/- Rows of truth values that rows own. Conditions: none. -/
import Derived.Test.YtgjnbcfencallaaDoorZB08
import Derived.Test.YtgjnbcfencallaaDoorZB05
import Derived.Test.YtgjnbcfencallaaDoorZB10
import Derived.Test.YtgjnbcfencallaaDoorZB07
set_option linter.unusedVariables false
set_option linter.unusedSimpArgs false
namespace Go.Proofs.YtgjnbcfencallaaDoor
open Go Go.RowKit
abbrev Wx:=Nat→Nat→Bool
def rowB (n:Nat) (W:Wx) (v:Nat):List FV:=(List.range n).map fun u=>Bo (W v u)
def rowsB (n:Nat) (W:Wx) (x:Nat):List (List FV):=(List.range x).map (rowB n W)
def oesF (c n x:Nat):List AV:=(List.range n).map fun j=>if j<x then .own (c+j) 1 0 n else .f nilV
section
variable {c n x i j k N : Nat} {W V : Wx}
theorem rowB_len:(rowB n W i).length=n:=by simp [rowB]
theorem rowsB_len:(rowsB n W x).length=x:=by simp [rowsB]
theorem oesF_len:(oesF c n x).length=n:=by simp [oesF]
theorem rowB_get (h:j<n):((rowB n W i).map AV.f)[j]?=some (.f (Bo (W i j))):=by simp [rowB,h]
theorem rowsB_get (h:i<x):(rowsB n W x)[i]?=some (rowB n W i):=by simp [rowsB,h]
theorem rowsB_next:rowsB n W x++[rowB n W x]=rowsB n W (x+1):=by simp [rowsB,List.range_succ]
theorem rowB_false (h:∀u,u<n→W i u=false):List.replicate n (AV.f (Bo false))=(rowB n W i).map AV.f:=by
 apply List.ext_getElem?
 intro u
 by_cases hu:u<n
 ·rw [rowB_get hu,h u hu];simp [hu]
 ·rw [List.getElem?_eq_none (by simp;omega),List.getElem?_eq_none (by rw [List.length_map,rowB_len];omega)]
theorem oesF_zero:List.replicate n (AV.f nilV)=oesF c n 0:=by
 apply List.ext_getElem?
 intro j
 by_cases h:j<n<;>simp [oesF,h]
theorem oesF_get (h:i<x) (hn:i<n):(oesF c n x)[i]?=some (.own (c+i) 1 0 n):=by simp [oesF,h,hn]
theorem oesF_set (h:x<n):(oesF c n x).set x (.own (c+x) 1 0 n)=oesF c n (x+1):=by
 apply List.ext_getElem?
 intro j
 by_cases e:j=x
 ·subst e;rw [List.getElem?_set_self (by rw [oesF_len];exact h)];simp [oesF,h]
 ·rw [List.getElem?_set_ne (Ne.symm e)]
  by_cases hj:j<n
  ·have:(j<x+1)=(j<x):=propext ⟨fun h=>by omega,fun h=>by omega⟩
   simp [oesF,hj,this]
  ·rw [List.getElem?_eq_none (by rw [oesF_len];omega),List.getElem?_eq_none (by rw [oesF_len];omega)]
theorem objLt_oesF {e:TypeId} (h:c+x≤N):objLt N ⟨e,1,oesF c n x⟩=True:=propext ⟨fun _=>trivial,fun _ y hy=>by
 obtain ⟨j,_,rfl⟩:=List.mem_map.1 (show y∈oesF c n x from hy)
 split
 ·exact decide_eq_true (show c+j<N by omega)
 ·rfl⟩
theorem oesF_ren {g:Nat→Nat} (h:∀r,c≤r→g r=r):(oesF c n x).map (AV.ren g)=oesF c n x:=by
 unfold oesF
 rw [List.map_map]
 refine List.map_congr_left fun j _=>?_
 show AV.ren _ (if j<x then _ else _)=_
 split
 ·show AV.own (g (c+j)) 1 0 n=_
  rw [h _ (by omega)]
 ·rfl
theorem rowsB_congr (h:∀a b,a<x→b<n→W a b=V a b):rowsB n W x=rowsB n V x :=
 List.map_congr_left fun i hi=>List.map_congr_left fun k hk=>by rw [h i k (List.mem_range.1 hi) (List.mem_range.1 hk)]
theorem rowsB_upd {t:Bool} (hi:i<x) (hj:j<n) (hw:∀a b,a<x→b<n→V a b=if a=i∧b=j then t else W a b):(rowsB n W x).set i ((rowB n W i).set j (Bo t))=rowsB n V x:=by
 apply List.ext_getElem?
 intro a
 by_cases e:a=i
 ·subst e
  rw [List.getElem?_set_self (by rw [rowsB_len];exact hi),rowsB_get hi]
  congr 1
  apply List.ext_getElem?
  intro b
  by_cases e2:b=j
  ·subst e2
   rw [List.getElem?_set_self (by rw [rowB_len];exact hj)]
   simp [rowB,hj,hw a b hi hj]
  ·rw [List.getElem?_set_ne (Ne.symm e2)]
   by_cases hb:b<n
   ·simp [rowB,hb,hw a b hi hb,e2]
   ·rw [List.getElem?_eq_none (by rw [rowB_len];omega),List.getElem?_eq_none (by rw [rowB_len];omega)]
 ·rw [List.getElem?_set_ne (Ne.symm e)]
  by_cases ha:a<x
  ·rw [rowsB_get ha,rowsB_get ha]
   congr 1
   refine List.map_congr_left fun b hb=>?_
   rw [hw a b ha (List.mem_range.1 hb),if_neg (fun h=>e h.1)]
  ·rw [List.getElem?_eq_none (by rw [rowsB_len];omega),List.getElem?_eq_none (by rw [rowsB_len];omega)]
theorem oesF_kill1 {r:Nat} (h:r<c):(oesF c n x).map (AV.kill1 r)=oesF c n x:=by
 unfold oesF
 rw [List.map_map]
 refine List.map_congr_left fun j _=>?_
 show AV.kill1 r (if j<x then _ else _)=_
 split
 ·simp only [kill1_own];rw [if_neg (by omega)]
 ·rfl
theorem dy_kill {A B:AH} {e:TypeId} {sz r:Nat} {R:List (List FV)}:List.map (killO r) (dy A e sz R B)=dy (A.map (killO r)) e sz R (B.map (killO r)):=by
 unfold dy
 rw [List.map_append,List.map_append]
 congr 2
 unfold rowsO
 rw [List.map_map]
 refine List.map_congr_left fun l _=>?_
 show killO r (some _)=some _
 rw [killO_def,map_kill1_f]
theorem frz_rows {A B:AH} {e e2:TypeId} {r:Nat} (ha:A.length=c) (hr:A[r]?=some (some ⟨e,1,oesF c n n⟩)):Frz (dy A e2 1 (rowsB n W n) B) (.own r 1 0 n) (.fz 1 ((List.range n).map fun v=>.fz 1 (rowB n W v))):=by
 have hg:(dy A e2 1 (rowsB n W n) B)[r]?=some (some ⟨e,1,oesF c n n⟩):=by rw [dy_get0 (glt hr)];exact hr
 refine Frz.own r 1 0 n _ ((List.range n).map fun v=>.fz 1 (rowB n W v)) hg rfl (by show 0+n≤(oesF c n n).length;rw [oesF_len];omega) (by simp) fun j e d he hd=>?_
 have hjk:j<n:=by
  rcases Nat.lt_or_ge j n with h|h
  ·exact h
  ·rw [List.getElem?_eq_none (by simp;omega)] at hd;cases hd
 rw [Nat.zero_add,show (AO.mk _ 1 (oesF c n n)).es=oesF c n n from rfl,oesF_get hjk hjk] at he
 cases he
 simp [hjk] at hd
 subst hd
 exact Frz.own0 (dy_getR ha (rowsB_get hjk)) rowB_len.symm
end
def gNm (a:Nat) (ns:List Nat) (r:Nat):Nat:=if r<a then ns.getD r 0 else r
section
variable {A A' B : AH} {e : TypeId} {sz a n : Nat} {R : List (List FV)} {ns : List Nat}
theorem gNm_ge {r:Nat} (h:a≤r):gNm a ns r=r:=if_neg (by omega)
end
attribute [go_sem] rowsB_len objLt_oesF oesF_kill1 dy_kill
end Go.Proofs.YtgjnbcfencallaaDoor
set_option linter.unusedVariables false
set_option linter.unusedSimpArgs false
namespace Go.Proofs.YtgjnbcfencallaaDoor
open Go Go.RowKit
def wl (l:List Nat):Wx:=fun a b=>(l.getD a 0).testBit b
def bD (l:List Nat) (left n:Nat):Nat→Int × Nat
 | 0=>(-1,0)
 | j+1=>if left.testBit (n-1-j)=true∧((bD l left n j).1<0∨lk l left (n-1-j)≤(bD l left n j).2) then (((n-1-j:Nat):Int),lk l left (n-1-j)) else bD l left n j
def bgT (s x:Nat):List Nat:=(List.range x).filter fun u=>s.testBit u
def wb (W:Wx) (L:List Nat) (i k:Nat):Wx:=fun a b=>W a b||(decide (a≠b)&&(decide (a∈L.take i)&&decide (b∈L)||decide (L[i]?=some a)&&decide (b∈L.take k)))
section
variable {n v left j x u s i k : Nat} {l o L : List Nat} {W : Wx}
theorem dl_lk (hg:GrOk n l) (hl:∀u,left.testBit u=(decide (u<n)&&decide (u∉o))):sn (fun a=>sn (lackD l v o a) a) n=lk l left v:=by
 unfold lk lackN
 rw [sn_more (n:=n) (m:=8) hg.n8 fun a ha=>sn_zero fun b _=>by
  unfold lackF
  rw [Nat.testBit_and,hl a,decide_eq_false (by omega:¬a<n)]
  simp]
 refine sn_congr fun a ha=>sn_congr fun b hb=>?_
 unfold lackD pairD lackF
 rw [Nat.testBit_and,Nat.testBit_and,hl a,hl b,decide_eq_true ha,decide_eq_true (by omega:b<n),decide_eq_true (by omega:a≠b)]
 congr 1
 rw [decide_not,decide_not]
 generalize decide (a∈o)=x1
 generalize decide (b∈o)=x2
 generalize (l.getD v 0).testBit a=x3
 generalize (l.getD v 0).testBit b=x4
 generalize (l.getD a 0).testBit b=x5
 revert x1 x2 x3 x4 x5
 decide
theorem bD_inv (hl:∀u,left.testBit u=true→u<n):∀j,j≤n→((∀u,n-j≤u→left.testBit u=false)∧bD l left n j=(-1,0))∨∃v:Nat,bD l left n j=((v:Int),lk l left v)∧IsBest l left (fun u=>n-j≤u) v:=by
 intro j
 induction j with
 | zero =>
  intro _
  refine .inl ⟨fun u hu=>?_,rfl⟩
  cases h:left.testBit u with
  | false=>rfl
  | true=>have:=hl u h;omega
 | succ j ih =>
  intro hj
  have hsp:∀u,n-(j+1)≤u→u=n-1-j∨n-j≤u:=fun u hu=>by omega
  rcases ih (by omega) with ⟨h1,h2⟩|⟨w,h1,h2⟩
  ·cases ht:left.testBit (n-1-j) with
   | false =>
    refine .inl ⟨fun u hu=>?_,by unfold bD;rw [if_neg (fun h=>by rw [ht] at h;cases h.1),h2]⟩
    rcases hsp u hu with rfl|h
    ·exact ht
    ·exact h1 u h
   | true =>
    refine .inr ⟨n-1-j,by unfold bD;rw [if_pos ⟨ht,.inl (by rw [h2];decide)⟩],ht,by omega,fun u hu hub=>?_⟩
    rcases hsp u hu with rfl|h
    ·exact ⟨Nat.le_refl _,fun _=>Nat.le_refl _⟩
    ·rw [h1 u h] at hub;cases hub
  ·have hw:=h2.here
   by_cases hc:left.testBit (n-1-j)=true∧lk l left (n-1-j)≤lk l left w
   ·refine .inr ⟨n-1-j,by unfold bD;rw [if_pos ⟨hc.1,.inr (by rw [h1];exact hc.2)⟩],hc.1,by omega,fun u hu hub=>?_⟩
    rcases hsp u hu with rfl|h
    ·exact ⟨Nat.le_refl _,fun _=>Nat.le_refl _⟩
    ·have:=h2.least u h hub
     exact ⟨by omega,fun _=>by omega⟩
   ·refine .inr ⟨w,by unfold bD;rw [if_neg (fun h=>h.2.elim (fun h0=>by rw [h1] at h0;simp only at h0;omega) fun h0=>hc ⟨h.1,by rw [h1] at h0;exact h0⟩),h1],h2.mem,by omega,fun u hu hub=>?_⟩
    rcases hsp u hu with rfl|h
    ·have:¬lk l left (n-1-j)≤lk l left w:=fun h=>hc ⟨hub,h⟩
     exact ⟨by omega,fun e=>by omega⟩
    ·exact h2.least u h hub
theorem bD_end (h0:left≠0) (h8:left<256) (hl:∀u,left.testBit u=true→u<n) (hn:n≤8):bD l left n n=(((bst l left:Nat):Int),lk l left (bst l left)):=by
 rcases bD_inv (l:=l) hl n (Nat.le_refl _) with ⟨h1,_⟩|⟨v,h1,h2⟩
 ·exact absurd (ext_bits h8 (by decide) fun v hv=>by rw [Nat.zero_testBit];exact h1 v (by omega)) h0
 ·have hv:=hl v h2.mem
  have hb:IsBest l left (fun u=>u<8) v:=⟨h2.mem,by omega,fun u _ hub=>h2.least u (by omega) hub⟩
  rw [h1,bst_eq hb]
theorem bD_le (hl:∀u,left.testBit u=true→u<n) (hn:n≤8) (hj:j≤n):(bD l left n j).2≤64∧-1≤(bD l left n j).1∧(bD l left n j).1≤8:=by
 have hlk:∀v,lk l left v≤64:=fun v=>sn_lt (m:=8) fun a ha=>Nat.le_trans (sn_lt (m:=1) fun b hb=>by unfold lackF;split<;>omega) (by omega)
 rcases bD_inv (l:=l) hl j hj with ⟨_,h1⟩|⟨v,h1,h2⟩
 ·rw [h1];exact ⟨Nat.zero_le _,Int.le_refl _,by show (-1:Int)≤8;decide⟩
 ·have:=hl v h2.mem
  rw [h1];exact ⟨hlk v,by simp only;omega,by simp only;omega⟩
theorem bgT_next:bgT s (x+1)=bgT s x++if s.testBit x=true then [x] else []:=by
 unfold bgT
 rw [List.range_succ,List.filter_append]
 congr 1
 cases h:s.testBit x<;>simp [h]
theorem bgT_in (h:s.testBit x=true):Ns (bgT s x)++[I (x:Int)]=Ns (bgT s (x+1)):=by rw [bgT_next,if_pos h];exact Ns_snoc
theorem bgT_out (h:s.testBit x=false):bgT s (x+1)=bgT s x:=by rw [bgT_next,if_neg (by rw [h];decide),List.append_nil]
theorem bgT_len:(bgT s x).length≤x:=by
 unfold bgT;exact Nat.le_trans (List.length_filter_le _ _) (by simp)
theorem bgT_end (hn:n≤8) (hs:∀u,s.testBit u=true→u<n):bgT s n=els s:=by
 unfold els
 have h:∀m,n≤m→bgT s m=bgT s n:=by
  intro m
  induction m with
  | zero=>intro h;rw [show n=0 by omega]
  | succ m ih =>
   intro h
   by_cases e:n=m+1
   ·rw [e]
   ·rw [bgT_out (by cases hb:s.testBit m with
     | false=>rfl
     | true=>have:=hs m hb;omega),ih (by omega)]
 exact (h 8 hn).symm
theorem upd_bit (h:GrOk n l) (hv:v<n):((updL l left).getD v 0).testBit u=((l.getD v 0).testBit u||((updS l left).testBit v&&(updS l left).testBit u&&decide (v≠u))):=by
 have hg:(updL l left).getD v 0=if (updS l left).testBit v=true then l.getD v 0|||dif (updS l left) (bit v) else l.getD v 0:=by
  unfold updL
  rw [List.getD_eq_getElem?_getD,List.getElem?_map,List.getElem?_range (by rw [h.len];exact hv)];rfl
 rw [hg]
 cases hs:(updS l left).testBit v with
 | false=>rw [if_neg (by decide)];simp
 | true =>
  rw [if_pos rfl,Nat.testBit_or,dif_bit,bit_bit]
  by_cases e:v=u<;>simp [e]
theorem bag_upd (h:GrOk n l) (hv:v<n):wl (updL l left) v u=(wl l v u||(decide (v≠u)&&((updS l left|||bit (bst l left)).testBit v&&(updS l left|||bit (bst l left)).testBit u))):=by
 unfold wl
 rw [upd_bit h hv,Nat.testBit_or,Nat.testBit_or,bit_bit,bit_bit]
 have hS:∀u,(updS l left).testBit u=true→(l.getD (bst l left) 0).testBit u=true:=fun u hu=>by
  unfold updS at hu
  rw [Nat.testBit_and] at hu
  exact (Bool.and_eq_true_iff.1 hu).1
 by_cases e:v=u
 ·subst e;simp
 ·by_cases e1:bst l left=v
  ·subst e1
   cases hu:(updS l left).testBit u with
   | true=>rw [hS u hu];simp
   | false=>simp [e]
  ·by_cases e2:bst l left=u
   ·subst e2
    cases hu:(updS l left).testBit v with
    | true=>rw [h.sym,hS v hu];simp
    | false=>simp [e1]
   ·simp [e,e1,e2,Bool.and_comm]
theorem wb_zero:wb W L 0 0=W:=by funext a b;simp [wb]
theorem wb_same {y:Nat} (hi:L[i]?=some y) (hk:L[k]?=some y):wb W L i (k+1)=wb W L i k:=by
 funext a b
 unfold wb
 rw [hi,List.take_add_one,hk]
 by_cases e:a=y
 ·subst e
  by_cases e2:b=a<;>simp [e2]
 ·simp [Ne.symm e,eq_comm]
theorem wb_set {y z:Nat} (hi:L[i]?=some y) (hk:L[k]?=some z) (hne:y≠z) (a b:Nat):wb W L i (k+1) a b=if a=y∧b=z then true else wb W L i k a b:=by
 unfold wb
 rw [hi,List.take_add_one,hk]
 by_cases e:a=y
 ·subst e
  by_cases e2:b=z
  ·subst e2;simp [hne]
  ·simp [e2]
 ·simp [e,Ne.symm e,eq_comm]
theorem wb_row {y:Nat} (hi:L[i]?=some y):wb W L i L.length=wb W L (i+1) 0:=by
 funext a b
 unfold wb
 rw [hi,List.take_add_one,hi,List.take_length]
 by_cases e:a=y
 ·subst e
  rw [decide_eq_true (show a∈L.take i++(some a).toList by simp)]
  cases decide (a∈L.take i)<;>cases decide (b∈L)<;>simp
 ·simp [e,Ne.symm e,eq_comm]
theorem wb_end:wb W L L.length 0=fun a b=>(W a b||(decide (a≠b)&&(decide (a∈L)&&decide (b∈L)))):=by
 funext a b
 unfold wb
 rw [List.take_length]
 simp
end
end Go.Proofs.YtgjnbcfencallaaDoor
set_option linter.unusedVariables false
set_option linter.unusedSimpArgs false
namespace Go.Proofs.YtgjnbcfencallaaDoor
open Go Go.RowKit
def inA (S:List Nat) (i:Nat):Bool:=(List.range (S.take i).length).any fun q=>decide (dif (S.getD i 0) ((S.take i).getD q 0)=0)
def inC (S:List Nat) (i:Nat):Bool:=(List.range (S.drop (i+1)).length).any fun q=>decide (dif (S.getD i 0) ((S.drop (i+1)).getD q 0)=0)&&!decide (S.getD i 0=(S.drop (i+1)).getD q 0)
def inO (S:List Nat) (i:Nat):Bool:=inA S i||inC S i
def kpT (S:List Nat) (x:Nat):List Nat:=((List.range x).filter fun i=>!inO S i).map fun i=>S.getD i 0
def cnt (K:List Nat) (a b:Nat):Nat:=(els (K.getD a 0&&&K.getD b 0)).length
def mostI (K:List Nat):Option (Nat × Nat)→Int
 | none=>-1
 | some (a,b)=>cnt K a b
def stpB (K:List Nat) (done a:Nat) (o:Option (Nat × Nat)) (b:Nat):Option (Nat × Nat):=if done.testBit b=false∧mostI K o<cnt K a b then some (a,b) else o
def rowL (K:List Nat) (done a:Nat) (o:Option (Nat × Nat)) (x:Nat):Option (Nat × Nat):=(List.range x).foldl (stpB K done a) o
def rowsL (K:List Nat) (done:Nat) (l:List Nat):Option (Nat × Nat):=l.foldl (fun o a=>rowL K done a o K.length) none
def bstL (K:List Nat) (done:Nat):Nat × Nat:=(rowsL K done (els done)).getD (0,0)
def trS (K:List Nat):Nat→List (Nat × Nat) × Nat
 | 0=>([],1)
 | j+1=>((trS K j).1++[bstL K (trS K j).2],(trS K j).2|||bit (bstL K (trS K j).2).2)
section
variable {S K l : List Nat} {i x a b done j m : Nat} {o : Option (Nat × Nat)}
theorem kpT_next:kpT S (x+1)=kpT S x++if inO S x=true then [] else [S.getD x 0]:=by
 unfold kpT
 rw [List.range_succ,List.filter_append,List.map_append]
 congr 1
 cases h:inO S x<;>simp [h]
theorem rowL_next:rowL K done a o (x+1)=stpB K done a (rowL K done a o x) x:=by unfold rowL;rw [List.range_succ,List.foldl_append];rfl
theorem rowsL_next:rowsL K done (l++[a])=rowL K done a (rowsL K done l) K.length:=by unfold rowsL;rw [List.foldl_append];rfl
def rowsR (K:List Nat) (done x:Nat):Option (Nat × Nat):=(List.range x).foldl (fun o a=>if done.testBit a=true then rowL K done a o K.length else o) none
theorem rowsR_next:rowsR K done (x+1)=if done.testBit x=true then rowL K done x (rowsR K done x) K.length else rowsR K done x:=by unfold rowsR;rw [List.range_succ,List.foldl_append];rfl
theorem rows_eq (hm:K.length≤8) (hd:∀u,done.testBit u=true→u<K.length):rowsR K done K.length=rowsL K done (els done):=by
 unfold rowsR rowsL
 rw [←bgT_end hm hd]
 unfold bgT
 rw [List.foldl_filter]
structure LinkOk (K : List Nat) (done : Nat) (o : Option (Nat × Nat)) : Prop where
  here : ∀ a b, o = some (a, b) → done.testBit a = true ∧ done.testBit b = false ∧ a < 8 ∧ b < K.length
theorem stpB_some (h:done.testBit b=false):(stpB K done a o b).isSome=true:=by
 unfold stpB
 cases o with
 | none=>rw [if_pos ⟨h,by show (-1:Int)<_;omega⟩];rfl
 | some p=>split<;>rfl
theorem stpB_keep (h:o.isSome=true):(stpB K done a o b).isSome=true:=by
 unfold stpB;split
 ·rfl
 ·exact h
theorem stpB_ok (ha:done.testBit a=true) (ha8:a<8) (hb:b<K.length) (h:LinkOk K done o):LinkOk K done (stpB K done a o b):=by
 unfold stpB
 split
 ·rename_i h1
  exact ⟨fun a' b' e=>by cases e;exact ⟨ha,h1.1,ha8,hb⟩⟩
 ·exact h
theorem rowL_ok (ha:done.testBit a=true) (ha8:a<8) (h:LinkOk K done o):∀x,x≤K.length→LinkOk K done (rowL K done a o x):=by
 intro x
 induction x with
 | zero=>intro _;exact h
 | succ x ih=>intro hx;rw [rowL_next];exact stpB_ok ha ha8 (by omega) (ih (by omega))
theorem rowL_keep (h:o.isSome=true):∀x,(rowL K done a o x).isSome=true:=by
 intro x
 induction x with
 | zero=>exact h
 | succ x ih=>rw [rowL_next];exact stpB_keep ih
theorem rowL_some (hb:b<K.length) (h:done.testBit b=false):∀x,b<x→(rowL K done a o x).isSome=true:=by
 intro x
 induction x with
 | zero=>intro h;omega
 | succ x ih =>
  intro hx
  rw [rowL_next]
  by_cases e:b=x
  ·subst e;exact stpB_some h
  ·exact stpB_keep (ih (by omega))
theorem rowsL_ok:∀l:List Nat,(∀a∈l,done.testBit a=true∧a<8)→∀o,LinkOk K done o→LinkOk K done (l.foldl (fun o a=>rowL K done a o K.length) o):=by
 intro l
 induction l with
 | nil=>intro _ o h;exact h
 | cons a l ih =>
  intro hl o h
  obtain ⟨h1,h2⟩:=hl a (List.mem_cons_self ..)
  exact ih (fun c hc=>hl c (List.mem_cons_of_mem _ hc)) _ (rowL_ok h1 h2 h _ (Nat.le_refl _))
theorem rowsL_keep:∀l:List Nat,∀o:Option (Nat × Nat),o.isSome=true→(l.foldl (fun o a=>rowL K done a o K.length) o).isSome=true:=by
 intro l
 induction l with
 | nil=>intro o h;exact h
 | cons a l ih=>intro o h;exact ih _ (rowL_keep h _)
theorem rowsL_some (hb:b<K.length) (h:done.testBit b=false) (hl:l≠[]):(rowsL K done l).isSome=true:=by
 cases l with
 | nil=>exact absurd rfl hl
 | cons a l=>exact rowsL_keep l _ (rowL_some hb h _ hb)
end
structure TrOk (K : List Nat) (j : Nat) : Prop where
  lt : (trS K j).2 < 256
  len : (trS K j).1.length = j
  card : (els (trS K j).2).length = j + 1
  below : ∀ u, (trS K j).2.testBit u = true → u < K.length
section
variable {K : List Nat} {j s b m : Nat}
theorem els_add (h8:b<8) (h:s.testBit b=false):(els (s|||bit b)).length=(els s).length+1:=by
 unfold els
 rw [filter_len,filter_len,sn_congr (g:=fun v=>(if s.testBit v=true then 1 else 0)+(if v=b then 1 else 0)) fun v _=>?_,sn_add]
 ·congr 1
  revert h8
  clear h
  revert b
  decide
 ·rw [Nat.testBit_or,bit_bit]
  by_cases e:v=b
  ·subst e;simp [h]
  ·have:decide (b=v)=false:=decide_eq_false fun h=>e h.symm
   rw [this,Bool.or_false,if_neg e];rfl
theorem some_free (hl:(els s).length<m) (hm:m≤8):∃u,u<m∧s.testBit u=false:=by
 refine Classical.byContradiction fun hn=>?_
 have hall:∀u,u<m→u∈els s:=fun u hu=>els_mem.2 ⟨by omega,by
  cases h:s.testBit u with
  | true=>rfl
  | false=>exact absurd ⟨u,hu,h⟩ hn⟩
 have:=List.Nodup.length_le_of_subset (List.nodup_range (n:=m)) (l₂:=els s) fun x hx=>hall x (List.mem_range.1 hx)
 simp at this
 omega
theorem TrOk.zero (h:1≤K.length):TrOk K 0:=⟨by show 1<256;decide,rfl,by show (els 1).length=1;decide,fun u hu=>by
 have e:(trS K 0).2=bit 0:=rfl
 rw [e,bit_bit] at hu
 have:=of_decide_eq_true hu;omega⟩
theorem TrOk.best (h:TrOk K j) (hm:K.length≤8) (hj:j+1<K.length):rowsL K (trS K j).2 (els (trS K j).2)=some (bstL K (trS K j).2)∧(trS K j).2.testBit (bstL K (trS K j).2).1=true∧(trS K j).2.testBit (bstL K (trS K j).2).2=false∧(bstL K (trS K j).2).1<K.length∧(bstL K (trS K j).2).2<K.length:=by
 obtain ⟨u,hu,hf⟩:=some_free (s:=(trS K j).2) (m:=K.length) (by rw [h.card];exact hj) hm
 have hne:els (trS K j).2≠[]:=fun e=>by have:=h.card;rw [e] at this;simp at this
 have h1:=rowsL_some hu hf hne
 have h2:=rowsL_ok (K:=K) (els (trS K j).2) (fun a ha=>⟨(els_mem.1 ha).2,(els_mem.1 ha).1⟩) none ⟨fun a b e=>by cases e⟩
 unfold bstL
 cases hr:rowsL K (trS K j).2 (els (trS K j).2) with
 | none=>rw [hr] at h1;cases h1
 | some p =>
  obtain ⟨k1,k2,k3,k4⟩:=h2.here p.1 p.2 hr
  exact ⟨rfl,k1,k2,h.below _ k1,k4⟩
theorem TrOk.next (h:TrOk K j) (hm:K.length≤8) (hj:j+1<K.length):TrOk K (j+1):=by
 obtain ⟨h1,h2,h3,h4,h5⟩:=h.best hm hj
 refine ⟨or_lt h.lt (bit_lt (by omega)),?_,?_,fun u hu=>?_⟩
 ·show ((trS K j).1++[_]).length=_
  rw [List.length_append,h.len];rfl
 ·show (els ((trS K j).2|||bit _)).length=_
  rw [els_add (by omega) h3,h.card]
 ·have e:(trS K (j+1)).2=(trS K j).2|||bit (bstL K (trS K j).2).2:=rfl
  rw [e,Nat.testBit_or,bit_bit] at hu
  cases hb:(trS K j).2.testBit u with
  | true=>exact h.below u hb
  | false=>rw [hb,Bool.false_or] at hu;rw [←of_decide_eq_true hu];exact h5
theorem TrOk.all (h1:1≤K.length) (hm:K.length≤8):∀j,j+1≤K.length→TrOk K j:=by
 intro j
 induction j with
 | zero=>intro _;exact .zero h1
 | succ j ih=>intro hj;exact (ih (by omega)).next hm (by omega)
def stdL (K:List Nat) (j:Nat):List Nat:=0::(trS K j).1.map Prod.snd
theorem stdL_next:stdL K (j+1)=stdL K j++[(bstL K (trS K j).2).2]:=by
 show 0::((trS K j).1++[_]).map Prod.snd=_
 rw [List.map_append];rfl
theorem stdL_bit:∀j u,(trS K j).2.testBit u=decide (u∈stdL K j):=by
 intro j
 induction j with
 | zero =>
  intro u
  have e:(trS K 0).2=bit 0:=rfl
  rw [e,bit_bit]
  exact decide_eq_decide.2 ⟨fun h=>by subst h;exact List.mem_cons_self ..,fun h=>by simpa [stdL,trS,eq_comm] using h⟩
 | succ j ih =>
  intro u
  have e:(trS K (j+1)).2=(trS K j).2|||bit (bstL K (trS K j).2).2:=rfl
  rw [e,Nat.testBit_or,bit_bit,ih,stdL_next,Bool.eq_iff_iff]
  simp only [Bool.or_eq_true,decide_eq_true_eq,List.mem_append,List.mem_singleton]
  exact ⟨fun h=>h.imp id Eq.symm,fun h=>h.imp id Eq.symm⟩
end
end Go.Proofs.YtgjnbcfencallaaDoor
set_option linter.unusedVariables false
set_option linter.unusedSimpArgs false
namespace Go.Proofs.YtgjnbcfencallaaDoor
open Go Go.RowKit
abbrev Hd:=Nat→Option Obj
def Hd.put (h:Hd) (b:Nat) (o:Obj):Hd:=fun k=>if k=b then some o else h k
def Hd.one (b:Nat) (o:Obj):Hd:=fun k=>if k=b then some o else none
section
variable {P : Program} {X : Cx} {w : World} {F : Nat → Prop} {loc : Nat → Nat × Nat} {s : AS} {a : Act} {h h' : Hd}
def aopX (X:Cx) (P:Program) (o:Oper) (K:Hd→AS→Prop) (h:Hd) (s:AS):Prop :=
 match o.op with
 | .makeMap t none=>∀b,X.w0.heap.size≤b→K (h.put b (.map #[] 0)) (s.put o.dst (.f (.v (.map (some b)))))
 | .lookup t m k false=>∃(b:Nat) (ob:Obj) (x:FV) (kv r:Value),s.ev m=.f (.v (.map (some b)))∧h b=some ob∧s.ev k=.f x∧x.val=some kv∧(∀w:World,w.heap[b]?=some ob→(Instr.lookup t (.map (some b)) kv false).run P w=.ok r w)∧K h (s.put o.dst (.f (.v r)))
 | .mapUpdate t m k x=>∃(b:Nat) (ob ob':Obj) (y z:FV) (kv xv:Value),s.ev m=.f (.v (.map (some b)))∧h b=some ob∧X.w0.heap.size≤b∧s.ev k=.f y∧y.val=some kv∧s.ev x=.f z∧z.val=some xv ∧
   (∀w:World,w.heap[b]?=some ob→(Instr.mapUpdate t (.map (some b)) kv xv).run P w=.ok () (w.putObj b ob'))∧(∃es c,ob'=.map es c)∧K (h.put b ob') (s.put o.dst (.f (.v undef)))
 | _=>aop P o (K h) s
def aopsX (X:Cx) (P:Program) (ops:Array Oper):List Oper→(Hd→AS→Prop)→Hd→AS→Prop
 | [],K,h,s=>K h s
 | o::rest,K,h,s=>awant ops o s (aopX X P o (aopsX X P ops rest K) h s) (aopsX X P ops rest K h (s.put o.dst (.f (.v undef))))
variable {Q : Exit → Hd → AS → Prop}
def KontH (K A:Hd→AS→Prop):Prop:=∀h s,A h s→K h s
theorem KontH.go {K A:Hd→AS→Prop} {h:Hd} {s:AS} (hk:KontH K A) (ha:A h s):K h s:=hk h s ha
def hthen (K:Hd→AS→Prop) (Q:Exit→Hd→AS→Prop):Exit→Hd→AS→Prop
 | .normal,h,s=>K h s
 | e,h,s=>Q e h s
def hblock (id:Nat) (Q:Exit→Hd→AS→Prop):Exit→Hd→AS→Prop
 | .exit id',h,s=>if id'=id then Q .normal h s else Q (.exit id') h s
 | e,h,s=>Q e h s
theorem hthen_n {K:Hd→AS→Prop} {Q:Exit→Hd→AS→Prop} {h:Hd} {s:AS}:hthen K Q .normal h s=K h s:=rfl
theorem hthen_x {K:Hd→AS→Prop} {Q:Exit→Hd→AS→Prop} {h:Hd} {s:AS} {i:Nat}:hthen K Q (.exit i) h s=Q (.exit i) h s:=rfl
theorem hthen_r {K:Hd→AS→Prop} {Q:Exit→Hd→AS→Prop} {h:Hd} {s:AS}:hthen K Q .ret h s=Q .ret h s:=rfl
theorem hblock_n {j:Nat} {Q:Exit→Hd→AS→Prop} {h:Hd} {s:AS}:hblock j Q .normal h s=Q .normal h s:=rfl
theorem hblock_x {j i:Nat} {Q:Exit→Hd→AS→Prop} {h:Hd} {s:AS}:hblock j Q (.exit i) h s=if i=j then Q .normal h s else Q (.exit i) h s:=rfl
theorem hblock_r {j:Nat} {Q:Exit→Hd→AS→Prop} {h:Hd} {s:AS}:hblock j Q .ret h s=Q .ret h s:=rfl
theorem ren_fn1 {g:Nat→Nat} {f:FuncId} {y:FV}:AV.ren g (.fn f [.f y] [])=.fn f [.f y] []:=rfl
theorem lt0_fn1 {n:Nat} {f:FuncId} {y:FV}:(AV.lt0 n (.fn f [.f y] [])=true)=True:=eq_self true
end
section
variable {P : Program} {X : Cx} {ops : Array Oper} {rest : List Oper} {K : Hd → AS → Prop} {h : Hd} {s : AS} {d : Option Tmp} {t ty : TypeId} {pos : String} {af : Array Edge} {m k x : Operand}
theorem aopsX_nil:aopsX X P ops [] K h s=K h s:=rfl
end
attribute [go_sem] ren_fn1 lt0_fn1 hthen_n hthen_x hthen_r hblock_n hblock_x hblock_r aopsX_nil
section
variable {P : Program} {X : Cx} {w : World} {F : Nat → Prop} {loc : Nat → Nat × Nat} {s : AS} {a : Act}
end
end Go.Proofs.YtgjnbcfencallaaDoor
