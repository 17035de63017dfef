/- What Fill comes to: the edges that lack, the best node, the steps. Plain Lean. Conditions: none. -/
import Derived.Test.YthehegidpamldaaGreatDoorZB18
set_option linter.unusedVariables false
set_option linter.unusedSimpArgs false
namespace Go.Proofs.YthehegidpamldaaGreatDoor
open Go Go.RowKit
def sn (f:Nat→Nat):Nat→Nat
 | 0=>0
 | n+1=>sn f n+f n
section
variable {f g : Nat → Nat} {n : Nat}
end
def lackF (l:List Nat) (s a b:Nat):Nat:=if (s.testBit a&&s.testBit b&&!(l.getD a 0).testBit b&&decide (a≠b))=true then 1 else 0
def lackN (l:List Nat) (s:Nat):Nat:=sn (fun a=>sn (lackF l s a) a) 8
def SymG (l:List Nat):Prop:=∀a b,(l.getD a 0).testBit b=(l.getD b 0).testBit a
section
variable {l : List Nat} {s v : Nat}
end
def lk (l:List Nat) (left v:Nat):Nat:=lackN l (l.getD v 0&&&left)
structure IsBest (l : List Nat) (left : Nat) (p : Nat → Prop) (v : Nat) : Prop where
  mem : left.testBit v = true
  here : p v
  least : ∀ u, p u → left.testBit u = true → lk l left v ≤ lk l left u ∧ (lk l left u = lk l left v → v ≤ u)
def bst (l:List Nat) (left:Nat):Nat:=((els left).find? fun v=>(els left).all fun u=>decide (lk l left v≤lk l left u∧(lk l left u=lk l left v→v≤u))).getD 0
section
variable {l : List Nat} {left v : Nat}
theorem bst_eq (h:IsBest l left (fun u=>u<8) v):bst l left=v:=by
 unfold bst
 have h8:∀u,u∈els left→u<8∧left.testBit u=true:=fun u hu=>els_mem.1 hu
 have hv:v∈els left:=els_mem.2 ⟨h.here,h.mem⟩
 cases hf:(els left).find? fun v=>(els left).all fun u=>decide (lk l left v≤lk l left u∧(lk l left u=lk l left v→v≤u)) with
 | none =>
  have:=List.find?_eq_none.1 hf v hv
  refine absurd ?_ this
  rw [List.all_eq_true]
  intro u hu
  obtain ⟨h1,h2⟩:=h8 u hu
  exact decide_eq_true (h.least u h1 h2)
 | some w =>
  have hw:=List.mem_of_find?_eq_some hf
  have hp:=List.find?_some hf
  rw [List.all_eq_true] at hp
  have h1:=of_decide_eq_true (hp v hv)
  obtain ⟨w1,w2⟩:=h8 w hw
  have h2:=h.least w w1 w2
  show w=v
  have a:=h1.1
  have b:=h2.1
  have e:lk l left w=lk l left v:=by omega
  have c:=h1.2 e.symm
  have d:=h2.2 e
  omega
end
def updG (l:List Nat) (left:Nat):Nat:=l.getD (bst l left) 0&&&left
def updL (l:List Nat) (left:Nat):List Nat:=(List.range l.length).map fun v=>if (updG l left).testBit v=true then l.getD v 0|||dif (updG l left) (bit v) else l.getD v 0
def fS (l0:List Nat) (left0:Nat):Nat→List Nat × Nat
 | 0=>(l0,left0)
 | k+1=>(updL (fS l0 left0 k).1 (fS l0 left0 k).2,dif (fS l0 left0 k).2 (bit (bst (fS l0 left0 k).1 (fS l0 left0 k).2)))
def fB (l0:List Nat) (left0 k:Nat):Nat:=bst (fS l0 left0 k).1 (fS l0 left0 k).2
structure GrOk (n : Nat) (l : List Nat) : Prop where
  len : l.length = n
  n8 : n ≤ 8
  sym : SymG l
  irr : ∀ v, (l.getD v 0).testBit v = false
  below : ∀ v u, (l.getD v 0).testBit u = true → u < n
section
variable {l : List Nat} {n left v : Nat}
theorem GrOk.lt (h:GrOk n l):l.getD v 0<256:=by
 have:l.getD v 0<2^n:=Nat.lt_pow_two_of_testBit _ fun i hi=>by
  cases hb:(l.getD v 0).testBit i with
  | false=>rfl
  | true=>have:=h.below v i hb;omega
 exact Nat.lt_of_lt_of_le this (show 2^n≤2^8 from Nat.pow_le_pow_right (by decide) h.n8)
theorem bst_lt (hl:left≠0) (h8:left<256):IsBest l left (fun u=>u<8) (bst l left):=by
 have hex:∀m,m≤8→(∃v,v<m∧left.testBit v=true)→∃v,IsBest l left (fun u=>u<m) v:=by
  intro m
  induction m with
  | zero=>rintro _ ⟨v,hv,_⟩;omega
  | succ m ih =>
   rintro hm ⟨v,hv,hb⟩
   by_cases h1:∃v,v<m∧left.testBit v=true
   ·obtain ⟨w,hw⟩:=ih (by omega) h1
    by_cases h2:left.testBit m=true∧lk l left m<lk l left w
    ·refine ⟨m,h2.1,by omega,fun u hu hub=>?_⟩
     by_cases e:u=m
     ·subst e;exact ⟨Nat.le_refl _,fun _=>Nat.le_refl _⟩
     ·have:=hw.least u (by omega) hub
      exact ⟨by omega,fun e=>by omega⟩
    ·refine ⟨w,hw.mem,by have:=hw.here;omega,fun u hu hub=>?_⟩
     by_cases e:u=m
     ·subst e
      have:¬lk l left u<lk l left w:=fun h=>h2 ⟨hub,h⟩
      have:=hw.here
      exact ⟨by omega,fun _=>by omega⟩
     ·exact hw.least u (by omega) hub
   ·have e:v=m:=by
     by_cases e:v=m
     ·exact e
     ·exact absurd ⟨v,by omega,hb⟩ h1
    subst e
    refine ⟨v,hb,by omega,fun u hu hub=>?_⟩
    by_cases e:u=v
    ·subst e;exact ⟨Nat.le_refl _,fun _=>Nat.le_refl _⟩
    ·exact absurd ⟨u,by omega,hub⟩ h1
 have hne:∃v,v<8∧left.testBit v=true:=by
  refine Classical.byContradiction fun hn=>hl ?_
  refine ext_bits h8 (by decide) fun v hv=>?_
  rw [Nat.zero_testBit]
  cases hb:left.testBit v with
  | false=>rfl
  | true=>exact absurd ⟨v,hv,hb⟩ hn
 obtain ⟨v,hv⟩:=hex 8 (Nat.le_refl _) hne
 rw [bst_eq hv]
 exact hv
theorem upd_ok (h:GrOk n l) (hl:left≠0) (h8:left<256):GrOk n (updL l left):=by
 have hg:∀v,(updL l left).getD v 0=if v<n then (if (updG l left).testBit v=true then l.getD v 0|||dif (updG l left) (bit v) else l.getD v 0) else 0:=fun v=>by
  unfold updL
  rw [List.getD_eq_getElem?_getD,List.getElem?_map]
  by_cases hv:v<n
  ·rw [List.getElem?_range (by rw [h.len];exact hv),if_pos hv];rfl
  ·rw [List.getElem?_eq_none (by simp [h.len];omega),if_neg hv];rfl
 have hS:∀u,(updG l left).testBit u=true→(l.getD (bst l left) 0).testBit u=true:=fun u hu=>by
  unfold updG at hu
  rw [Nat.testBit_and] at hu
  cases hb:(l.getD (bst l left) 0).testBit u with
  | true=>rfl
  | false=>rw [hb] at hu;cases hu
 have hout:∀v,¬v<n→l.getD v 0=0:=fun v hv=>by rw [List.getD_eq_getElem?_getD,List.getElem?_eq_none (by rw [h.len];omega)];rfl
 have hb:∀v u,((updL l left).getD v 0).testBit u=((l.getD v 0).testBit u||((updG l left).testBit v&&(updG l left).testBit u&&decide (v≠u))):=fun v u=>by
  rw [hg]
  by_cases hv:v<n
  ·rw [if_pos hv]
   cases hs:(updG l left).testBit v with
   | false=>rw [if_neg (by decide)];simp
   | true =>
    rw [if_pos rfl,Nat.testBit_or,dif_bit,bit_bit]
    by_cases e:v=u<;>simp [e]
  ·rw [if_neg hv,hout v hv,Nat.zero_testBit]
   cases hs:(updG l left).testBit v with
   | false=>simp
   | true=>exact absurd (h.below _ _ (hS v hs)) hv
 refine ⟨by unfold updL;simp [h.len],h.n8,fun a b=>?_,fun v=>?_,fun v u hu=>?_⟩
 ·rw [hb,hb,h.sym a b]
  congr 1
  cases (updG l left).testBit a<;>cases (updG l left).testBit b<;>by_cases e:a=b<;>simp [e,eq_comm]
 ·rw [hb,h.irr];simp
 ·rw [hb] at hu
  cases h1:(l.getD v 0).testBit u with
  | true=>exact h.below v u h1
  | false =>
   rw [h1] at hu
   cases h2:(updG l left).testBit u with
   | true=>exact h.below _ _ (hS u h2)
   | false=>rw [h2] at hu;simp at hu
end
structure FOk (n : Nat) (l0 : List Nat) (left0 k : Nat) : Prop where
  gr : GrOk n (fS l0 left0 k).1
  lt : (fS l0 left0 k).2 < 256
  left : ∀ u, (fS l0 left0 k).2.testBit u = (decide (u < n) && decide (u ∉ (List.range k).map (fB l0 left0)))
  nd : ((List.range k).map (fB l0 left0)).Nodup
  bn : ∀ u ∈ (List.range k).map (fB l0 left0), u < n
theorem nodup_lt {l:List Nat} {n:Nat} (hd:l.Nodup) (hl:∀u∈l,u<n):l.length≤n:=by
 have:=List.Nodup.length_le_of_subset hd (l₂:=List.range n) (fun x hx=>List.mem_range.2 (hl x hx))
 simpa using this
section
variable {n k left0 : Nat} {l0 : List Nat}
theorem FOk.zero (hg:GrOk n l0) (hl:∀u,left0.testBit u=decide (u<n)) (h8:left0<256):FOk n l0 left0 0:=⟨hg,h8,fun u=>by show left0.testBit u=_;rw [hl];simp,by simp,by simp⟩
theorem FOk.ne (h:FOk n l0 left0 k) (hk:k<n):(fS l0 left0 k).2≠0:=fun e=>by
 have hall:∀u,u<n→u∈(List.range k).map (fB l0 left0):=fun u hu=>by
  have:=h.left u
  rw [e,Nat.zero_testBit,decide_eq_true hu,Bool.true_and] at this
  exact Classical.byContradiction fun hn=>by rw [decide_eq_true hn] at this;cases this
 have:=List.Nodup.length_le_of_subset (List.nodup_range (n:=n)) (l₂:=(List.range k).map (fB l0 left0)) (fun x hx=>hall x (List.mem_range.1 hx))
 simp at this
 omega
theorem FOk.end (h:FOk n l0 left0 n):(fS l0 left0 n).2=0:=by
 refine ext_bits h.lt (by decide) fun u _=>?_
 rw [h.left,Nat.zero_testBit]
 by_cases hu:u<n
 ·refine Bool.and_eq_false_iff.2 (.inr (decide_eq_false fun hn=>?_))
  have hnd:(u::(List.range n).map (fB l0 left0)).Nodup:=List.nodup_cons.2 ⟨hn,h.nd⟩
  have:=nodup_lt hnd fun x hx=>by
   rcases List.mem_cons.1 hx with rfl|hx
   ·exact hu
   ·exact h.bn x hx
  simp at this
  omega
 ·rw [decide_eq_false hu];rfl
theorem FOk.best (h:FOk n l0 left0 k) (hk:k<n):IsBest (fS l0 left0 k).1 (fS l0 left0 k).2 (fun u=>u<8) (fB l0 left0 k):=bst_lt (h.ne hk) h.lt
theorem FOk.next (h:FOk n l0 left0 k) (hk:k<n):FOk n l0 left0 (k+1):=by
 have hb:=h.best hk
 have hm:=hb.mem
 rw [h.left] at hm
 obtain ⟨h1,h2⟩:=Bool.and_eq_true_iff.1 hm
 have hr:(List.range (k+1)).map (fB l0 left0)=(List.range k).map (fB l0 left0)++[fB l0 left0 k]:=by rw [List.range_succ,List.map_append];rfl
 refine ⟨upd_ok h.gr (h.ne hk) h.lt,dif_lt h.lt,fun u=>?_,?_,fun u hu=>?_⟩
 ·show (dif (fS l0 left0 k).2 (bit (fB l0 left0 k))).testBit u=_
  rw [dif_bit,bit_bit,h.left,hr]
  by_cases e:fB l0 left0 k=u
  ·subst e;simp
  ·have e':¬u=fB l0 left0 k:=fun h=>e h.symm
   simp [e,e']
 ·rw [hr]
  exact List.nodup_append.2 ⟨h.nd,by simp,fun a ha b hb=>by
   rw [List.mem_singleton.1 hb]
   exact fun e=>of_decide_eq_true h2 (e▸ha)⟩
 ·rw [hr] at hu
  rcases List.mem_append.1 hu with hu|hu
  ·exact h.bn u hu
  ·rw [List.mem_singleton.1 hu];exact of_decide_eq_true h1
theorem FOk.all (hg:GrOk n l0) (hl:∀u,left0.testBit u=decide (u<n)) (h8:left0<256):∀k,k≤n→FOk n l0 left0 k:=by
 intro k
 induction k with
 | zero=>intro _;exact .zero hg hl h8
 | succ k ih=>intro hk;exact (ih (by omega)).next (by omega)
end
end Go.Proofs.YthehegidpamldaaGreatDoor
set_option linter.unusedVariables false
set_option linter.unusedSimpArgs false
namespace Go.Proofs.YthehegidpamldaaGreatDoor
open Go Go.RowKit
theorem sorted_exG:∀{a b:List Nat},a.Pairwise (·< ·)→b.Pairwise (·< ·)→(∀v,v∈a↔v∈b)→a=b:=by
 intro a
 induction a with
 | nil=>intro b _ _ h;cases b with
  | nil=>rfl
  | cons y b=>exact absurd ((h y).2 (by simp)) (by simp)
 | cons x a ih =>
  intro b ha hb h
  cases b with
  | nil=>exact absurd ((h x).1 (by simp)) (by simp)
  | cons y b =>
   obtain ⟨ha1,ha2⟩:=List.pairwise_cons.1 ha
   obtain ⟨hb1,hb2⟩:=List.pairwise_cons.1 hb
   have e:x=y:=by
    rcases List.mem_cons.1 ((h x).1 (by simp)) with e|hx
    ·exact e
    ·rcases List.mem_cons.1 ((h y).2 (by simp)) with e|hy
     ·exact e.symm
     ·have:=ha1 y hy;have:=hb1 x hx;omega
   subst e
   rw [ih ha2 hb2 fun v=>⟨fun hv=>?_,fun hv=>?_⟩]
   ·rcases List.mem_cons.1 ((h v).1 (by simp [hv])) with e|h'
    ·subst e;have:=ha1 v hv;omega
    ·exact h'
   ·rcases List.mem_cons.1 ((h v).2 (by simp [hv])) with e|h'
    ·subst e;have:=hb1 v hv;omega
    ·exact h'
theorem els_sorted {s:Nat}:(els s).Pairwise (·< ·):=List.Pairwise.filter _ List.pairwise_lt_range
def setN (l:List Nat):Nat:=l.foldl (fun s v=>s|||bit v) 0
section
variable {l : List Nat} {n u v s : Nat} {p : Nat → Bool}
theorem setN_snoc:setN (l++[v])=setN l|||bit v:=by simp [setN]
theorem setN_bit:(setN l).testBit u=decide (u∈l):=by
 suffices h:∀(l:List Nat) (s:Nat),(l.foldl (fun s v=>s|||bit v) s).testBit u=(s.testBit u||decide (u∈l)) by
  have:=h l 0
  rw [Nat.zero_testBit,Bool.false_or] at this
  exact this
 intro l
 induction l with
 | nil=>intro s;simp
 | cons v l ih =>
  intro s
  rw [List.foldl_cons,ih,Nat.testBit_or,bit_bit,Bool.or_assoc]
  congr 1
  by_cases e:v=u
  ·subst e;simp
  ·have e':¬u=v:=fun h=>e h.symm
   simp [e,e']
theorem lt256 (h:∀v,s.testBit v=true→v<8):s<256:=Nat.lt_pow_two_of_testBit (n:=8) _ fun i hi=>by
 cases hb:s.testBit i with
 | false=>rfl
 | true=>have:=h i hb;omega
theorem setN_lt (h:∀v∈l,v<8):setN l<256:=lt256 fun v hv=>by
 rw [setN_bit] at hv;exact h v (of_decide_eq_true hv)
theorem bits_lt8 (h:s<256) (hv:s.testBit v=true):v<8:=by
 rcases Nat.lt_or_ge v 8 with h'|h'
 ·exact h'
 ·have hp:2^8≤2^v:=Nat.pow_le_pow_right (by decide) h'
  rw [Nat.testBit_lt_two_pow (Nat.lt_of_lt_of_le h hp)] at hv
  cases hv
theorem ext_bits' {a b:Nat} (h:∀v,a.testBit v=b.testBit v):a=b:=Nat.eq_of_testBit_eq h
theorem dif_zero {a b:Nat}:dif a b=0↔∀v,a.testBit v=true→b.testBit v=true:=by
 constructor
 ·intro h v hv
  have e:(dif a b).testBit v=false:=by rw [h];exact Nat.zero_testBit v
  rw [dif_bit,hv] at e
  simpa using e
 ·intro h
  refine ext_bits' fun v=>?_
  rw [dif_bit,Nat.zero_testBit]
  cases hv:a.testBit v with
  | false=>rfl
  | true=>rw [h v hv];rfl
end
section
variable {n v u : Nat} {l : List Int}
theorem setI_mem (h:risB n l=true) (hv:(setI l).testBit v=true):v<n:=by
 rw [set_mem h] at hv
 obtain ⟨j,hj,e⟩:=List.getElem_of_mem (of_decide_eq_true hv)
 have:=(risB_iff.1 h j hj).2
 rw [lget_lt l 0 hj,e] at this
 omega
theorem ris_els (hn:n≤8) (h:risB n l=true):l.map I=Ns (els (setI l)):=by
 have hr:=risB_iff.1 h
 have hnn:=(ris_nn (x:=l.length) hr).2
 have e:l.map Int.toNat=els (setI l):=by
  refine sorted_exG ?_ els_sorted fun v=>?_
  ·rw [List.pairwise_map]
   have hlt:∀i j,i<j→j<l.length→l.getD i 0<l.getD j 0:=by
    intro i j
    induction j with
    | zero=>intro h;omega
    | succ j ih =>
     intro hij hj
     have h1:=(hr (j+1) hj).1
     rw [prevI_next] at h1
     by_cases e:i=j
     ·subst e;exact h1
     ·exact Int.lt_trans (ih (by omega) (by omega)) h1
   rw [List.pairwise_iff_getElem]
   intro i j hi hj hij
   have h1:=hlt i j hij hj
   have h2:=hnn i hi
   rw [lget_lt l 0 hi] at h1 h2
   rw [lget_lt l 0 hj] at h1
   omega
  ·rw [els_mem,List.mem_map,set_mem h,decide_eq_true_iff]
   constructor
   ·rintro ⟨x,hx,rfl⟩
    obtain ⟨j,hj,e⟩:=List.getElem_of_mem hx
    have h1:=hnn j hj
    have h2:=(hr j hj).2
    rw [lget_lt l 0 hj,e] at h1 h2
    exact ⟨by omega,by rw [Int.toNat_of_nonneg h1];exact hx⟩
   ·rintro ⟨_,hx⟩
    exact ⟨_,hx,by omega⟩
 rw [←e]
 unfold Ns
 rw [List.map_map]
 refine List.map_congr_left fun x hx=>?_
 obtain ⟨j,hj,e⟩:=List.getElem_of_mem hx
 have h1:=hnn j hj
 rw [lget_lt l 0 hj,e] at h1
 show I x=I ((x.toNat:Nat):Int)
 rw [Int.toNat_of_nonneg h1]
end
section
variable {p : Nat → Bool} {n x : Nat}
end
structure GP (n : Nat) (P : List Nat) : Prop where
  len : P.length = n
  n1 : 1 ≤ n
  n8 : n ≤ 8
  lt : ∀ v u, (P.getD v 0).testBit u = true → u < n
  irr : ∀ v, (P.getD v 0).testBit v = false
def gvs (P:List Nat):List FV:=P.map fun s=>.fz 1 (Ns (els s))
section
variable {n u v : Nat} {P : List Nat} {L : List (List Int)}
theorem GP.lt8 (h:GP n P):P.getD v 0<256:=lt256 fun u hu=>by have:=h.lt v u hu;have:=h.n8;omega
theorem GP.pa (h:GP n P):∀u v,paO P u v=true→u<n∧v<n:=fun u v hu=>by
 refine ⟨h.lt v u hu,?_⟩
 rcases Nat.lt_or_ge v n with h'|h'
 ·exact h'
 ·unfold paO at hu
  rw [List.getD_eq_getElem?_getD,List.getElem?_eq_none (by rw [h.len];exact h')] at hu
  rw [show (none:Option Nat).getD 0=0 from rfl,Nat.zero_testBit] at hu
  cases hu
theorem gvs_len:(gvs P).length=P.length:=by simp [gvs]
theorem gvs_get (h:v<P.length):(gvs P)[v]?=some (.fz 1 (Ns (els (P.getD v 0)))):=by
 unfold gvs;rw [map_get _ P h,lget_lt P 0 h]
theorem sets_get (h:v<P.length):(P.map U)[v]?=some (U (P.getD v 0)):=by rw [map_get U P h,lget_lt P 0 h]
theorem setsOf_len:(setsOf L).length=L.length:=by simp [setsOf]
theorem setsOf_get (h:v<L.length):(setsOf L).getD v 0=readS L.length L[v]:=by
 rw [lget_lt _ 0 (by rw [setsOf_len];exact h)]
 simp only [setsOf,List.getElem_map,List.getElem_range]
 unfold setAt
 rw [lget_lt L [] h]
theorem ok_node (hb:listsB L=true) (h:v<L.length):risB L.length L[v]=true∧(setI L[v]).testBit v=false∧readS L.length L[v]=setI L[v]:=by
 have h1:=(listsB_iff.1 hb).2 v h
 unfold nodeB at h1
 rw [lget_lt L [] h] at h1
 obtain ⟨h2,h3⟩:=Bool.and_eq_true_iff.1 h1
 have h4:readS L.length L[v]=setI L[v]:=by unfold readS;rw [if_pos h2]
 rw [h4] at h3
 exact ⟨h2,by simpa using h3,h4⟩
theorem GP.of (hb:listsB L=true):GP L.length (setsOf L):=by
 obtain ⟨⟨h1,h8⟩,_⟩:=listsB_iff.1 hb
 have hout:∀v,¬v<L.length→(setsOf L).getD v 0=0:=fun v hv=>by
  rw [List.getD_eq_getElem?_getD,List.getElem?_eq_none (by rw [setsOf_len];omega)];rfl
 refine ⟨setsOf_len,h1,h8,fun v u hu=>?_,fun v=>?_⟩
 ·by_cases hv:v<L.length
  ·obtain ⟨k1,k2,k3⟩:=ok_node hb hv
   rw [setsOf_get hv,k3] at hu
   exact setI_mem k1 hu
  ·rw [hout v hv,Nat.zero_testBit] at hu;cases hu
 ·by_cases hv:v<L.length
  ·obtain ⟨k1,k2,k3⟩:=ok_node hb hv
   rw [setsOf_get hv,k3];exact k2
  ·rw [hout v hv,Nat.zero_testBit]
theorem gvs_of (hb:listsB L=true):L.map ints=gvs (setsOf L):=by
 obtain ⟨⟨h1,h8⟩,_⟩:=listsB_iff.1 hb
 apply List.ext_getElem?
 intro v
 by_cases hv:v<L.length
 ·obtain ⟨k1,k2,k3⟩:=ok_node hb hv
  rw [map_get ints L hv,gvs_get (by rw [setsOf_len];exact hv),setsOf_get hv,k3]
  show some (FV.fz 1 (L[v].map I))=_
  rw [ris_els h8 k1]
 ·rw [List.getElem?_eq_none (by rw [List.length_map];omega),List.getElem?_eq_none (by rw [gvs_len,setsOf_len];omega)]
end
def ordL (L:List (List Int)):List Nat:=if listsB L=true then (ordN (setsOf L) L.length L.length []).getD [] else []
def ordE (L:List (List Int)):Int:=if listsB L=true then (if (ordN (setsOf L) L.length L.length []).isSome=true then 0 else 10) else 11
section
variable {n u v s t : Nat} {P done : List Nat}
theorem fre_dif (h:GP n P) (hv:v<n):freB P n done v=(!decide (v∈done)&&decide (dif (P.getD v 0) (setN done)=0)):=by
 rw [Bool.eq_iff_iff,freB_iff h.pa,Bool.and_eq_true,decide_eq_true_iff,dif_zero]
 simp only [setN_bit,decide_eq_true_eq,Bool.not_eq_true',decide_eq_false_iff_not]
 rfl
theorem nxt_some (hx:v<n) (hf:freB P n done v=true) (hp:∀j,j<v→freB P n done j=false):nxtV P n done=some v:=by
 unfold nxtV
 rw [List.find?_eq_some_iff_append]
 refine ⟨hf,List.range v,(List.range' (v+1) (n-v-1)),?_,fun a ha=>by rw [hp a (List.mem_range.1 ha)];rfl⟩
 apply List.ext_getElem?
 intro i
 by_cases h1:i<v
 ·rw [List.getElem?_append_left (by simpa using h1),List.getElem?_range (by omega),List.getElem?_range h1]
 ·rw [List.getElem?_append_right (by simp;omega)]
  by_cases h2:i=v
  ·subst h2;simp [hx]
  ·obtain ⟨k,rfl⟩:∃k,i=v+(k+1):=⟨i-v-1,by omega⟩
   simp only [List.length_range,Nat.add_sub_cancel_left,List.getElem?_cons_succ]
   by_cases h3:v+(k+1)<n
   ·rw [List.getElem?_range h3,List.getElem?_range' (by omega)];simp;omega
   ·rw [List.getElem?_eq_none (by simp;omega),List.getElem?_eq_none (by simp;omega)]
theorem nxt_none (hp:∀j,j<n→freB P n done j=false):nxtV P n done=none:=by
 unfold nxtV
 rw [List.find?_eq_none]
 intro a ha
 rw [hp a (List.mem_range.1 ha)];simp
end
end Go.Proofs.YthehegidpamldaaGreatDoor
