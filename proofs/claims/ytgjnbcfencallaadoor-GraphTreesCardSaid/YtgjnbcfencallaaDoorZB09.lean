/- What Fill comes to: the edges that lack, the best node, the steps. Plain Lean. Conditions: none. -/
import Derived.Test.YtgjnbcfencallaaDoorZB06
import Derived.Test.YtgjnbcfencallaaDoorZB08
set_option linter.unusedVariables false
set_option linter.unusedSimpArgs false
namespace Go.Proofs.YtgjnbcfencallaaDoor
open Go Go.RowKit
def sn (f:Nat→Nat):Nat→Nat
 | 0=>0
 | n+1=>sn f n+f n
section
variable {f g : Nat → Nat} {n : Nat}
theorem sn_congr (h:∀k,k<n→f k=g k):sn f n=sn g n:=by
 induction n with
 | zero=>rfl
 | succ n ih=>show sn f n+f n=sn g n+g n;rw [ih fun k hk=>h k (by omega),h n (by omega)]
theorem sn_add:sn (fun k=>f k+g k) n=sn f n+sn g n:=by
 induction n with
 | zero=>rfl
 | succ n ih=>show sn _ n+(f n+g n)=sn f n+f n+(sn g n+g n);rw [ih];omega
theorem sn_zero:∀{n:Nat},(∀k,k<n→f k=0)→sn f n=0:=by
 intro n
 induction n with
 | zero=>intro _;rfl
 | succ n ih=>intro h;show sn f n+f n=0;rw [ih fun k hk=>h k (by omega),h n (by omega)]
theorem sn_sym {f:Nat→Nat→Nat} (hs:∀a b,f a b=f b a) (h0:∀a,f a a=0):∀n,sn (fun a=>sn (f a) n) n=2*sn (fun a=>sn (f a) a) n:=by
 intro n
 induction n with
 | zero=>rfl
 | succ n ih =>
  show sn (fun a=>sn (f a) n+f a n) n+(sn (f n) n+f n n)=2*(sn (fun a=>sn (f a) a) n+sn (f n) n)
  rw [sn_add,ih,h0,sn_congr (f:=fun a=>f a n) (g:=f n) fun k _=>hs k n]
  omega
theorem filter_sn {p:Nat→Bool}:∀n,(((List.range n).filter p).map g).sum=sn (fun v=>if p v=true then g v else 0) n:=by
 intro n
 induction n with
 | zero=>rfl
 | succ n ih =>
  rw [List.range_succ,List.filter_append,List.map_append,List.sum_append_nat,ih]
  show _=sn _ n+_
  congr 1
  cases h:p n<;>simp [h]
theorem filter_len {p:Nat→Bool}:∀n,((List.range n).filter p).length=sn (fun v=>if p v=true then 1 else 0) n:=by
 intro n
 induction n with
 | zero=>rfl
 | succ n ih =>
  rw [List.range_succ,List.filter_append,List.length_append,ih]
  show _=sn _ n+_
  congr 1
  cases h:p n<;>simp [h]
end
def lackF (l:List Nat) (s a b:Nat):Nat:=if (s.testBit a&&s.testBit b&&!(l.getD a 0).testBit b&&decide (a≠b))=true then 1 else 0
def lackN (l:List Nat) (s:Nat):Nat:=sn (fun a=>sn (lackF l s a) a) 8
def lackS (l:List Nat) (s i:Nat):Nat:=(((els s).take i).map fun v=>(els (dif (dif s (l.getD v 0)) (bit v))).length).sum
def SymG (l:List Nat):Prop:=∀a b,(l.getD a 0).testBit b=(l.getD b 0).testBit a
section
variable {l : List Nat} {s v : Nat}
theorem lack_prog (h:SymG l):lackS l s (els s).length/2=lackN l s:=by
 unfold lackS
 rw [List.take_length]
 have e:((els s).map fun v=>(els (dif (dif s (l.getD v 0)) (bit v))).length).sum=sn (fun a=>sn (lackF l s a) 8) 8:=by
  unfold els
  rw [filter_sn (g:=fun v=>((List.range 8).filter fun u=>(dif (dif s (l.getD v 0)) (bit v)).testBit u).length)]
  refine sn_congr fun a _=>?_
  rw [filter_len]
  cases ha:s.testBit a with
  | false =>
   rw [if_neg (by decide)]
   exact (sn_zero fun b _=>by unfold lackF;rw [ha];rfl).symm
  | true =>
   rw [if_pos rfl]
   refine sn_congr fun b _=>?_
   unfold lackF
   rw [dif_bit,dif_bit,bit_bit,ha]
   congr 1
   by_cases e:a=b<;>simp [e]
 rw [e,sn_sym (fun a b=>?_) (fun a=>?_)]
 ·unfold lackN;omega
 ·unfold lackF
  congr 1
  rw [h a b]
  cases s.testBit a<;>cases s.testBit b<;>cases (l.getD b 0).testBit a<;>by_cases e:a=b<;>simp [e,Ne.symm]
 ·unfold lackF;simp
theorem lackS_le:∀i,i≤8→lackS l s i≤8*i:=by
 intro i
 induction i with
 | zero=>intro _;simp [lackS]
 | succ i ih =>
  intro hi
  have h8:∀t,(els t).length≤8:=fun t=>by unfold els;exact Nat.le_trans (List.length_filter_le _ _) (by simp)
  have:=ih (by omega)
  unfold lackS at this ⊢
  rw [List.take_add_one,List.map_append,List.sum_append_nat]
  cases hv:(els s)[i]? with
  | none=>show _+0≤_;omega
  | some v=>have h9:=h8 (dif (dif s (l.getD v 0)) (bit v));show _+((els (dif (dif s (l.getD v 0)) (bit v))).length+0)≤_;omega
theorem lackS_next {i:Nat} (h:(els s)[i]?=some v):lackS l s i+(els (dif (dif s (l.getD v 0)) (bit v))).length=lackS l s (i+1):=by
 unfold lackS
 rw [List.take_add_one,List.map_append,List.sum_append_nat,h];simp
end
def lk (l:List Nat) (left v:Nat):Nat:=lackN l (l.getD v 0&&&left)
structure IsBest (l : List Nat) (left : Nat) (p : Nat → Prop) (v : Nat) : Prop where
  mem : left.testBit v = true
  here : p v
  least : ∀ u, p u → left.testBit u = true → lk l left v ≤ lk l left u ∧ (lk l left u = lk l left v → v ≤ u)
def bst (l:List Nat) (left:Nat):Nat:=((els left).find? fun v=>(els left).all fun u=>decide (lk l left v≤lk l left u∧(lk l left u=lk l left v→v≤u))).getD 0
section
variable {l : List Nat} {left v : Nat}
theorem bst_eq (h:IsBest l left (fun u=>u<8) v):bst l left=v:=by
 unfold bst
 have h8:∀u,u∈els left→u<8∧left.testBit u=true:=fun u hu=>els_mem.1 hu
 have hv:v∈els left:=els_mem.2 ⟨h.here,h.mem⟩
 cases hf:(els left).find? fun v=>(els left).all fun u=>decide (lk l left v≤lk l left u∧(lk l left u=lk l left v→v≤u)) with
 | none =>
  have:=List.find?_eq_none.1 hf v hv
  refine absurd ?_ this
  rw [List.all_eq_true]
  intro u hu
  obtain ⟨h1,h2⟩:=h8 u hu
  exact decide_eq_true (h.least u h1 h2)
 | some w =>
  have hw:=List.mem_of_find?_eq_some hf
  have hp:=List.find?_some hf
  rw [List.all_eq_true] at hp
  have h1:=of_decide_eq_true (hp v hv)
  obtain ⟨w1,w2⟩:=h8 w hw
  have h2:=h.least w w1 w2
  show w=v
  have a:=h1.1
  have b:=h2.1
  have e:lk l left w=lk l left v:=by omega
  have c:=h1.2 e.symm
  have d:=h2.2 e
  omega
end
def updS (l:List Nat) (left:Nat):Nat:=l.getD (bst l left) 0&&&left
def updL (l:List Nat) (left:Nat):List Nat:=(List.range l.length).map fun v=>if (updS l left).testBit v=true then l.getD v 0|||dif (updS l left) (bit v) else l.getD v 0
def fS (l0:List Nat) (left0:Nat):Nat→List Nat × Nat
 | 0=>(l0,left0)
 | k+1=>(updL (fS l0 left0 k).1 (fS l0 left0 k).2,dif (fS l0 left0 k).2 (bit (bst (fS l0 left0 k).1 (fS l0 left0 k).2)))
def fB (l0:List Nat) (left0 k:Nat):Nat:=bst (fS l0 left0 k).1 (fS l0 left0 k).2
def fBag (l0:List Nat) (left0 k:Nat):Nat:=updS (fS l0 left0 k).1 (fS l0 left0 k).2|||bit (fB l0 left0 k)
structure GrOk (n : Nat) (l : List Nat) : Prop where
  len : l.length = n
  n8 : n ≤ 8
  sym : SymG l
  irr : ∀ v, (l.getD v 0).testBit v = false
  below : ∀ v u, (l.getD v 0).testBit u = true → u < n
section
variable {l : List Nat} {n left v : Nat}
theorem GrOk.lt (h:GrOk n l):l.getD v 0<256:=by
 have:l.getD v 0<2^n:=Nat.lt_pow_two_of_testBit _ fun i hi=>by
  cases hb:(l.getD v 0).testBit i with
  | false=>rfl
  | true=>have:=h.below v i hb;omega
 exact Nat.lt_of_lt_of_le this (show 2^n≤2^8 from Nat.pow_le_pow_right (by decide) h.n8)
theorem bst_lt (hl:left≠0) (h8:left<256):IsBest l left (fun u=>u<8) (bst l left):=by
 have hex:∀m,m≤8→(∃v,v<m∧left.testBit v=true)→∃v,IsBest l left (fun u=>u<m) v:=by
  intro m
  induction m with
  | zero=>rintro _ ⟨v,hv,_⟩;omega
  | succ m ih =>
   rintro hm ⟨v,hv,hb⟩
   by_cases h1:∃v,v<m∧left.testBit v=true
   ·obtain ⟨w,hw⟩:=ih (by omega) h1
    by_cases h2:left.testBit m=true∧lk l left m<lk l left w
    ·refine ⟨m,h2.1,by omega,fun u hu hub=>?_⟩
     by_cases e:u=m
     ·subst e;exact ⟨Nat.le_refl _,fun _=>Nat.le_refl _⟩
     ·have:=hw.least u (by omega) hub
      exact ⟨by omega,fun e=>by omega⟩
    ·refine ⟨w,hw.mem,by have:=hw.here;omega,fun u hu hub=>?_⟩
     by_cases e:u=m
     ·subst e
      have:¬lk l left u<lk l left w:=fun h=>h2 ⟨hub,h⟩
      have:=hw.here
      exact ⟨by omega,fun _=>by omega⟩
     ·exact hw.least u (by omega) hub
   ·have e:v=m:=by
     by_cases e:v=m
     ·exact e
     ·exact absurd ⟨v,by omega,hb⟩ h1
    subst e
    refine ⟨v,hb,by omega,fun u hu hub=>?_⟩
    by_cases e:u=v
    ·subst e;exact ⟨Nat.le_refl _,fun _=>Nat.le_refl _⟩
    ·exact absurd ⟨u,by omega,hub⟩ h1
 have hne:∃v,v<8∧left.testBit v=true:=by
  refine Classical.byContradiction fun hn=>hl ?_
  refine ext_bits h8 (by decide) fun v hv=>?_
  rw [Nat.zero_testBit]
  cases hb:left.testBit v with
  | false=>rfl
  | true=>exact absurd ⟨v,hv,hb⟩ hn
 obtain ⟨v,hv⟩:=hex 8 (Nat.le_refl _) hne
 rw [bst_eq hv]
 exact hv
theorem upd_ok (h:GrOk n l) (hl:left≠0) (h8:left<256):GrOk n (updL l left):=by
 have hg:∀v,(updL l left).getD v 0=if v<n then (if (updS l left).testBit v=true then l.getD v 0|||dif (updS l left) (bit v) else l.getD v 0) else 0:=fun v=>by
  unfold updL
  rw [List.getD_eq_getElem?_getD,List.getElem?_map]
  by_cases hv:v<n
  ·rw [List.getElem?_range (by rw [h.len];exact hv),if_pos hv];rfl
  ·rw [List.getElem?_eq_none (by simp [h.len];omega),if_neg hv];rfl
 have hS:∀u,(updS l left).testBit u=true→(l.getD (bst l left) 0).testBit u=true:=fun u hu=>by
  unfold updS at hu
  rw [Nat.testBit_and] at hu
  cases hb:(l.getD (bst l left) 0).testBit u with
  | true=>rfl
  | false=>rw [hb] at hu;cases hu
 have hout:∀v,¬v<n→l.getD v 0=0:=fun v hv=>by rw [List.getD_eq_getElem?_getD,List.getElem?_eq_none (by rw [h.len];omega)];rfl
 have hb:∀v u,((updL l left).getD v 0).testBit u=((l.getD v 0).testBit u||((updS l left).testBit v&&(updS l left).testBit u&&decide (v≠u))):=fun v u=>by
  rw [hg]
  by_cases hv:v<n
  ·rw [if_pos hv]
   cases hs:(updS l left).testBit v with
   | false=>rw [if_neg (by decide)];simp
   | true =>
    rw [if_pos rfl,Nat.testBit_or,dif_bit,bit_bit]
    by_cases e:v=u<;>simp [e]
  ·rw [if_neg hv,hout v hv,Nat.zero_testBit]
   cases hs:(updS l left).testBit v with
   | false=>simp
   | true=>exact absurd (h.below _ _ (hS v hs)) hv
 refine ⟨by unfold updL;simp [h.len],h.n8,fun a b=>?_,fun v=>?_,fun v u hu=>?_⟩
 ·rw [hb,hb,h.sym a b]
  congr 1
  cases (updS l left).testBit a<;>cases (updS l left).testBit b<;>by_cases e:a=b<;>simp [e,eq_comm]
 ·rw [hb,h.irr];simp
 ·rw [hb] at hu
  cases h1:(l.getD v 0).testBit u with
  | true=>exact h.below v u h1
  | false =>
   rw [h1] at hu
   cases h2:(updS l left).testBit u with
   | true=>exact h.below _ _ (hS u h2)
   | false=>rw [h2] at hu;simp at hu
end
structure FOk (n : Nat) (l0 : List Nat) (left0 k : Nat) : Prop where
  gr : GrOk n (fS l0 left0 k).1
  lt : (fS l0 left0 k).2 < 256
  left : ∀ u, (fS l0 left0 k).2.testBit u = (decide (u < n) && decide (u ∉ (List.range k).map (fB l0 left0)))
  nd : ((List.range k).map (fB l0 left0)).Nodup
  bn : ∀ u ∈ (List.range k).map (fB l0 left0), u < n
theorem nodup_lt {l:List Nat} {n:Nat} (hd:l.Nodup) (hl:∀u∈l,u<n):l.length≤n:=by
 have:=List.Nodup.length_le_of_subset hd (l₂:=List.range n) (fun x hx=>List.mem_range.2 (hl x hx))
 simpa using this
section
variable {n k left0 : Nat} {l0 : List Nat}
theorem FOk.zero (hg:GrOk n l0) (hl:∀u,left0.testBit u=decide (u<n)) (h8:left0<256):FOk n l0 left0 0:=⟨hg,h8,fun u=>by show left0.testBit u=_;rw [hl];simp,by simp,by simp⟩
theorem FOk.ne (h:FOk n l0 left0 k) (hk:k<n):(fS l0 left0 k).2≠0:=fun e=>by
 have hall:∀u,u<n→u∈(List.range k).map (fB l0 left0):=fun u hu=>by
  have:=h.left u
  rw [e,Nat.zero_testBit,decide_eq_true hu,Bool.true_and] at this
  exact Classical.byContradiction fun hn=>by rw [decide_eq_true hn] at this;cases this
 have:=List.Nodup.length_le_of_subset (List.nodup_range (n:=n)) (l₂:=(List.range k).map (fB l0 left0)) (fun x hx=>hall x (List.mem_range.1 hx))
 simp at this
 omega
theorem FOk.end (h:FOk n l0 left0 n):(fS l0 left0 n).2=0:=by
 refine ext_bits h.lt (by decide) fun u _=>?_
 rw [h.left,Nat.zero_testBit]
 by_cases hu:u<n
 ·refine Bool.and_eq_false_iff.2 (.inr (decide_eq_false fun hn=>?_))
  have hnd:(u::(List.range n).map (fB l0 left0)).Nodup:=List.nodup_cons.2 ⟨hn,h.nd⟩
  have:=nodup_lt hnd fun x hx=>by
   rcases List.mem_cons.1 hx with rfl|hx
   ·exact hu
   ·exact h.bn x hx
  simp at this
  omega
 ·rw [decide_eq_false hu];rfl
theorem FOk.best (h:FOk n l0 left0 k) (hk:k<n):IsBest (fS l0 left0 k).1 (fS l0 left0 k).2 (fun u=>u<8) (fB l0 left0 k):=bst_lt (h.ne hk) h.lt
theorem FOk.next (h:FOk n l0 left0 k) (hk:k<n):FOk n l0 left0 (k+1):=by
 have hb:=h.best hk
 have hm:=hb.mem
 rw [h.left] at hm
 obtain ⟨h1,h2⟩:=Bool.and_eq_true_iff.1 hm
 have hr:(List.range (k+1)).map (fB l0 left0)=(List.range k).map (fB l0 left0)++[fB l0 left0 k]:=by rw [List.range_succ,List.map_append];rfl
 refine ⟨upd_ok h.gr (h.ne hk) h.lt,dif_lt h.lt,fun u=>?_,?_,fun u hu=>?_⟩
 ·show (dif (fS l0 left0 k).2 (bit (fB l0 left0 k))).testBit u=_
  rw [dif_bit,bit_bit,h.left,hr]
  by_cases e:fB l0 left0 k=u
  ·subst e;simp
  ·have e':¬u=fB l0 left0 k:=fun h=>e h.symm
   simp [e,e']
 ·rw [hr]
  exact List.nodup_append.2 ⟨h.nd,by simp,fun a ha b hb=>by
   rw [List.mem_singleton.1 hb]
   exact fun e=>of_decide_eq_true h2 (e▸ha)⟩
 ·rw [hr] at hu
  rcases List.mem_append.1 hu with hu|hu
  ·exact h.bn u hu
  ·rw [List.mem_singleton.1 hu];exact of_decide_eq_true h1
theorem FOk.all (hg:GrOk n l0) (hl:∀u,left0.testBit u=decide (u<n)) (h8:left0<256):∀k,k≤n→FOk n l0 left0 k:=by
 intro k
 induction k with
 | zero=>intro _;exact .zero hg hl h8
 | succ k ih=>intro hk;exact (ih (by omega)).next (by omega)
end
end Go.Proofs.YtgjnbcfencallaaDoor
set_option linter.unusedVariables false
set_option linter.unusedSimpArgs false
namespace Go.Proofs.YtgjnbcfencallaaDoor
open Go Go.RowKit
theorem sorted_ext:∀{a b:List Nat},a.Pairwise (·< ·)→b.Pairwise (·< ·)→(∀v,v∈a↔v∈b)→a=b:=by
 intro a
 induction a with
 | nil=>intro b _ _ h;cases b with
  | nil=>rfl
  | cons y b=>exact absurd ((h y).2 (by simp)) (by simp)
 | cons x a ih =>
  intro b ha hb h
  cases b with
  | nil=>exact absurd ((h x).1 (by simp)) (by simp)
  | cons y b =>
   obtain ⟨ha1,ha2⟩:=List.pairwise_cons.1 ha
   obtain ⟨hb1,hb2⟩:=List.pairwise_cons.1 hb
   have e:x=y:=by
    rcases List.mem_cons.1 ((h x).1 (by simp)) with e|hx
    ·exact e
    ·rcases List.mem_cons.1 ((h y).2 (by simp)) with e|hy
     ·exact e.symm
     ·have:=ha1 y hy;have:=hb1 x hx;omega
   subst e
   rw [ih ha2 hb2 fun v=>⟨fun hv=>?_,fun hv=>?_⟩]
   ·rcases List.mem_cons.1 ((h v).1 (by simp [hv])) with e|h'
    ·subst e;have:=ha1 v hv;omega
    ·exact h'
   ·rcases List.mem_cons.1 ((h v).2 (by simp [hv])) with e|h'
    ·subst e;have:=hb1 v hv;omega
    ·exact h'
theorem els_sorted {s:Nat}:(els s).Pairwise (·< ·):=List.Pairwise.filter _ List.pairwise_lt_range
theorem els_nodup {s:Nat}:(els s).Nodup:=els_sorted.imp fun h=>Nat.ne_of_lt h
def setN (l:List Nat):Nat:=l.foldl (fun s v=>s|||bit v) 0
def setB (n:Nat) (p:Nat→Bool):Nat:=setN ((List.range n).filter p)
section
variable {l : List Nat} {n u v s : Nat} {p : Nat → Bool}
theorem setN_bit:(setN l).testBit u=decide (u∈l):=by
 suffices h:∀(l:List Nat) (s:Nat),(l.foldl (fun s v=>s|||bit v) s).testBit u=(s.testBit u||decide (u∈l)) by
  have:=h l 0
  rw [Nat.zero_testBit,Bool.false_or] at this
  exact this
 intro l
 induction l with
 | nil=>intro s;simp
 | cons v l ih =>
  intro s
  rw [List.foldl_cons,ih,Nat.testBit_or,bit_bit,Bool.or_assoc]
  congr 1
  by_cases e:v=u
  ·subst e;simp
  ·have e':¬u=v:=fun h=>e h.symm
   simp [e,e']
theorem lt256 (h:∀v,s.testBit v=true→v<8):s<256:=Nat.lt_pow_two_of_testBit (n:=8) _ fun i hi=>by
 cases hb:s.testBit i with
 | false=>rfl
 | true=>have:=h i hb;omega
theorem setB_bit:(setB n p).testBit v=(decide (v<n)&&p v):=by
 unfold setB
 rw [setN_bit,Bool.eq_iff_iff]
 simp
theorem bits_lt8 (h:s<256) (hv:s.testBit v=true):v<8:=by
 rcases Nat.lt_or_ge v 8 with h'|h'
 ·exact h'
 ·have hp:2^8≤2^v:=Nat.pow_le_pow_right (by decide) h'
  rw [Nat.testBit_lt_two_pow (Nat.lt_of_lt_of_le h hp)] at hv
  cases hv
theorem ext_bits' {a b:Nat} (h:∀v,a.testBit v=b.testBit v):a=b:=Nat.eq_of_testBit_eq h
theorem dif_zero {a b:Nat}:dif a b=0↔∀v,a.testBit v=true→b.testBit v=true:=by
 constructor
 ·intro h v hv
  have e:(dif a b).testBit v=false:=by rw [h];exact Nat.zero_testBit v
  rw [dif_bit,hv] at e
  simpa using e
 ·intro h
  refine ext_bits' fun v=>?_
  rw [dif_bit,Nat.zero_testBit]
  cases hv:a.testBit v with
  | false=>rfl
  | true=>rw [h v hv];rfl
theorem setN_els (h:s<256):setN (els s)=s:=ext_bits' fun v=>by
 rw [setN_bit]
 cases hv:s.testBit v with
 | false=>exact decide_eq_false fun hm=>by rw [(els_mem.1 hm).2] at hv;cases hv
 | true=>exact decide_eq_true (els_mem.2 ⟨bits_lt8 h hv,hv⟩)
end
section
variable {n v u : Nat} {l : List Int}
theorem setI_mem (h:risB n l=true) (hv:(setI l).testBit v=true):v<n:=by
 rw [set_mem h] at hv
 obtain ⟨j,hj,e⟩:=List.getElem_of_mem (of_decide_eq_true hv)
 have:=(risB_iff.1 h j hj).2
 rw [lget_lt l 0 hj,e] at this
 omega
theorem ris_els (hn:n≤8) (h:risB n l=true):l.map I=Ns (els (setI l)):=by
 have hr:=risB_iff.1 h
 have hnn:=(ris_nn (x:=l.length) hr).2
 have e:l.map Int.toNat=els (setI l):=by
  refine sorted_ext ?_ els_sorted fun v=>?_
  ·rw [List.pairwise_map]
   have hlt:∀i j,i<j→j<l.length→l.getD i 0<l.getD j 0:=by
    intro i j
    induction j with
    | zero=>intro h;omega
    | succ j ih =>
     intro hij hj
     have h1:=(hr (j+1) hj).1
     rw [prevI_next] at h1
     by_cases e:i=j
     ·subst e;exact h1
     ·exact Int.lt_trans (ih (by omega) (by omega)) h1
   rw [List.pairwise_iff_getElem]
   intro i j hi hj hij
   have h1:=hlt i j hij hj
   have h2:=hnn i hi
   rw [lget_lt l 0 hi] at h1 h2
   rw [lget_lt l 0 hj] at h1
   omega
  ·rw [els_mem,List.mem_map,set_mem h,decide_eq_true_iff]
   constructor
   ·rintro ⟨x,hx,rfl⟩
    obtain ⟨j,hj,e⟩:=List.getElem_of_mem hx
    have h1:=hnn j hj
    have h2:=(hr j hj).2
    rw [lget_lt l 0 hj,e] at h1 h2
    exact ⟨by omega,by rw [Int.toNat_of_nonneg h1];exact hx⟩
   ·rintro ⟨_,hx⟩
    exact ⟨_,hx,by omega⟩
 rw [←e]
 unfold Ns
 rw [List.map_map]
 refine List.map_congr_left fun x hx=>?_
 obtain ⟨j,hj,e⟩:=List.getElem_of_mem hx
 have h1:=hnn j hj
 rw [lget_lt l 0 hj,e] at h1
 show I x=I ((x.toNat:Nat):Int)
 rw [Int.toNat_of_nonneg h1]
end
def flt (p:Nat→Bool) (n:Nat):List Nat:=(List.range n).filter p
section
variable {p : Nat → Bool} {n x : Nat}
theorem flt_t (h:p x=true):flt p (x+1)=flt p x++[x]:=by unfold flt;rw [List.range_succ,List.filter_append];simp [h]
theorem flt_f (h:p x=false):flt p (x+1)=flt p x:=by unfold flt;rw [List.range_succ,List.filter_append];simp [h]
theorem flt_len:(flt p n).length≤n:=by unfold flt;exact Nat.le_trans (List.length_filter_le _ _) (by simp)
theorem flt_mem {v:Nat}:v∈flt p n↔v<n∧p v=true:=by unfold flt;rw [List.mem_filter,List.mem_range]
end
structure GP (n : Nat) (P : List Nat) : Prop where
  len : P.length = n
  n1 : 1 ≤ n
  n8 : n ≤ 8
  lt : ∀ v u, (P.getD v 0).testBit u = true → u < n
  irr : ∀ v, (P.getD v 0).testBit v = false
def gvs (P:List Nat):List FV:=P.map fun s=>.fz 1 (Ns (els s))
section
variable {n u v : Nat} {P : List Nat} {L : List (List Int)}
theorem GP.lt8 (h:GP n P):P.getD v 0<256:=lt256 fun u hu=>by have:=h.lt v u hu;have:=h.n8;omega
theorem GP.pa (h:GP n P):∀u v,paO P u v=true→u<n∧v<n:=fun u v hu=>by
 refine ⟨h.lt v u hu,?_⟩
 rcases Nat.lt_or_ge v n with h'|h'
 ·exact h'
 ·unfold paO at hu
  rw [List.getD_eq_getElem?_getD,List.getElem?_eq_none (by rw [h.len];exact h')] at hu
  rw [show (none:Option Nat).getD 0=0 from rfl,Nat.zero_testBit] at hu
  cases hu
theorem gvs_len:(gvs P).length=P.length:=by simp [gvs]
theorem gvs_get (h:v<P.length):(gvs P)[v]?=some (.fz 1 (Ns (els (P.getD v 0)))):=by
 unfold gvs;rw [map_get _ P h,lget_lt P 0 h]
theorem sets_get (h:v<P.length):(P.map U)[v]?=some (U (P.getD v 0)):=by rw [map_get U P h,lget_lt P 0 h]
theorem setsOf_len:(setsOf L).length=L.length:=by simp [setsOf]
theorem setsOf_get (h:v<L.length):(setsOf L).getD v 0=readS L.length L[v]:=by
 rw [lget_lt _ 0 (by rw [setsOf_len];exact h)]
 simp only [setsOf,List.getElem_map,List.getElem_range]
 unfold setAt
 rw [lget_lt L [] h]
theorem ok_node (hb:listsB L=true) (h:v<L.length):risB L.length L[v]=true∧(setI L[v]).testBit v=false∧readS L.length L[v]=setI L[v]:=by
 have h1:=(listsB_iff.1 hb).2 v h
 unfold nodeB at h1
 rw [lget_lt L [] h] at h1
 obtain ⟨h2,h3⟩:=Bool.and_eq_true_iff.1 h1
 have h4:readS L.length L[v]=setI L[v]:=by unfold readS;rw [if_pos h2]
 rw [h4] at h3
 exact ⟨h2,by simpa using h3,h4⟩
theorem GP.of (hb:listsB L=true):GP L.length (setsOf L):=by
 obtain ⟨⟨h1,h8⟩,_⟩:=listsB_iff.1 hb
 have hout:∀v,¬v<L.length→(setsOf L).getD v 0=0:=fun v hv=>by
  rw [List.getD_eq_getElem?_getD,List.getElem?_eq_none (by rw [setsOf_len];omega)];rfl
 refine ⟨setsOf_len,h1,h8,fun v u hu=>?_,fun v=>?_⟩
 ·by_cases hv:v<L.length
  ·obtain ⟨k1,k2,k3⟩:=ok_node hb hv
   rw [setsOf_get hv,k3] at hu
   exact setI_mem k1 hu
  ·rw [hout v hv,Nat.zero_testBit] at hu;cases hu
 ·by_cases hv:v<L.length
  ·obtain ⟨k1,k2,k3⟩:=ok_node hb hv
   rw [setsOf_get hv,k3];exact k2
  ·rw [hout v hv,Nat.zero_testBit]
end
section
variable {n u v s t : Nat} {P done : List Nat}
end
end Go.Proofs.YtgjnbcfencallaaDoor
set_option linter.unusedVariables false
set_option linter.unusedSimpArgs false
namespace Go.Proofs.YtgjnbcfencallaaDoor
open Go Go.RowKit
theorem ord_left {P done:List Nat} {n:Nat} (h:OrdI P n done):done.length≤n:=by
 have:=List.Nodup.length_le_of_subset h.nd (l₂:=List.range n) (fun x hx=>List.mem_range.2 (h.lt x hx))
 simpa using this
structure OrdS (P : List Nat) (n : Nat) (done : List Nat) : Prop where
  i : OrdI P n done
  eq : ordN P n (n - done.length) done = ordN P n n []
theorem OrdS.nil {P:List Nat} {n:Nat}:OrdS P n []:=⟨.nil,rfl⟩
theorem OrdS.next {P done:List Nat} {n v:Nat} (hg:GP n P) (h:OrdS P n done) (hl:done.length<n) (hv:nxtV P n done=some v):OrdS P n (done++[v]):=by
 refine ⟨h.i.next hg.pa hv,?_⟩
 rw [←h.eq]
 have e:n-done.length=(n-(done++[v]).length)+1:=by simp;omega
 rw [e]
 show _=(match nxtV P n done with|none=>none|some v=>ordN P n _ (done++[v]))
 rw [hv]
theorem OrdS.end {P done:List Nat} {n:Nat} (h:OrdS P n done) (hl:¬done.length<n):ordN P n n []=some done:=by
 rw [←h.eq]
 have:=ord_left h.i
 rw [show n-done.length=0 by omega];rfl
end Go.Proofs.YtgjnbcfencallaaDoor
set_option linter.unusedVariables false
set_option linter.unusedSimpArgs false
namespace Go.Proofs.YtgjnbcfencallaaDoor
open Go Go.RowKit
def abv (P:List Nat) (n s:Nat):Nat:=setB n (anO P n s)
def orI (P:List Nat) (s i:Nat):Nat:=((els s).take i).foldl (fun m v=>m|||P.getD v 0) s
section
variable {P : List Nat} {n s s0 i u v : Nat}
theorem orI_bit:∀i,(orI P s i).testBit u=(s.testBit u||((els s).take i).any fun v=>paO P u v):=by
 intro i
 unfold orI
 suffices h:∀(l:List Nat) (m:Nat),(l.foldl (fun m v=>m|||P.getD v 0) m).testBit u=(m.testBit u||l.any fun v=>paO P u v) from h _ _
 intro l
 induction l with
 | nil=>intro m;simp
 | cons v l ih=>intro m;rw [List.foldl_cons,ih,Nat.testBit_or,List.any_cons,Bool.or_assoc];rfl
theorem orI_all (hs:s<256):(orI P s (els s).length).testBit u=true↔s.testBit u=true∨∃v,s.testBit v=true∧paO P u v=true:=by
 rw [orI_bit,List.take_length,Bool.or_eq_true,List.any_eq_true]
 constructor
 ·rintro (h|⟨v,hv,h⟩)
  ·exact .inl h
  ·exact .inr ⟨v,(els_mem.1 hv).2,h⟩
 ·rintro (h|⟨v,hv,h⟩)
  ·exact .inl h
  ·exact .inr ⟨v,els_mem.2 ⟨bits_lt8 hs hv,hv⟩,h⟩
theorem abv_bit:(abv P n s).testBit v=(decide (v<n)&&anO P n s v):=setB_bit
structure AbI (P : List Nat) (n s0 s : Nat) : Prop where
  lt : ∀ v, s.testBit v = true → v < n
  sub : ∀ v, s0.testBit v = true → s.testBit v = true
  up : ∀ v, s.testBit v = true → anO P n s0 v = true
theorem AbI.lt8 (h:AbI P n s0 s) (hn:n≤8):s<256:=lt256 fun v hv=>by have:=h.lt v hv;omega
theorem AbI.zero (h0:∀v,s0.testBit v=true→v<n):AbI P n s0 s0:=⟨h0,fun _ h=>h,fun v hv=>anO_self h0 v hv⟩
theorem AbI.next (hg:GP n P) (h:AbI P n s0 s):AbI P n s0 (orI P s (els s).length):=by
 have hs:=h.lt8 hg.n8
 refine ⟨fun v hv=>?_,fun v hv=>(orI_all hs).2 (.inl (h.sub v hv)),fun v hv=>?_⟩
 ·rcases (orI_all hs).1 hv with h1|⟨w,h1,h2⟩
  ·exact h.lt v h1
  ·exact (hg.pa v w h2).1
 ·rcases (orI_all hs).1 hv with h1|⟨w,h1,h2⟩
  ·exact h.up v h1
  ·exact anO_up hg.pa v w h2 (h.up w h1)
theorem AbI.gt (hg:GP n P) (h:AbI P n s0 s) (hne:orI P s (els s).length≠s):s<orI P s (els s).length:=by
 have e:orI P s (els s).length=s|||orI P s (els s).length:=ext_bits' fun u=>by
  rw [Nat.testBit_or]
  cases hu:s.testBit u with
  | false=>simp
  | true=>rw [(orI_all (h.lt8 hg.n8)).2 (.inl hu)];rfl
 have:s≤orI P s (els s).length:=by rw [e];exact Nat.left_le_or
 omega
theorem AbI.done (hg:GP n P) (h:AbI P n s0 s) (he:orI P s (els s).length=s):s=abv P n s0:=ext_bits' fun v=>by
 rw [abv_bit,Bool.eq_iff_iff,Bool.and_eq_true,decide_eq_true_eq]
 constructor
 ·intro hv;exact ⟨h.lt v hv,h.up v hv⟩
 ·rintro ⟨hv,ha⟩
  obtain ⟨z,hz,h1,h2⟩:=(anO_iff hv).1 ha
  have hcl:∀u w,paO P u w=true→s.testBit w=true→s.testBit u=true:=fun u w hu hw=>by
   rw [←he];exact (orI_all (h.lt8 hg.n8)).2 (.inr ⟨w,hw,hu⟩)
  have:∀z,Star n (paO P) v z→s.testBit z=true→s.testBit v=true:=by
   intro z hst
   induction hst with
   | refl=>exact id
   | step _ _ he ih=>exact fun hk=>ih (hcl _ _ he hk)
  exact this z h2 (h.sub z h1)
end
def OkNs (l:List Int):Prop:=l.length≤140737488355328∧∀x∈l,-9223372036854775808≤x∧x≤9223372036854775807
end Go.Proofs.YtgjnbcfencallaaDoor
set_option linter.unusedVariables false
set_option linter.unusedSimpArgs false
namespace Go.Proofs.YtgjnbcfencallaaDoor
open Go Go.RowKit
set_option maxRecDepth 100000 in
set_option maxHeartbeats 4000000 in
theorem lists_w {S:List Nat} (hS:∀v,S.getD v 0<256) (hl:S.length≤1000):Good Tryd.prog 46 [.fz 1 (S.map U)] (.fz 1 (gvs S)):=by
 have hgl:(gvs S).length=S.length:=gvs_len
 refine good_of Tryd.func46 rfl (by kernel_rfl) fun X hO hrd=>?_;rw [Tryd.ntmps46,Tryd.results46];simp only [ast0,List.map_cons,List.map_nil,List.length_cons,List.length_nil,Nat.reduceAdd,Nat.reduceSub,List.replicate_succ,List.replicate_zero,List.cons_append,List.nil_append]
 (repeat (with_reducible first|refine W_seq fun K hK=>?_|refine J_block ?_|refine J_region ?_ |(refine Kont.go (by assumption) ?_)|(simp (config:={ maxSteps:=3000000 }) (disch:=omega) only [go_sem,List.length_map])))
 refine J_reserve ?_
 refine W_loop [3,5,8,9,10,11,12,13,14,15,16,17] (fun x:Nat=>[(3,sl 0 1 ((gvs S).take x)),(8,.f (I x))]) (fun x:Nat=>[ob 23 1 ((gvs S).take x)]) (fun x:Nat=>x≤S.length) (fun x:Nat=>S.length-x) (0) (Nat.zero_le _) (by refine weak_of ?_ ?_<;>simp (disch:=omega) only [go_sem]<;>first|rfl|exact ⟨rfl,rfl⟩|exact Or.inl rfl|exact ⟨Or.inl rfl,Or.inl rfl⟩|trivial|assumption|omega|(symm;assumption)|((repeat' apply And.intro)<;>first|rfl|omega|trivial|exact .inl rfl|exact .inr ⟨rfl,rfl⟩|exact .inr rfl|(right;symm;assumption)|(symm;assumption)|assumption)) ?_
 rintro x hx
 have htl:((gvs S).take x).length=x:=by rw [List.length_take];omega
 simp only [go_sem]
 (repeat (with_reducible first|refine W_seq fun K hK=>?_|refine J_region ?_ |refine J_c ?_|(refine Kont.go (by assumption) ?_)|(simp (config:={ maxSteps:=3000000 }) (disch:=omega) only [go_sem])))
 refine Jc_if (fun hxl=>?_) (fun hxl=>?_)<;>try simp only [decide_eq_true_eq,decide_eq_false_iff_not] at hxl
 ·have gx:=sets_get (P:=S) hxl
  have gg:=gvs_get (P:=S) hxl
  have htk:(gvs S).take x++[.fz 1 (Ns (els (S.getD x 0)))]=(gvs S).take (x+1):=by rw [List.take_add_one,gg];rfl
  have hli:=list_w (hS x)
  have hap:(((gvs S).take x).length+1)*24≤140737488355328:=by omega
  (repeat (with_reducible first|refine W_seq fun K hK=>?_|refine J_block ?_|refine J_skip ?_|refine J_region ?_ |(refine Kont.go (by assumption) ?_)|(simp (config:={ maxSteps:=3000000 }) (disch:=omega) only [go_sem,↓reduceIte,gx])))
  (first|refine call_f (hli) rfl ?_|refine callQ_f (hli) rfl ?_|refine callHK_f (hli) rfl ?_|refine callH_f (hli) rfl ?_)
  (repeat (first|(with_reducible first|refine J_region ?_ |refine aApp_sl ?_|(refine Kont.go (by assumption) ?_)|(simp (config:={ maxSteps:=3000000 }) (disch:=omega) only [go_sem,Nat.reduceEqDiff,↓reduceIte,Nat.reduceLeDiff,hap,htk]))|refine And.intro (by omega) ?_))
  refine ⟨x+1,by omega,by omega,weak_of ?_ ?_⟩<;>(try simp (disch:=omega) only [go_sem])<;>(try first|done|omega|rfl|exact ⟨rfl,rfl⟩|trivial)
 ·have he:x=S.length:=by omega
  subst he
  rw [show (gvs S).take S.length=gvs S by rw [←hgl,List.take_length]]
  (repeat (with_reducible first|refine W_seq fun K hK=>?_|refine J_exit ?_|refine J_ret ?_|refine J_region ?_ |(refine Kont.go (by assumption) ?_)|(simp (config:={ maxSteps:=3000000 }) (disch:=omega) only [go_sem,↓reduceIte])))
  exact Frz.sl rfl
section
variable {P : List Nat} {n v i u w : Nat}
end
end Go.Proofs.YtgjnbcfencallaaDoor
set_option linter.unusedVariables false
set_option linter.unusedSimpArgs false
namespace Go.Proofs.YtgjnbcfencallaaDoor
open Go Go.RowKit
def bagN (l:List Int):Bool:=risB 8 l&&!decide (l=[])
def bagsB (L:List (List Int)):Bool:=decide (1≤L.length∧L.length≤8)&&L.all bagN
def bagS (L:List (List Int)):List Nat:=L.map setI
def bgR (L:List (List Int)):RV:=if bagsB L=true then .own 56 1 ((bagS L).map U) else .f nilV
theorem bagsB_iff {L:List (List Int)}:bagsB L=true↔(1≤L.length∧L.length≤8)∧∀l∈L,bagN l=true:=by simp [bagsB]
theorem readS_nil {l:List Int} (h:risB 8 l=true):readS 8 l=setI l∧(setI l=0↔l=[]):=by
 refine ⟨by unfold readS;rw [if_pos h],fun e=>?_,fun e=>by rw [e];rfl⟩
 have:=ris_els (n:=8) (by decide) h
 rw [e] at this
 have h2:=congrArg List.length this
 rw [List.length_map] at h2
 exact List.length_eq_zero_iff.1 h2
theorem bagS_len {L:List (List Int)}:(bagS L).length=L.length:=by simp [bagS]
set_option maxRecDepth 100000 in
set_option maxHeartbeats 4000000 in
theorem read2_w (L:List (List Int)) (hL:OkIss L):GoodOT Tryd.prog 49 [.fz 1 (L.map ints)] (bgR L) [Bo (bagsB L)]:=by
 obtain ⟨hLl,hLr⟩:=hL
 have bad:bagsB L=false→bgR L=.f nilV:=fun h=>by unfold bgR;rw [h];rfl
 refine goodOT_of Tryd.func49 rfl (by kernel_rfl) fun X hO hrd=>?_;rw [Tryd.ntmps49,Tryd.results49];simp only [ast0,List.map_cons,List.map_nil,List.length_cons,List.length_nil,Nat.reduceAdd,Nat.reduceSub,List.replicate_succ,List.replicate_zero,List.cons_append,List.nil_append]
 by_cases h1:1≤L.length∧L.length≤8
 case neg =>
  have hb:bagsB L=false:=by
   cases h:bagsB L with
   | false=>rfl
   | true=>exact absurd (bagsB_iff.1 h).1 h1
  by_cases h2:(L.length:Int)<1
  ·(repeat (with_reducible first|refine W_seq fun K hK=>?_|refine J_ret ?_|refine J_region ?_ |refine J_c ?_|refine Jc_true ?_|(refine Kont.go (by assumption) ?_)|(simp (config:={ maxSteps:=3000000 }) (disch:=omega) only [go_sem,List.length_map,h2])))
   rw [hb,bad hb]
   refine ⟨_,⟨rfl,rfl⟩,by simp,nilR,fun x hx=>by rcases List.mem_singleton.1 hx with rfl;exact .v _⟩
  ·have h3:(8:Int)<(L.length:Int):=by omega
   (repeat (with_reducible first|refine W_seq fun K hK=>?_|refine J_ret ?_|refine J_region ?_ |refine J_c ?_|refine Jc_true ?_|(refine Kont.go (by assumption) ?_)|(simp (config:={ maxSteps:=3000000 }) (disch:=omega) only [go_sem,List.length_map,h2,h3])))
   rw [hb,bad hb]
   refine ⟨_,⟨rfl,rfl⟩,by simp,nilR,fun x hx=>by rcases List.mem_singleton.1 hx with rfl;exact .v _⟩
 obtain ⟨hn1,hn8⟩:=h1
 have h2:¬(L.length:Int)<1:=by omega
 have h3:¬(8:Int)<(L.length:Int):=by omega
 (repeat (with_reducible first|refine W_seq fun K hK=>?_|refine J_skip ?_|((fail_if_success refine J_region (id:=4) ?_);refine J_region ?_) |refine J_c ?_|refine Jc_false ?_|(refine Kont.go (by assumption) ?_)|(simp (config:={ maxSteps:=3000000 }) (disch:=omega) only [go_sem,List.length_map,h2,h3])))
 refine J_reserve ?_
 have h0:AV.f nilV=sl 0 1 ((bagS (L.take 0)).map U):=rfl
 (repeat (with_reducible first|refine J_block ?_|refine J_region ?_ |(refine Kont.go (by assumption) ?_)|(simp (config:={ maxSteps:=3000000 }) (disch:=omega) only [go_sem,List.length_map])))
 refine W_loop [2,3,4,6,7,8,19,20,21,22,23,24,25,26,27,28,29,30,31,32,33,34,35,36,37,38] (fun x:Nat=>[(4,sl 0 1 ((bagS (L.take x)).map U)),(19,.f (I x))]) (fun x:Nat=>[ob 56 1 ((bagS (L.take x)).map U)]) (fun x:Nat=>x≤L.length∧∀j,j<x→bagN (L.getD j [])=true) (fun x:Nat=>L.length-x) (0) (⟨Nat.zero_le _,fun j h=>by omega⟩) (by refine weak_of ?_ ?_<;>simp (disch:=omega) only [go_sem]<;>first|rfl|exact ⟨rfl,rfl⟩|exact Or.inl rfl|exact ⟨Or.inl rfl,Or.inl rfl⟩|trivial|assumption|omega|(symm;assumption)|((repeat' apply And.intro)<;>first|rfl|omega|trivial|exact .inl rfl|exact .inr ⟨rfl,rfl⟩|exact .inr rfl|(right;symm;assumption)|(symm;assumption)|assumption)) ?_
 rintro x ⟨hx,hp⟩
 simp only [go_sem]
 (repeat (with_reducible first|refine W_seq fun K hK=>?_|refine J_region ?_ |refine J_c ?_|(refine Kont.go (by assumption) ?_)|(simp (config:={ maxSteps:=3000000 }) (disch:=omega) only [go_sem])))
 refine Jc_if (fun hxl=>?_) (fun hxl=>?_)<;>try simp only [decide_eq_true_eq,decide_eq_false_iff_not] at hxl
 ·have g1:=map_get ints L hxl
  have g3:L.getD x []=L[x]:=lget_lt L [] hxl
  have hr:=read_w (n:=8) L[x] (by omega) (hLr _ (List.getElem_mem hxl)).2 (hLr _ (List.getElem_mem hxl)).1
  have hbad:bagN L[x]=false→bagsB L=false:=fun h=>by
   cases hb:bagsB L with
   | false=>rfl
   | true=>have:=(bagsB_iff.1 hb).2 _ (List.getElem_mem hxl);rw [h] at this;cases this
  obtain ⟨s,hs⟩:∃s,s=readS 8 L[x]:=⟨_,rfl⟩
  have hbl:(bagS (L.take x)).length=x:=by rw [bagS_len,List.length_take];omega
  have hal:((bagS (L.take x)).length+1)*8≤140737488355328:=by rw [hbl];omega
  have hrn:risB 8 L[x]=true→_:=fun h=>readS_nil (l:=L[x]) h
  rw [←hs] at hr hrn
  (repeat (with_reducible first|refine W_seq fun K hK=>?_|refine J_block ?_|refine J_skip ?_|refine J_region ?_ |(refine Kont.go (by assumption) ?_)|(simp (config:={ maxSteps:=3000000 }) (disch:=omega) only [go_sem,↓reduceIte,g1])))
  refine call_f hr rfl ?_
  cases hb1:risB 8 L[x] with
  | false =>
   have hb:=hbad (by unfold bagN;rw [hb1];rfl)
   (repeat (with_reducible first|refine W_seq fun K hK=>?_|refine J_ret ?_|refine J_region ?_ |refine J_c ?_|refine Jc_true ?_|(refine Kont.go (by assumption) ?_)|(simp (config:={ maxSteps:=3000000 }) (disch:=omega) only [go_sem])))
   rw [hb,bad hb]
   refine ⟨_,⟨rfl,rfl⟩,by simp,nilR,fun x hx=>by rcases List.mem_singleton.1 hx with rfl;exact .v _⟩
  | true =>
   obtain ⟨k1,k2⟩:=hrn hb1
   by_cases e:s=0
   ·have hb:=hbad (by unfold bagN;rw [decide_eq_true (k2.1 (k1▸e))];simp)
    (repeat (with_reducible first|refine W_seq fun K hK=>?_|refine J_ret ?_|refine J_region ?_ |refine J_c ?_|refine Jc_true ?_|(refine Kont.go (by assumption) ?_)|(simp (config:={ maxSteps:=3000000 }) (disch:=omega) only [go_sem,e,and_true])))
    rw [hb,bad hb]
    refine ⟨_,⟨rfl,rfl⟩,by simp,nilR,fun x hx=>by rcases List.mem_singleton.1 hx with rfl;exact .v _⟩
   ·have hok:bagN (L.getD x [])=true:=by rw [g3];unfold bagN;rw [hb1,decide_eq_false (fun h=>e (k1▸k2.2 h))];rfl
    have e':¬((s:Nat):Int)=0:=by omega
    have hnx:(bagS (L.take x)).map U++[U s]=(bagS (L.take (x+1))).map U:=by
     rw [List.take_add_one,List.getElem?_eq_getElem hxl,k1];unfold bagS;rw [List.map_append,List.map_append];rfl
    (repeat (with_reducible first|refine W_seq fun K hK=>?_|refine J_skip ?_|refine J_region ?_ |refine aApp_sl ?_|refine J_c ?_|refine Jc_false ?_|(refine Kont.go (by assumption) ?_)|(simp (config:={ maxSteps:=3000000 }) (disch:=omega) only [go_sem,Nat.reduceEqDiff,↓reduceIte,Nat.reduceLeDiff,e',hal,hnx,Nat.reduceMul,Nat.le_refl,true_and,and_self])))
    refine ⟨x+1,⟨by omega,upto_next (p:=fun j=>bagN (L.getD j [])=true) hp hok⟩,by omega,weak_of ?_ ?_⟩<;>(try simp (disch:=omega) only [go_sem])<;>(try first|done|omega|rfl|exact ⟨rfl,rfl⟩|trivial)
 ·have he:x=L.length:=by omega
  subst he
  have hb:bagsB L=true:=bagsB_iff.2 ⟨⟨hn1,hn8⟩,fun l hl=>by
   obtain ⟨j,hj,rfl⟩:=List.getElem_of_mem hl
   have:=hp j hj
   rwa [lget_lt L [] hj] at this⟩
  have hr:bgR L=.own 56 1 ((bagS L).map U):=by unfold bgR;rw [hb];rfl
  rw [List.take_length]
  (repeat (with_reducible first|refine W_seq fun K hK=>?_|refine J_exit ?_|refine J_ret ?_|refine J_region ?_ |(refine Kont.go (by assumption) ?_)|(simp (config:={ maxSteps:=3000000 }) (disch:=omega) only [go_sem,↓reduceIte])))
  rw [hb,hr]
  have hne:(bagS L).map U≠[]:=fun e=>by have:=congrArg List.length e;rw [List.length_map,bagS_len] at this;have h0:([]:List FV).length=0:=rfl;omega
  refine ⟨_,⟨rfl,rfl⟩,by simp,?_,fun x hx=>by rcases List.mem_singleton.1 hx with rfl;exact .v _⟩
  exact ownR_sl hne rfl (fun x hx=>by obtain ⟨y,_,rfl⟩:=List.mem_map.1 hx;exact .v _)
end Go.Proofs.YtgjnbcfencallaaDoor
set_option linter.unusedVariables false
set_option linter.unusedSimpArgs false
namespace Go.Proofs.YtgjnbcfencallaaDoor
open Go Go.RowKit
def frsI (p:Nat→Bool) (n:Nat):Int:=match (List.range n).find? p with
 | some i=>(i:Int)
 | none=>-1
theorem frsI_some {p:Nat→Bool} {n i:Nat} (hi:i<n) (hp:p i=true) (hb:∀j,j<i→p j=false):frsI p n=i:=by
 have e:(List.range n).find? p=some i:=List.find?_range_eq_some.2 ⟨hp,List.mem_range.2 hi,fun j hj=>by rw [hb j hj];rfl⟩
 unfold frsI;rw [e]
theorem frsI_none {p:Nat→Bool} {n:Nat} (hb:∀j,j<n→p j=false):frsI p n=-1:=by
 have e:(List.range n).find? p=none:=List.find?_eq_none.2 fun x hx=>by rw [hb x (List.mem_range.1 hx)];decide
 unfold frsI;rw [e]
theorem frsI_any {p:Nat→Bool} {n:Nat}:decide (0≤frsI p n)=(List.range n).any p:=by
 unfold frsI
 cases h:(List.range n).find? p with
 | none =>
  have h0:=List.find?_eq_none.1 h
  have:(List.range n).any p=false:=by
   rw [List.any_eq_false];exact fun x hx=>h0 x hx
  rw [this];rfl
 | some i =>
  have h0:=List.find?_some h
  have h1:=List.mem_of_find?_eq_some h
  have:(List.range n).any p=true:=List.any_eq_true.2 ⟨i,h1,h0⟩
  rw [this];exact decide_eq_true (by simp only;omega)
set_option maxRecDepth 100000 in
theorem indexFuncS_w {l:List Nat} {g:FuncId} {a b:List FV} {p:Nat→Bool} (hl:l.length≤1000) (hg:∀i,i<l.length→Good Tryd.prog g (a++[U (l.getD i 0)]++b) (Bo (p i))) :
  Good Tryd.prog 70 [.fz 1 (l.map U),.fn g a b] (I (frsI p l.length)):=by
 have hul:(l.map U).length=l.length:=List.length_map ..
 refine good_of Tryd.func70 rfl (by kernel_rfl) fun X hO hrd=>?_;rw [Tryd.ntmps70,Tryd.results70];simp only [ast0,List.map_cons,List.map_nil,List.length_cons,List.length_nil,Nat.reduceAdd,Nat.reduceSub,List.replicate_succ,List.replicate_zero,List.cons_append,List.nil_append]
 (repeat (with_reducible first|refine W_seq fun K hK=>?_|refine J_block ?_|refine J_region ?_ |(refine Kont.go (by assumption) ?_)|(simp (config:={ maxSteps:=3000000 }) (disch:=omega) only [go_sem,hul])))
 refine W_loop [4,5,8,9,10,11,12,13,14,15,16,17,18] (fun x:Nat=>[(8,.f (I x))]) (fun x:Nat=>[]) (fun x:Nat=>x≤l.length∧∀j,j<x→p j=false) (fun x:Nat=>l.length-x) (0) (⟨Nat.zero_le _,fun j h=>by omega⟩) (by refine weak_of ?_ ?_<;>simp (disch:=omega) only [go_sem]<;>first|rfl|exact ⟨rfl,rfl⟩|exact Or.inl rfl|exact ⟨Or.inl rfl,Or.inl rfl⟩|trivial|assumption|omega|(symm;assumption)|((repeat' apply And.intro)<;>first|rfl|omega|trivial|exact .inl rfl|exact .inr ⟨rfl,rfl⟩|exact .inr rfl|(right;symm;assumption)|(symm;assumption)|assumption)) ?_
 rintro i ⟨hi,hp⟩
 simp only [go_sem]
 (repeat (with_reducible first|refine W_seq fun K hK=>?_|refine J_region ?_ |refine J_c ?_|(refine Kont.go (by assumption) ?_)|(simp (config:={ maxSteps:=3000000 }) (disch:=omega) only [go_sem])))
 refine Jc_if (fun hlt=>?_) (fun hlt=>?_)<;>try simp only [decide_eq_true_eq,decide_eq_false_iff_not] at hlt
 ·have hx:=sets_get (P:=l) hlt
  have hc:=hg i hlt
  (repeat (with_reducible first|refine W_seq fun K hK=>?_|refine J_block ?_|refine J_skip ?_|refine J_region ?_ |(refine Kont.go (by assumption) ?_)|(simp (config:={ maxSteps:=3000000 }) (disch:=omega) only [go_sem,↓reduceIte,hx])))
  refine call_f hc (by simp) ?_
  (repeat (with_reducible first|refine J_c ?_|(refine Kont.go (by assumption) ?_)|(simp (config:={ maxSteps:=3000000 }) (disch:=omega) only [go_sem])))
  refine Jc_if (fun hpi=>?_) (fun hpi=>?_)<;>try simp only [decide_eq_true_eq,decide_eq_false_iff_not,Bool.not_eq_true',Bool.not_eq_false',Bool.not_true,Bool.not_false,Int.ofNat_lt,Int.ofNat_le,Int.natCast_inj,Classical.not_not] at hpi
  ·have e:frsI p l.length=i:=frsI_some hlt hpi hp
   (repeat (with_reducible first|refine W_seq fun K hK=>?_|refine J_ret ?_|refine J_region ?_ |(refine Kont.go (by assumption) ?_)|(simp (config:={ maxSteps:=3000000 }) (disch:=omega) only [go_sem])))
   rw [e]
   exact Frz.f _
  ·have hpf:p i=false:=by simpa using hpi
   (repeat (with_reducible first|refine J_skip ?_|refine J_region ?_ |(refine Kont.go (by assumption) ?_)|(simp (config:={ maxSteps:=3000000 }) (disch:=omega) only [go_sem])))
   refine ⟨i+1,⟨by omega,upto_next (p:=fun j=>p j=false) hp hpf⟩,by omega,weak_of ?_ ?_⟩<;>(try simp (disch:=omega) only [go_sem])<;>(try first|done|omega|rfl|exact ⟨rfl,rfl⟩|trivial)
 ·have he:i=l.length:=by omega
  subst he
  have e:frsI p l.length=-1:=frsI_none hp
  (repeat (with_reducible first|refine W_seq fun K hK=>?_|refine J_exit ?_|refine J_ret ?_|refine J_region ?_ |(refine Kont.go (by assumption) ?_)|(simp (config:={ maxSteps:=3000000 }) (disch:=omega) only [go_sem,↓reduceIte,Int.reduceNeg])))
  rw [e]
  exact Frz.f _
set_option maxRecDepth 100000 in
theorem containsFuncS_w {l:List Nat} {g:FuncId} {a b:List FV} {p:Nat→Bool} (hl:l.length≤1000) (hg:∀i,i<l.length→Good Tryd.prog g (a++[U (l.getD i 0)]++b) (Bo (p i))) :
  Good Tryd.prog 50 [.fz 1 (l.map U),.fn g a b] (Bo ((List.range l.length).any p)):=by
 have h:=indexFuncS_w hl hg
 rw [←frsI_any]
 refine good_of Tryd.func50 rfl (by kernel_rfl) fun X hO hrd=>?_;rw [Tryd.ntmps50,Tryd.results50];simp only [ast0,List.map_cons,List.map_nil,List.length_cons,List.length_nil,Nat.reduceAdd,Nat.reduceSub,List.replicate_succ,List.replicate_zero,List.cons_append,List.nil_append]
 (repeat (with_reducible first|refine W_seq fun K hK=>?_|refine J_region ?_ |(refine Kont.go (by assumption) ?_)|(simp (config:={ maxSteps:=3000000 }) (disch:=omega) only [go_sem])))
 refine call_f h rfl ?_
 (repeat (with_reducible first|refine J_ret ?_|exact Frz.f _|(refine Kont.go (by assumption) ?_)|(simp (config:={ maxSteps:=3000000 }) (disch:=omega) only [go_sem])))
section
variable {s t : Nat}
set_option maxRecDepth 100000 in
theorem tree1_w (hs:s<256) (ht:t<256):Good Tryd.prog 51 [U t,.fp (U s) 0] (Bo (decide (dif s t=0))):=by
 have h1:=u_an hs ht
 refine good_of Tryd.func51 rfl (by kernel_rfl) fun X hO hrd=>?_;rw [Tryd.ntmps51,Tryd.results51];simp only [ast0,List.map_cons,List.map_nil,List.length_cons,List.length_nil,Nat.reduceAdd,Nat.reduceSub,List.replicate_succ,List.replicate_zero,List.cons_append,List.nil_append]
 (repeat (with_reducible first|refine W_seq fun K hK=>?_|refine J_ret ?_|refine J_region ?_ |exact Frz.f _|(refine Kont.go (by assumption) ?_)|(simp (config:={ maxSteps:=3000000 }) (disch:=omega) only [go_sem,↓reduceIte,h1])))
set_option maxRecDepth 100000 in
theorem tree2_w (hs:s<256) (ht:t<256):Good Tryd.prog 52 [U t,.fp (U s) 0] (Bo (decide (dif s t=0)&&!decide (s=t))):=by
 have h1:=u_an hs ht
 refine good_of Tryd.func52 rfl (by kernel_rfl) fun X hO hrd=>?_;rw [Tryd.ntmps52,Tryd.results52];simp only [ast0,List.map_cons,List.map_nil,List.length_cons,List.length_nil,Nat.reduceAdd,Nat.reduceSub,List.replicate_succ,List.replicate_zero,List.cons_append,List.nil_append]
 by_cases e:dif s t=0
 ·(repeat (with_reducible first|refine W_seq fun K hK=>?_|refine J_ret ?_|refine J_region ?_ |(refine Kont.go (by assumption) ?_)|(simp (config:={ maxSteps:=3000000 }) (disch:=omega) only [go_sem,↓reduceIte,h1,e])))
  rw [show decide ((s:Int)=(t:Int))=decide (s=t) from decide_eq_decide.2 Int.natCast_inj]
  exact Frz.f _
 ·(repeat (with_reducible first|refine W_seq fun K hK=>?_|refine J_ret ?_|refine J_region ?_ |exact Frz.f _|(refine Kont.go (by assumption) ?_)|(simp (config:={ maxSteps:=3000000 }) (disch:=omega) only [go_sem,↓reduceIte,h1,e])))
end
end Go.Proofs.YtgjnbcfencallaaDoor
