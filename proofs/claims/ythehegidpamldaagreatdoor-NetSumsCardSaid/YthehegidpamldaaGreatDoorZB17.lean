/- Hidden chains, in plain Lean: what is behind and ahead make the same at each step; no way is likelier than the path. No program in sight. Conditions: none. -/
import Derived.Test.YthehegidpamldaaGreatDoorZB08
import Derived.Test.YthehegidpamldaaGreatDoorZB16
set_option linter.unusedVariables false
set_option linter.unusedSimpArgs false
namespace Go.Proofs.YthehegidpamldaaGreatDoor
open Go Go.RowKit
def sumF (f:Nat→Rat):Nat→Rat
 | 0=>0
 | n+1=>sumF f n+f n
def grt (a b:Rat):Rat:=if a<b then b else a
def maxF (f:Nat→Rat):Nat→Rat
 | 0=>0
 | n+1=>grt (maxF f n) (f n)
section
variable {f g : Nat → Rat} {n m : Nat}
theorem sumF_congr (h:∀k,k<n→f k=g k):sumF f n=sumF g n:=by
 induction n with
 | zero=>rfl
 | succ n ih=>show sumF f n+f n=sumF g n+g n;rw [ih fun k hk=>h k (by omega),h n (by omega)]
theorem sumF_zero:sumF (fun _=>0) n=0:=by
 induction n with
 | zero=>rfl
 | succ n ih=>show sumF _ n+0=0;rw [ih,Rat.add_zero]
theorem sumF_add:sumF (fun k=>f k+g k) n=sumF f n+sumF g n:=by
 induction n with
 | zero=>exact (Rat.add_zero 0).symm
 | succ n ih=>show sumF _ n+(f n+g n)=(sumF f n+f n)+(sumF g n+g n);rw [ih];grind
theorem sumF_mul (c:Rat):c*sumF f n=sumF (fun k=>c*f k) n:=by
 induction n with
 | zero=>exact Rat.mul_zero c
 | succ n ih=>show c*(sumF f n+f n)=sumF _ n+c*f n;rw [Rat.mul_add,ih]
theorem sumF_mulr (c:Rat):sumF f n*c=sumF (fun k=>f k*c) n:=by rw [Rat.mul_comm,sumF_mul];exact sumF_congr fun k _=>Rat.mul_comm _ _
theorem sumF_swap {h:Nat→Nat→Rat}:sumF (fun i=>sumF (fun k=>h i k) m) n=sumF (fun k=>sumF (fun i=>h i k) n) m:=by
 induction n with
 | zero=>exact sumF_zero.symm
 | succ n ih=>show sumF _ n+sumF _ m=_;rw [ih,←sumF_add];rfl
end
structure HM where
  n : Nat
  a : Nat → Rat
  mv : Nat → Nat → Rat
  sh : Nat → Nat → Rat
  s : Nat → Nat
  T : Nat
structure HM.Ok (h : HM) : Prop where
  a : ∀ i, 0 ≤ h.a i
  mv : ∀ i k, 0 ≤ h.mv i k
  sh : ∀ i k, 0 ≤ h.sh i k
def HM.fw (h:HM):Nat→Nat→Rat
 | 0,i=>h.a i*h.sh i (h.s 0)
 | t+1,i=>sumF (fun k=>HM.fw h t k*h.mv k i) h.n*h.sh i (h.s (t+1))
def HM.bwU (h:HM):Nat→Nat→Rat
 | 0,i=>1
 | u+1,i=>sumF (fun k=>h.mv i k*h.sh k (h.s (h.T-1-u))*HM.bwU h u k) h.n
def HM.mxU (h:HM):Nat→Nat→Rat
 | 0,i=>1
 | u+1,i=>maxF (fun k=>h.mv i k*h.sh k (h.s (h.T-1-u))*HM.mxU h u k) h.n
def HM.bw (h:HM) (t i:Nat):Rat:=h.bwU (h.T-1-t) i
def HM.mx (h:HM) (t i:Nat):Rat:=h.mxU (h.T-1-t) i
def HM.best (h:HM):Rat:=if h.T=0 then 1 else maxF (fun i=>h.a i*h.sh i (h.s 0)*h.mx 0 i) h.n
section
variable {h : HM} {t i : Nat}
theorem HM.bw_next (ht:t+1<h.T):h.bw t i=sumF (fun k=>h.mv i k*h.sh k (h.s (t+1))*h.bw (t+1) k) h.n:=by
 unfold HM.bw
 rw [show h.T-1-t=(h.T-1-(t+1))+1 by omega]
 show sumF _ _=_
 rw [show h.T-1-(h.T-1-(t+1))=t+1 by omega]
theorem HM.step (ht:t+1<h.T):sumF (fun i=>h.fw t i*h.bw t i) h.n=sumF (fun i=>h.fw (t+1) i*h.bw (t+1) i) h.n:=by
 have e1:sumF (fun i=>h.fw t i*h.bw t i) h.n=sumF (fun i=>sumF (fun k=>h.fw t i*h.mv i k*h.sh k (h.s (t+1))*h.bw (t+1) k) h.n) h.n :=
  sumF_congr fun i _=>by rw [HM.bw_next ht,sumF_mul];exact sumF_congr fun k _=>by simp only [Rat.mul_assoc]
 rw [e1,sumF_swap]
 refine sumF_congr fun k _=>?_
 show _=sumF (fun i=>h.fw t i*h.mv i k) h.n*h.sh k (h.s (t+1))*h.bw (t+1) k
 rw [sumF_mulr,sumF_mulr]
end
end Go.Proofs.YthehegidpamldaaGreatDoor
set_option linter.unusedVariables false
set_option linter.unusedSimpArgs false
namespace Go.Proofs.YthehegidpamldaaGreatDoor
open Go Go.RowKit
abbrev Mx:=Nat→Nat→Rat
def piv (M:Mx) (c n:Nat):Option Nat:=(List.range (n-c)).find? fun p=>decide (M (c+p) c≠0)
def swapM (M:Mx) (c r:Nat):Mx:=fun i k=>if i=c then M r k else if i=r then M c k else M i k
def divM (M:Mx) (c:Nat):Mx:=fun i k=>if i=c then M c k/M c c else M i k
def elimM (M:Mx) (c:Nat):Mx:=fun i k=>if i=c then M c k else M i k-M i c*M c k
def stepM (M:Mx) (c r:Nat):Mx:=elimM (divM (swapM M c r) c) c
def gs (n:Nat) (M:Mx):Nat→Option Mx
 | 0=>some M
 | c+1=>match gs n M c with
  | none=>none
  | some M'=>match piv M' c n with
   | none=>none
   | some p=>some (stepM M' c (c+p))
section
variable {n c r : Nat} {M : Mx} {y x : Nat → Rat}
end
end Go.Proofs.YthehegidpamldaaGreatDoor
set_option linter.unusedVariables false
set_option linter.unusedSimpArgs false
namespace Go.Proofs.YthehegidpamldaaGreatDoor
open Go Go.RowKit
abbrev Bx:=Nat→Nat→Bool
inductive Star (n : Nat) (E : Bx) (i : Nat) : Nat → Prop
  | refl : Star n E i i
  | step {j k : Nat} (h : Star n E i j) (hk : k < n) (he : E j k = true) : Star n E i k
section
variable {n K i j k : Nat} {E : Bx}
theorem Star.trans (h1:Star n E i j) (h2:Star n E j k):Star n E i k:=by
 induction h2 with
 | refl=>exact h1
 | step _ hk he ih=>exact .step ih hk he
theorem Star.lt (h:Star n E i j) (hi:i<n):j<n:=by cases h with|refl=>exact hi|step _ hk _=>exact hk
structure Pre (n : Nat) (R : Bx) : Prop where
  refl : ∀ i, R i i = true
  trans : ∀ i j k, j < n → R i j = true → R j k = true → R i k = true
variable {R : Bx}
end
end Go.Proofs.YthehegidpamldaaGreatDoor
set_option linter.unusedVariables false
set_option linter.unusedSimpArgs false
namespace Go.Proofs.YthehegidpamldaaGreatDoor
open Go Go.RowKit
def paO (P:List Nat):Pa:=fun u v=>(P.getD v 0).testBit u
def freB (P:List Nat) (n:Nat) (done:List Nat) (v:Nat):Bool:=!decide (v∈done)&&(List.range n).all fun u=>!paO P u v||decide (u∈done)
def nxtV (P:List Nat) (n:Nat) (done:List Nat):Option Nat:=(List.range n).find? (freB P n done)
def ordN (P:List Nat) (n:Nat):Nat→List Nat→Option (List Nat)
 | 0,done=>some done
 | k+1,done=>match nxtV P n done with
  | none=>none
  | some v=>ordN P n k (done++[v])
structure OrdI (P : List Nat) (n : Nat) (done : List Nat) : Prop where
  nd : done.Nodup
  lt : ∀ v ∈ done, v < n
  pre : ∀ i (h : i < done.length) u, paO P u done[i] = true → u ∈ done.take i
section
variable {P : List Nat} {n v : Nat} {done l : List Nat}
theorem OrdI.nil:OrdI P n []:=⟨List.nodup_nil,fun v h=>by simp at h,fun i h=>by simp at h⟩
theorem freB_iff (hP:∀u v,paO P u v=true→u<n∧v<n):freB P n done v=true↔v∉done∧∀u,paO P u v=true→u∈done:=by
 unfold freB
 rw [Bool.and_eq_true,List.all_eq_true]
 constructor
 ·rintro ⟨h1,h2⟩
  refine ⟨by simpa using h1,fun u hu=>?_⟩
  have:=h2 u (List.mem_range.2 (hP u v hu).1)
  rw [hu] at this
  simpa using this
 ·rintro ⟨h1,h2⟩
  refine ⟨by simpa using h1,fun u _=>?_⟩
  cases hu:paO P u v with
  | false=>rfl
  | true=>simpa using h2 u hu
theorem OrdI.next (hP:∀u v,paO P u v=true→u<n∧v<n) (h:OrdI P n done) (hv:nxtV P n done=some v):OrdI P n (done++[v]):=by
 have hf:=(freB_iff hP).1 (List.find?_some hv)
 have hvn:=List.mem_range.1 (List.mem_of_find?_eq_some hv)
 refine ⟨List.nodup_append.2 ⟨h.nd,by simp,fun a ha b hb=>by rw [List.mem_singleton.1 hb];exact fun e=>hf.1 (e▸ha)⟩,fun w hw=>?_,fun i hi u hu=>?_⟩
 ·rcases List.mem_append.1 hw with hw|hw
  ·exact h.lt w hw
  ·rw [List.mem_singleton.1 hw];exact hvn
 ·by_cases hid:i<done.length
  ·rw [List.getElem_append_left hid] at hu
   rw [List.take_append_of_le_length (by omega)]
   exact h.pre i hid u hu
  ·have e:i=done.length:=by simp at hi;omega
   subst e
   rw [List.getElem_append_right (Nat.le_refl _)] at hu
   rw [List.take_append_of_le_length (Nat.le_refl _),List.take_length]
   exact hf.2 u (by simpa using hu)
theorem Star.first {E:Bx} {u v z:Nat} (h:Star n E v z) (hv:v<n) (he:E u v=true):Star n E u z:=(Star.step .refl hv he).trans h
end
end Go.Proofs.YthehegidpamldaaGreatDoor
set_option linter.unusedVariables false
set_option linter.unusedSimpArgs false
namespace Go.Proofs.YthehegidpamldaaGreatDoor
open Go Go.RowKit
def sn (f:Nat→Nat):Nat→Nat
 | 0=>0
 | n+1=>sn f n+f n
section
variable {f g : Nat → Nat} {n : Nat}
end
def lackF (l:List Nat) (s a b:Nat):Nat:=if (s.testBit a&&s.testBit b&&!(l.getD a 0).testBit b&&decide (a≠b))=true then 1 else 0
def lackN (l:List Nat) (s:Nat):Nat:=sn (fun a=>sn (lackF l s a) a) 8
def SymG (l:List Nat):Prop:=∀a b,(l.getD a 0).testBit b=(l.getD b 0).testBit a
section
variable {l : List Nat} {s v : Nat}
end
def lk (l:List Nat) (left v:Nat):Nat:=lackN l (l.getD v 0&&&left)
structure IsBest (l : List Nat) (left : Nat) (p : Nat → Prop) (v : Nat) : Prop where
  mem : left.testBit v = true
  here : p v
  least : ∀ u, p u → left.testBit u = true → lk l left v ≤ lk l left u ∧ (lk l left u = lk l left v → v ≤ u)
def bst (l:List Nat) (left:Nat):Nat:=((els left).find? fun v=>(els left).all fun u=>decide (lk l left v≤lk l left u∧(lk l left u=lk l left v→v≤u))).getD 0
section
variable {l : List Nat} {left v : Nat}
theorem bst_eq (h:IsBest l left (fun u=>u<8) v):bst l left=v:=by
 unfold bst
 have h8:∀u,u∈els left→u<8∧left.testBit u=true:=fun u hu=>els_mem.1 hu
 have hv:v∈els left:=els_mem.2 ⟨h.here,h.mem⟩
 cases hf:(els left).find? fun v=>(els left).all fun u=>decide (lk l left v≤lk l left u∧(lk l left u=lk l left v→v≤u)) with
 | none =>
  have:=List.find?_eq_none.1 hf v hv
  refine absurd ?_ this
  rw [List.all_eq_true]
  intro u hu
  obtain ⟨h1,h2⟩:=h8 u hu
  exact decide_eq_true (h.least u h1 h2)
 | some w =>
  have hw:=List.mem_of_find?_eq_some hf
  have hp:=List.find?_some hf
  rw [List.all_eq_true] at hp
  have h1:=of_decide_eq_true (hp v hv)
  obtain ⟨w1,w2⟩:=h8 w hw
  have h2:=h.least w w1 w2
  show w=v
  have a:=h1.1
  have b:=h2.1
  have e:lk l left w=lk l left v:=by omega
  have c:=h1.2 e.symm
  have d:=h2.2 e
  omega
end
def updG (l:List Nat) (left:Nat):Nat:=l.getD (bst l left) 0&&&left
def updL (l:List Nat) (left:Nat):List Nat:=(List.range l.length).map fun v=>if (updG l left).testBit v=true then l.getD v 0|||dif (updG l left) (bit v) else l.getD v 0
def fS (l0:List Nat) (left0:Nat):Nat→List Nat × Nat
 | 0=>(l0,left0)
 | k+1=>(updL (fS l0 left0 k).1 (fS l0 left0 k).2,dif (fS l0 left0 k).2 (bit (bst (fS l0 left0 k).1 (fS l0 left0 k).2)))
def fB (l0:List Nat) (left0 k:Nat):Nat:=bst (fS l0 left0 k).1 (fS l0 left0 k).2
structure GrOk (n : Nat) (l : List Nat) : Prop where
  len : l.length = n
  n8 : n ≤ 8
  sym : SymG l
  irr : ∀ v, (l.getD v 0).testBit v = false
  below : ∀ v u, (l.getD v 0).testBit u = true → u < n
section
variable {l : List Nat} {n left v : Nat}
theorem GrOk.lt (h:GrOk n l):l.getD v 0<256:=by
 have:l.getD v 0<2^n:=Nat.lt_pow_two_of_testBit _ fun i hi=>by
  cases hb:(l.getD v 0).testBit i with
  | false=>rfl
  | true=>have:=h.below v i hb;omega
 exact Nat.lt_of_lt_of_le this (show 2^n≤2^8 from Nat.pow_le_pow_right (by decide) h.n8)
theorem bst_lt (hl:left≠0) (h8:left<256):IsBest l left (fun u=>u<8) (bst l left):=by
 have hex:∀m,m≤8→(∃v,v<m∧left.testBit v=true)→∃v,IsBest l left (fun u=>u<m) v:=by
  intro m
  induction m with
  | zero=>rintro _ ⟨v,hv,_⟩;omega
  | succ m ih =>
   rintro hm ⟨v,hv,hb⟩
   by_cases h1:∃v,v<m∧left.testBit v=true
   ·obtain ⟨w,hw⟩:=ih (by omega) h1
    by_cases h2:left.testBit m=true∧lk l left m<lk l left w
    ·refine ⟨m,h2.1,by omega,fun u hu hub=>?_⟩
     by_cases e:u=m
     ·subst e;exact ⟨Nat.le_refl _,fun _=>Nat.le_refl _⟩
     ·have:=hw.least u (by omega) hub
      exact ⟨by omega,fun e=>by omega⟩
    ·refine ⟨w,hw.mem,by have:=hw.here;omega,fun u hu hub=>?_⟩
     by_cases e:u=m
     ·subst e
      have:¬lk l left u<lk l left w:=fun h=>h2 ⟨hub,h⟩
      have:=hw.here
      exact ⟨by omega,fun _=>by omega⟩
     ·exact hw.least u (by omega) hub
   ·have e:v=m:=by
     by_cases e:v=m
     ·exact e
     ·exact absurd ⟨v,by omega,hb⟩ h1
    subst e
    refine ⟨v,hb,by omega,fun u hu hub=>?_⟩
    by_cases e:u=v
    ·subst e;exact ⟨Nat.le_refl _,fun _=>Nat.le_refl _⟩
    ·exact absurd ⟨u,by omega,hub⟩ h1
 have hne:∃v,v<8∧left.testBit v=true:=by
  refine Classical.byContradiction fun hn=>hl ?_
  refine ext_bits h8 (by decide) fun v hv=>?_
  rw [Nat.zero_testBit]
  cases hb:left.testBit v with
  | false=>rfl
  | true=>exact absurd ⟨v,hv,hb⟩ hn
 obtain ⟨v,hv⟩:=hex 8 (Nat.le_refl _) hne
 rw [bst_eq hv]
 exact hv
theorem upd_ok (h:GrOk n l) (hl:left≠0) (h8:left<256):GrOk n (updL l left):=by
 have hg:∀v,(updL l left).getD v 0=if v<n then (if (updG l left).testBit v=true then l.getD v 0|||dif (updG l left) (bit v) else l.getD v 0) else 0:=fun v=>by
  unfold updL
  rw [List.getD_eq_getElem?_getD,List.getElem?_map]
  by_cases hv:v<n
  ·rw [List.getElem?_range (by rw [h.len];exact hv),if_pos hv];rfl
  ·rw [List.getElem?_eq_none (by simp [h.len];omega),if_neg hv];rfl
 have hS:∀u,(updG l left).testBit u=true→(l.getD (bst l left) 0).testBit u=true:=fun u hu=>by
  unfold updG at hu
  rw [Nat.testBit_and] at hu
  cases hb:(l.getD (bst l left) 0).testBit u with
  | true=>rfl
  | false=>rw [hb] at hu;cases hu
 have hout:∀v,¬v<n→l.getD v 0=0:=fun v hv=>by rw [List.getD_eq_getElem?_getD,List.getElem?_eq_none (by rw [h.len];omega)];rfl
 have hb:∀v u,((updL l left).getD v 0).testBit u=((l.getD v 0).testBit u||((updG l left).testBit v&&(updG l left).testBit u&&decide (v≠u))):=fun v u=>by
  rw [hg]
  by_cases hv:v<n
  ·rw [if_pos hv]
   cases hs:(updG l left).testBit v with
   | false=>rw [if_neg (by decide)];simp
   | true =>
    rw [if_pos rfl,Nat.testBit_or,dif_bit,bit_bit]
    by_cases e:v=u<;>simp [e]
  ·rw [if_neg hv,hout v hv,Nat.zero_testBit]
   cases hs:(updG l left).testBit v with
   | false=>simp
   | true=>exact absurd (h.below _ _ (hS v hs)) hv
 refine ⟨by unfold updL;simp [h.len],h.n8,fun a b=>?_,fun v=>?_,fun v u hu=>?_⟩
 ·rw [hb,hb,h.sym a b]
  congr 1
  cases (updG l left).testBit a<;>cases (updG l left).testBit b<;>by_cases e:a=b<;>simp [e,eq_comm]
 ·rw [hb,h.irr];simp
 ·rw [hb] at hu
  cases h1:(l.getD v 0).testBit u with
  | true=>exact h.below v u h1
  | false =>
   rw [h1] at hu
   cases h2:(updG l left).testBit u with
   | true=>exact h.below _ _ (hS u h2)
   | false=>rw [h2] at hu;simp at hu
end
structure FOk (n : Nat) (l0 : List Nat) (left0 k : Nat) : Prop where
  gr : GrOk n (fS l0 left0 k).1
  lt : (fS l0 left0 k).2 < 256
  left : ∀ u, (fS l0 left0 k).2.testBit u = (decide (u < n) && decide (u ∉ (List.range k).map (fB l0 left0)))
  nd : ((List.range k).map (fB l0 left0)).Nodup
  bn : ∀ u ∈ (List.range k).map (fB l0 left0), u < n
theorem nodup_lt {l:List Nat} {n:Nat} (hd:l.Nodup) (hl:∀u∈l,u<n):l.length≤n:=by
 have:=List.Nodup.length_le_of_subset hd (l₂:=List.range n) (fun x hx=>List.mem_range.2 (hl x hx))
 simpa using this
section
variable {n k left0 : Nat} {l0 : List Nat}
theorem FOk.zero (hg:GrOk n l0) (hl:∀u,left0.testBit u=decide (u<n)) (h8:left0<256):FOk n l0 left0 0:=⟨hg,h8,fun u=>by show left0.testBit u=_;rw [hl];simp,by simp,by simp⟩
theorem FOk.ne (h:FOk n l0 left0 k) (hk:k<n):(fS l0 left0 k).2≠0:=fun e=>by
 have hall:∀u,u<n→u∈(List.range k).map (fB l0 left0):=fun u hu=>by
  have:=h.left u
  rw [e,Nat.zero_testBit,decide_eq_true hu,Bool.true_and] at this
  exact Classical.byContradiction fun hn=>by rw [decide_eq_true hn] at this;cases this
 have:=List.Nodup.length_le_of_subset (List.nodup_range (n:=n)) (l₂:=(List.range k).map (fB l0 left0)) (fun x hx=>hall x (List.mem_range.1 hx))
 simp at this
 omega
theorem FOk.end (h:FOk n l0 left0 n):(fS l0 left0 n).2=0:=by
 refine ext_bits h.lt (by decide) fun u _=>?_
 rw [h.left,Nat.zero_testBit]
 by_cases hu:u<n
 ·refine Bool.and_eq_false_iff.2 (.inr (decide_eq_false fun hn=>?_))
  have hnd:(u::(List.range n).map (fB l0 left0)).Nodup:=List.nodup_cons.2 ⟨hn,h.nd⟩
  have:=nodup_lt hnd fun x hx=>by
   rcases List.mem_cons.1 hx with rfl|hx
   ·exact hu
   ·exact h.bn x hx
  simp at this
  omega
 ·rw [decide_eq_false hu];rfl
theorem FOk.best (h:FOk n l0 left0 k) (hk:k<n):IsBest (fS l0 left0 k).1 (fS l0 left0 k).2 (fun u=>u<8) (fB l0 left0 k):=bst_lt (h.ne hk) h.lt
theorem FOk.next (h:FOk n l0 left0 k) (hk:k<n):FOk n l0 left0 (k+1):=by
 have hb:=h.best hk
 have hm:=hb.mem
 rw [h.left] at hm
 obtain ⟨h1,h2⟩:=Bool.and_eq_true_iff.1 hm
 have hr:(List.range (k+1)).map (fB l0 left0)=(List.range k).map (fB l0 left0)++[fB l0 left0 k]:=by rw [List.range_succ,List.map_append];rfl
 refine ⟨upd_ok h.gr (h.ne hk) h.lt,dif_lt h.lt,fun u=>?_,?_,fun u hu=>?_⟩
 ·show (dif (fS l0 left0 k).2 (bit (fB l0 left0 k))).testBit u=_
  rw [dif_bit,bit_bit,h.left,hr]
  by_cases e:fB l0 left0 k=u
  ·subst e;simp
  ·have e':¬u=fB l0 left0 k:=fun h=>e h.symm
   simp [e,e']
 ·rw [hr]
  exact List.nodup_append.2 ⟨h.nd,by simp,fun a ha b hb=>by
   rw [List.mem_singleton.1 hb]
   exact fun e=>of_decide_eq_true h2 (e▸ha)⟩
 ·rw [hr] at hu
  rcases List.mem_append.1 hu with hu|hu
  ·exact h.bn u hu
  ·rw [List.mem_singleton.1 hu];exact of_decide_eq_true h1
theorem FOk.all (hg:GrOk n l0) (hl:∀u,left0.testBit u=decide (u<n)) (h8:left0<256):∀k,k≤n→FOk n l0 left0 k:=by
 intro k
 induction k with
 | zero=>intro _;exact .zero hg hl h8
 | succ k ih=>intro hk;exact (ih (by omega)).next (by omega)
end
end Go.Proofs.YthehegidpamldaaGreatDoor
set_option linter.unusedVariables false
set_option linter.unusedSimpArgs false
namespace Go.Proofs.YthehegidpamldaaGreatDoor
open Go Go.RowKit
theorem sorted_exG:∀{a b:List Nat},a.Pairwise (·< ·)→b.Pairwise (·< ·)→(∀v,v∈a↔v∈b)→a=b:=by
 intro a
 induction a with
 | nil=>intro b _ _ h;cases b with
  | nil=>rfl
  | cons y b=>exact absurd ((h y).2 (by simp)) (by simp)
 | cons x a ih =>
  intro b ha hb h
  cases b with
  | nil=>exact absurd ((h x).1 (by simp)) (by simp)
  | cons y b =>
   obtain ⟨ha1,ha2⟩:=List.pairwise_cons.1 ha
   obtain ⟨hb1,hb2⟩:=List.pairwise_cons.1 hb
   have e:x=y:=by
    rcases List.mem_cons.1 ((h x).1 (by simp)) with e|hx
    ·exact e
    ·rcases List.mem_cons.1 ((h y).2 (by simp)) with e|hy
     ·exact e.symm
     ·have:=ha1 y hy;have:=hb1 x hx;omega
   subst e
   rw [ih ha2 hb2 fun v=>⟨fun hv=>?_,fun hv=>?_⟩]
   ·rcases List.mem_cons.1 ((h v).1 (by simp [hv])) with e|h'
    ·subst e;have:=ha1 v hv;omega
    ·exact h'
   ·rcases List.mem_cons.1 ((h v).2 (by simp [hv])) with e|h'
    ·subst e;have:=hb1 v hv;omega
    ·exact h'
theorem els_sorted {s:Nat}:(els s).Pairwise (·< ·):=List.Pairwise.filter _ List.pairwise_lt_range
def setN (l:List Nat):Nat:=l.foldl (fun s v=>s|||bit v) 0
section
variable {l : List Nat} {n u v s : Nat} {p : Nat → Bool}
theorem setN_snoc:setN (l++[v])=setN l|||bit v:=by simp [setN]
theorem setN_bit:(setN l).testBit u=decide (u∈l):=by
 suffices h:∀(l:List Nat) (s:Nat),(l.foldl (fun s v=>s|||bit v) s).testBit u=(s.testBit u||decide (u∈l)) by
  have:=h l 0
  rw [Nat.zero_testBit,Bool.false_or] at this
  exact this
 intro l
 induction l with
 | nil=>intro s;simp
 | cons v l ih =>
  intro s
  rw [List.foldl_cons,ih,Nat.testBit_or,bit_bit,Bool.or_assoc]
  congr 1
  by_cases e:v=u
  ·subst e;simp
  ·have e':¬u=v:=fun h=>e h.symm
   simp [e,e']
theorem lt256 (h:∀v,s.testBit v=true→v<8):s<256:=Nat.lt_pow_two_of_testBit (n:=8) _ fun i hi=>by
 cases hb:s.testBit i with
 | false=>rfl
 | true=>have:=h i hb;omega
theorem setN_lt (h:∀v∈l,v<8):setN l<256:=lt256 fun v hv=>by
 rw [setN_bit] at hv;exact h v (of_decide_eq_true hv)
theorem ext_bits' {a b:Nat} (h:∀v,a.testBit v=b.testBit v):a=b:=Nat.eq_of_testBit_eq h
theorem dif_zero {a b:Nat}:dif a b=0↔∀v,a.testBit v=true→b.testBit v=true:=by
 constructor
 ·intro h v hv
  have e:(dif a b).testBit v=false:=by rw [h];exact Nat.zero_testBit v
  rw [dif_bit,hv] at e
  simpa using e
 ·intro h
  refine ext_bits' fun v=>?_
  rw [dif_bit,Nat.zero_testBit]
  cases hv:a.testBit v with
  | false=>rfl
  | true=>rw [h v hv];rfl
end
section
variable {n v u : Nat} {l : List Int}
theorem setI_mem (h:risB n l=true) (hv:(setI l).testBit v=true):v<n:=by
 rw [set_mem h] at hv
 obtain ⟨j,hj,e⟩:=List.getElem_of_mem (of_decide_eq_true hv)
 have:=(risB_iff.1 h j hj).2
 rw [lget_lt l 0 hj,e] at this
 omega
theorem ris_els (hn:n≤8) (h:risB n l=true):l.map I=Ns (els (setI l)):=by
 have hr:=risB_iff.1 h
 have hnn:=(ris_nn (x:=l.length) hr).2
 have e:l.map Int.toNat=els (setI l):=by
  refine sorted_exG ?_ els_sorted fun v=>?_
  ·rw [List.pairwise_map]
   have hlt:∀i j,i<j→j<l.length→l.getD i 0<l.getD j 0:=by
    intro i j
    induction j with
    | zero=>intro h;omega
    | succ j ih =>
     intro hij hj
     have h1:=(hr (j+1) hj).1
     rw [prevI_next] at h1
     by_cases e:i=j
     ·subst e;exact h1
     ·exact Int.lt_trans (ih (by omega) (by omega)) h1
   rw [List.pairwise_iff_getElem]
   intro i j hi hj hij
   have h1:=hlt i j hij hj
   have h2:=hnn i hi
   rw [lget_lt l 0 hi] at h1 h2
   rw [lget_lt l 0 hj] at h1
   omega
  ·rw [els_mem,List.mem_map,set_mem h,decide_eq_true_iff]
   constructor
   ·rintro ⟨x,hx,rfl⟩
    obtain ⟨j,hj,e⟩:=List.getElem_of_mem hx
    have h1:=hnn j hj
    have h2:=(hr j hj).2
    rw [lget_lt l 0 hj,e] at h1 h2
    exact ⟨by omega,by rw [Int.toNat_of_nonneg h1];exact hx⟩
   ·rintro ⟨_,hx⟩
    exact ⟨_,hx,by omega⟩
 rw [←e]
 unfold Ns
 rw [List.map_map]
 refine List.map_congr_left fun x hx=>?_
 obtain ⟨j,hj,e⟩:=List.getElem_of_mem hx
 have h1:=hnn j hj
 rw [lget_lt l 0 hj,e] at h1
 show I x=I ((x.toNat:Nat):Int)
 rw [Int.toNat_of_nonneg h1]
end
section
variable {p : Nat → Bool} {n x : Nat}
end
structure GP (n : Nat) (P : List Nat) : Prop where
  len : P.length = n
  n1 : 1 ≤ n
  n8 : n ≤ 8
  lt : ∀ v u, (P.getD v 0).testBit u = true → u < n
  irr : ∀ v, (P.getD v 0).testBit v = false
section
variable {n u v : Nat} {P : List Nat} {L : List (List Int)}
theorem GP.lt8 (h:GP n P):P.getD v 0<256:=lt256 fun u hu=>by have:=h.lt v u hu;have:=h.n8;omega
theorem GP.pa (h:GP n P):∀u v,paO P u v=true→u<n∧v<n:=fun u v hu=>by
 refine ⟨h.lt v u hu,?_⟩
 rcases Nat.lt_or_ge v n with h'|h'
 ·exact h'
 ·unfold paO at hu
  rw [List.getD_eq_getElem?_getD,List.getElem?_eq_none (by rw [h.len];exact h')] at hu
  rw [show (none:Option Nat).getD 0=0 from rfl,Nat.zero_testBit] at hu
  cases hu
theorem sets_get (h:v<P.length):(P.map U)[v]?=some (U (P.getD v 0)):=by rw [map_get U P h,lget_lt P 0 h]
theorem setsOf_len:(setsOf L).length=L.length:=by simp [setsOf]
theorem setsOf_get (h:v<L.length):(setsOf L).getD v 0=readS L.length L[v]:=by
 rw [lget_lt _ 0 (by rw [setsOf_len];exact h)]
 simp only [setsOf,List.getElem_map,List.getElem_range]
 unfold setAt
 rw [lget_lt L [] h]
theorem ok_node (hb:listsB L=true) (h:v<L.length):risB L.length L[v]=true∧(setI L[v]).testBit v=false∧readS L.length L[v]=setI L[v]:=by
 have h1:=(listsB_iff.1 hb).2 v h
 unfold nodeB at h1
 rw [lget_lt L [] h] at h1
 obtain ⟨h2,h3⟩:=Bool.and_eq_true_iff.1 h1
 have h4:readS L.length L[v]=setI L[v]:=by unfold readS;rw [if_pos h2]
 rw [h4] at h3
 exact ⟨h2,by simpa using h3,h4⟩
theorem GP.of (hb:listsB L=true):GP L.length (setsOf L):=by
 obtain ⟨⟨h1,h8⟩,_⟩:=listsB_iff.1 hb
 have hout:∀v,¬v<L.length→(setsOf L).getD v 0=0:=fun v hv=>by
  rw [List.getD_eq_getElem?_getD,List.getElem?_eq_none (by rw [setsOf_len];omega)];rfl
 refine ⟨setsOf_len,h1,h8,fun v u hu=>?_,fun v=>?_⟩
 ·by_cases hv:v<L.length
  ·obtain ⟨k1,k2,k3⟩:=ok_node hb hv
   rw [setsOf_get hv,k3] at hu
   exact setI_mem k1 hu
  ·rw [hout v hv,Nat.zero_testBit] at hu;cases hu
 ·by_cases hv:v<L.length
  ·obtain ⟨k1,k2,k3⟩:=ok_node hb hv
   rw [setsOf_get hv,k3];exact k2
  ·rw [hout v hv,Nat.zero_testBit]
end
def ordL (L:List (List Int)):List Nat:=if listsB L=true then (ordN (setsOf L) L.length L.length []).getD [] else []
def ordE (L:List (List Int)):Int:=if listsB L=true then (if (ordN (setsOf L) L.length L.length []).isSome=true then 0 else 10) else 11
section
variable {n u v s t : Nat} {P done : List Nat}
theorem fre_dif (h:GP n P) (hv:v<n):freB P n done v=(!decide (v∈done)&&decide (dif (P.getD v 0) (setN done)=0)):=by
 rw [Bool.eq_iff_iff,freB_iff h.pa,Bool.and_eq_true,decide_eq_true_iff,dif_zero]
 simp only [setN_bit,decide_eq_true_eq,Bool.not_eq_true',decide_eq_false_iff_not]
 rfl
theorem nxt_some (hx:v<n) (hf:freB P n done v=true) (hp:∀j,j<v→freB P n done j=false):nxtV P n done=some v:=by
 unfold nxtV
 rw [List.find?_eq_some_iff_append]
 refine ⟨hf,List.range v,(List.range' (v+1) (n-v-1)),?_,fun a ha=>by rw [hp a (List.mem_range.1 ha)];rfl⟩
 apply List.ext_getElem?
 intro i
 by_cases h1:i<v
 ·rw [List.getElem?_append_left (by simpa using h1),List.getElem?_range (by omega),List.getElem?_range h1]
 ·rw [List.getElem?_append_right (by simp;omega)]
  by_cases h2:i=v
  ·subst h2;simp [hx]
  ·obtain ⟨k,rfl⟩:∃k,i=v+(k+1):=⟨i-v-1,by omega⟩
   simp only [List.length_range,Nat.add_sub_cancel_left,List.getElem?_cons_succ]
   by_cases h3:v+(k+1)<n
   ·rw [List.getElem?_range h3,List.getElem?_range' (by omega)];simp;omega
   ·rw [List.getElem?_eq_none (by simp;omega),List.getElem?_eq_none (by simp;omega)]
theorem nxt_none (hp:∀j,j<n→freB P n done j=false):nxtV P n done=none:=by
 unfold nxtV
 rw [List.find?_eq_none]
 intro a ha
 rw [hp a (List.mem_range.1 ha)];simp
end
end Go.Proofs.YthehegidpamldaaGreatDoor
set_option linter.unusedVariables false
set_option linter.unusedSimpArgs false
namespace Go.Proofs.YthehegidpamldaaGreatDoor
open Go Go.RowKit
theorem ord_left {P done:List Nat} {n:Nat} (h:OrdI P n done):done.length≤n:=by
 have:=List.Nodup.length_le_of_subset h.nd (l₂:=List.range n) (fun x hx=>List.mem_range.2 (h.lt x hx))
 simpa using this
structure OrdS (P : List Nat) (n : Nat) (done : List Nat) : Prop where
  i : OrdI P n done
  eq : ordN P n (n - done.length) done = ordN P n n []
theorem OrdS.nil {P:List Nat} {n:Nat}:OrdS P n []:=⟨.nil,rfl⟩
theorem OrdS.next {P done:List Nat} {n v:Nat} (hg:GP n P) (h:OrdS P n done) (hl:done.length<n) (hv:nxtV P n done=some v):OrdS P n (done++[v]):=by
 refine ⟨h.i.next hg.pa hv,?_⟩
 rw [←h.eq]
 have e:n-done.length=(n-(done++[v]).length)+1:=by simp;omega
 rw [e]
 show _=(match nxtV P n done with|none=>none|some v=>ordN P n _ (done++[v]))
 rw [hv]
theorem OrdS.stop {P done:List Nat} {n:Nat} (h:OrdS P n done) (hl:done.length<n) (hv:nxtV P n done=none):ordN P n n []=none:=by
 rw [←h.eq]
 have e:n-done.length=(n-done.length-1)+1:=by omega
 rw [e]
 show (match nxtV P n done with|none=>none|some v=>ordN P n _ (done++[v]))=none
 rw [hv]
theorem OrdS.end {P done:List Nat} {n:Nat} (h:OrdS P n done) (hl:¬done.length<n):ordN P n n []=some done:=by
 rw [←h.eq]
 have:=ord_left h.i
 rw [show n-done.length=0 by omega];rfl
theorem bad_ordL {L:List (List Int)} (hb:listsB L=false):ordL L=[]∧ordE L=11:=by unfold ordL ordE;rw [hb];exact ⟨rfl,rfl⟩
theorem ok_ord {L:List (List Int)} (hb:listsB L=true) {o:Option (List Nat)} (h:ordN (setsOf L) L.length L.length []=o):ordL L=o.getD []∧ordE L=if o.isSome=true then 0 else 10:=by
 unfold ordL ordE;rw [hb,h];exact ⟨rfl,rfl⟩
set_option maxRecDepth 100000 in
set_option maxHeartbeats 8000000 in
theorem order_w (L:List (List Int)) (hL:OkIss L):Good Tryz.prog 90 [.fz 1 (L.map ints)] (.tup [.fz 1 (Ns (ordL L)),I (ordE L)]):=by
 have hr:=reads_w L hL
 obtain ⟨vL,hvL⟩:∃vL,vL=ordL L:=⟨_,rfl⟩
 obtain ⟨vE,hvE⟩:∃vE,vE=ordE L:=⟨_,rfl⟩
 rw [←hvL,←hvE]
 refine good_of Tryz.func90 rfl (by kernel_rfl) fun X hO hrd=>?_;rw [Tryz.ntmps90,Tryz.results90];simp only [ast0,List.map_cons,List.map_nil,List.length_cons,List.length_nil,Nat.reduceAdd,Nat.reduceSub,List.replicate_succ,List.replicate_zero,List.cons_append,List.nil_append]
 (repeat (with_reducible first|refine W_seq fun K hK=>?_|refine J_region ?_ |(refine Kont.go (by assumption) ?_)|(simp (config:={ maxSteps:=3000000 }) (disch:=omega) only [go_sem])))
 refine J_scope ?_
 (repeat (with_reducible first|refine W_seq fun K hK=>?_|refine J_region ?_ |(simp (config:={ maxSteps:=3000000 }) (disch:=omega) only [go_sem])))
 refine call_ot hr (FrzL.fs [_]) ?_
 cases hb:listsB L with
 | false =>
  obtain ⟨e1,e2⟩:=bad_ordL hb
  have e3:rdR L=.f nilV:=by unfold rdR;rw [hb];rfl
  rw [e3]
  (repeat (with_reducible first|refine W_seq fun K hK=>?_|refine J_ret ?_|refine J_region ?_ |refine J_c ?_|refine Jc_true ?_|(refine Kont.go (by assumption) ?_)|(simp (config:={ maxSteps:=3000000 }) (disch:=omega) only [go_sem])))
  rw [hvL,hvE,e1,e2]
  exact ⟨_,rfl,FrzL.cons (.nil _) (FrzL.cons (.f _) (FrzL.nil _))⟩
 | true =>
  have hg:=GP.of hb
  have e3:rdR L=.own 156 1 ((setsOf L).map U):=by unfold rdR;rw [hb];rfl
  have ho:=fun o=>ok_ord (o:=o) hb
  rw [e3]
  obtain ⟨P,hP⟩:∃P,P=setsOf L:=⟨_,rfl⟩
  obtain ⟨n,hn⟩:∃n,n=L.length:=⟨_,rfl⟩
  rw [←hP,←hn] at hg ho
  rw [←hvL,←hvE] at ho
  rw [←hP]
  have hl:=hg.len
  have hn8:=hg.n8
  (repeat (with_reducible first|refine W_seq fun K hK=>?_|refine J_skip ?_|refine J_region ?_ |refine J_c ?_|refine Jc_false ?_|(refine Kont.go (by assumption) ?_)|(simp (config:={ maxSteps:=3000000 }) (disch:=omega) only [go_sem])))
  refine J_label ?_
  (repeat (with_reducible first|refine W_seq fun K hK=>?_|refine J_block ?_|(refine Kont.go (by assumption) ?_)|(simp (config:={ maxSteps:=3000000 }) (disch:=omega) only [go_sem])))
  refine J_freezeO (j:=4) rfl (by first|rfl|(simp;done)|(simp [*];done)) rfl ?_
  simp only [go_sem]
  refine J_reserve ?_
  refine W_loop [2,3,6,7,8,9,17,18,19,20,21,22,23,24,25,26,27,28,29,30,31,32,33,34,35,36,37,38,39,40,41,42,43,44,45,46,47] (fun done:List Nat=>[(6,sl 1 1 (Ns done)),(7,.f (U (setN done)))]) (fun done:List Nat=>[none,ob 3 1 (Ns done)]) (fun done:List Nat=>OrdS P n done) (fun done:List Nat=>n-done.length) ([]) (OrdS.nil) (by refine weak_of ?_ ?_<;>simp (disch:=omega) only [go_sem,Nat.reduceAdd]<;>first|rfl|exact ⟨rfl,rfl⟩|exact Or.inl rfl|exact ⟨Or.inl rfl,Or.inl rfl⟩|trivial|assumption|omega|(symm;assumption)|((repeat' apply And.intro)<;>first|rfl|omega|trivial|exact .inl rfl|exact .inr ⟨rfl,rfl⟩|exact .inr rfl|(right;symm;assumption)|(symm;assumption)|assumption)) ?_
  rintro done hd
  have hdl:=ord_left hd.i
  have hNl:(Ns done).length=done.length:=Ns_len
  have hd8:setN done<256:=setN_lt fun v hv=>by have:=hd.i.lt v hv;omega
  simp only [go_sem]
  (repeat (with_reducible first|refine W_seq fun K hK=>?_|refine J_region ?_ |refine J_c ?_|(refine Kont.go (by assumption) ?_)|(simp (config:={ maxSteps:=3000000 }) (disch:=omega) only [go_sem,hNl,List.length_map,hl])))
  refine Jc_if (fun hlt=>?_) (fun hlt=>?_)<;>try simp only [decide_eq_true_eq,decide_eq_false_iff_not] at hlt
  ·(repeat (with_reducible first|refine W_seq fun K hK=>?_|refine J_block ?_|refine J_skip ?_|refine J_region ?_ |(refine Kont.go (by assumption) ?_)|(simp (config:={ maxSteps:=3000000 }) (disch:=omega) only [go_sem,List.length_map,hl])))
   refine W_loop [6,7,8,9,24,25,26,27,28,29,30,31,32,33,34,35,36,37,38,39,40,41,42,43,44,45,46,47] (fun x:Nat=>[(6,sl 1 1 (Ns done)),(7,.f (U (setN done))),(24,.f (I x))]) (fun x:Nat=>[none,ob 3 1 (Ns done)]) (fun x:Nat=>x≤n∧∀j,j<x→freB P n done j=false) (fun x:Nat=>n-x) (0) (⟨Nat.zero_le _,fun j h=>by omega⟩) (by refine weak_of ?_ ?_<;>simp (disch:=omega) only [go_sem,Nat.reduceAdd]<;>first|rfl|exact ⟨rfl,rfl⟩|exact Or.inl rfl|exact ⟨Or.inl rfl,Or.inl rfl⟩|trivial|assumption|omega|(symm;assumption)|((repeat' apply And.intro)<;>first|rfl|omega|trivial|exact .inl rfl|exact .inr ⟨rfl,rfl⟩|exact .inr rfl|(right;symm;assumption)|(symm;assumption)|assumption)) ?_
   rintro x ⟨hx,hp⟩
   simp only [go_sem]
   (repeat (with_reducible first|refine W_seq fun K hK=>?_|refine J_region ?_ |refine J_c ?_|(refine Kont.go (by assumption) ?_)|(simp (config:={ maxSteps:=3000000 }) (disch:=omega) only [go_sem])))
   refine Jc_if (fun hxl=>?_) (fun hxl=>?_)<;>try simp only [decide_eq_true_eq,decide_eq_false_iff_not] at hxl
   ·have hh:=has_w (v:=x) hd8 (by omega)
    rw [setN_bit] at hh
    have gx:=sets_get (P:=P) (v:=x) (by omega)
    have hfr:=fre_dif (done:=done) hg hxl
    have han:=u_an (b:=setN done) (hg.lt8 (v:=x)) hd8
    (repeat (with_reducible first|refine W_seq fun K hK=>?_|refine J_block ?_|refine J_skip ?_|refine J_region ?_ |(refine Kont.go (by assumption) ?_)|(simp (config:={ maxSteps:=3000000 }) (disch:=omega) only [go_sem,↓reduceIte,gx])))
    (first|refine call_f (hh) rfl ?_|refine callQ_f (hh) rfl ?_|refine callHK_f (hh) rfl ?_|refine callH_f (hh) rfl ?_)
    by_cases hm:x∈done
    ·have hdec:decide (x∈done)=true:=decide_eq_true hm
     rw [hdec] at hfr
     (repeat (with_reducible first|refine J_skip ?_|refine J_region ?_ |refine J_c ?_|refine Jc_false ?_|(refine Kont.go (by assumption) ?_)|(simp (config:={ maxSteps:=3000000 }) (disch:=omega) only [go_sem,hdec])))
     refine ⟨x+1,⟨by omega,upto_next (p:=fun j=>freB P n done j=false) hp (by rw [hfr];rfl)⟩,by omega,weak_of ?_ ?_⟩<;>(try simp (disch:=omega) only [go_sem,Nat.reduceAdd])<;>(try first|done|omega|rfl|exact ⟨rfl,rfl⟩|trivial)
    ·have hdec:decide (x∈done)=false:=decide_eq_false hm
     rw [hdec] at hfr
     by_cases hz:dif (P.getD x 0) (setN done)=0
     ·have hfr2:freB P n done x=true:=by rw [hfr,decide_eq_true hz];rfl
      have hnx:=nxt_some hxl hfr2 hp
      have hnd:((dif (P.getD x 0) (setN done):Nat):Int)=0:=by rw [hz];rfl
      have hap:((Ns done).length+1)*8≤140737488355328:=by omega
      have hsh:=u_shl (v:=x) (by omega)
      have hor:=u_or hd8 (bit_lt (v:=x) (by omega))
      rw [←setN_snoc] at hor
      (repeat (with_reducible first|refine W_seq fun K hK=>?_|refine J_exit ?_|refine J_region ?_ |refine aApp_sl ?_|refine J_c ?_|refine Jc_true ?_|(refine Kont.go (by assumption) ?_)|(simp (config:={ maxSteps:=3000000 }) (disch:=omega) only [go_sem,Nat.reduceEqDiff,↓reduceIte,Nat.reduceAdd,Nat.reduceLeDiff,hdec,han,hnd,hap,hsh,hor,Ns_snoc,Nat.reduceMul,Nat.le_refl,true_and,and_self])))
      refine ⟨done++[x],hd.next hg hlt hnx,by simp;omega,weak_of ?_ ?_⟩<;>(try simp (disch:=omega) only [go_sem,Nat.reduceAdd])<;>(try first|done|omega|rfl|exact ⟨rfl,rfl⟩|trivial)
     ·have hfr2:freB P n done x=false:=by rw [hfr,decide_eq_false hz];rfl
      have hnd:¬((dif (P.getD x 0) (setN done):Nat):Int)=0:=by omega
      (repeat (with_reducible first|refine J_skip ?_|refine J_region ?_ |refine J_c ?_|refine Jc_false ?_|(refine Kont.go (by assumption) ?_)|(simp (config:={ maxSteps:=3000000 }) (disch:=omega) only [go_sem,hdec,han,hnd])))
      refine ⟨x+1,⟨by omega,upto_next (p:=fun j=>freB P n done j=false) hp hfr2⟩,by omega,weak_of ?_ ?_⟩<;>(try simp (disch:=omega) only [go_sem,Nat.reduceAdd])<;>(try first|done|omega|rfl|exact ⟨rfl,rfl⟩|trivial)
   ·have he:x=n:=by omega
    subst he
    have:=hd.stop hlt (nxt_none hp)
    obtain ⟨e1,e2⟩:=ho _ this
    (repeat (with_reducible first|refine W_seq fun K hK=>?_|refine J_exit ?_|refine J_ret ?_|refine J_region ?_ |(refine Kont.go (by assumption) ?_)|(simp (config:={ maxSteps:=3000000 }) (disch:=omega) only [go_sem,↓reduceIte])))
    rw [e1,e2]
    exact ⟨_,rfl,FrzL.cons (.nil _) (FrzL.cons (.f _) (FrzL.nil _))⟩
  ·obtain ⟨e1,e2⟩:=ho _ (hd.end hlt)
   (repeat (with_reducible first|refine W_seq fun K hK=>?_|refine J_exit ?_|refine J_ret ?_|refine J_region ?_ |(refine Kont.go (by assumption) ?_)|(simp (config:={ maxSteps:=3000000 }) (disch:=omega) only [go_sem,↓reduceIte])))
   rw [e1,e2]
   exact ⟨_,rfl,FrzL.cons (.sl rfl) (FrzL.cons (.f _) (FrzL.nil _))⟩
set_option maxRecDepth 100000 in
theorem check_w2 (L:List (List Int)) (hL:OkIss L):Good Tryz.prog 50 [.fz 1 (L.map ints)] (I (ordE L)):=by
 have h:=order_w L hL
 refine good_of Tryz.func50 rfl (by kernel_rfl) fun X hO hrd=>?_;rw [Tryz.ntmps50,Tryz.results50];simp only [ast0,List.map_cons,List.map_nil,List.length_cons,List.length_nil,Nat.reduceAdd,Nat.reduceSub,List.replicate_succ,List.replicate_zero,List.cons_append,List.nil_append]
 (repeat (with_reducible first|refine W_seq fun K hK=>?_|refine J_region ?_ |(refine Kont.go (by assumption) ?_)|(simp (config:={ maxSteps:=3000000 }) (disch:=omega) only [go_sem])))
 (first|refine call_f (h) rfl ?_|refine callQ_f (h) rfl ?_|refine callHK_f (h) rfl ?_|refine callH_f (h) rfl ?_)
 (repeat (with_reducible first|refine W_seq fun K hK=>?_|refine J_ret ?_|refine J_region ?_ |exact Frz.f _|(refine Kont.go (by assumption) ?_)|(simp (config:={ maxSteps:=3000000 }) (disch:=omega) only [go_sem])))
end Go.Proofs.YthehegidpamldaaGreatDoor
