/- The abstract machine, fourteenth part: contracts over values alone, and fractions. Conditions: none. -/
import Derived.Test.YtcgagiimlkjcpaaGreatDoorZAmM
import Derived.Test.YtcgagiimlkjcpaaGreatDoorZFracOne
import Derived.Test.YtcgagiimlkjcpaaGreatDoorZAmO
set_option linter.unusedVariables false
set_option linter.unusedSimpArgs false
namespace Go.Proofs.YtcgagiimlkjcpaaGreatDoor
open Go Go.RowKit

theorem vals_repf {w:World} {F:Nat→Prop}:∀{cs:List FV} {l:List Value},vals cs=some l→cs.length=l.length∧∀(j:Nat) c,cs[j]?=some c→RepF w F c (l.toArray.getD j undef)
 | [],l,h=>by cases h;exact ⟨rfl,fun j c h=>by simp at h⟩
 | .v x::cs,l,h=>by
  unfold vals at h
  cases hv:vals cs with
  | none=>rw [hv] at h;cases h
  | some l' =>
   rw [hv] at h
   cases h
   obtain ⟨h1,h2⟩:=vals_repf (w:=w) (F:=F) hv
   refine ⟨by simp [h1],fun j c hj=>?_⟩
   cases j with
   | zero=>simp at hj;subst hj;exact .v x
   | succ j =>
    have:=h2 j c (by simpa using hj)
    have e:(x::l').toArray.getD (j+1) undef=l'.toArray.getD j undef:=by simp [Array.getD_eq_getD_getElem?]
    rw [e];exact this
 | .agg _::_,l,h=>by cases h
 | .tup _::_,l,h=>by cases h
 | .fz _ _::_,l,h=>by cases h
 | .fp _ _::_,l,h=>by cases h
 | .fn _ _ _::_,l,h=>by cases h
theorem val_repf {w:World} {F:Nat→Prop} {x:FV} {v:Value} (h:x.val=some v):RepF w F x v:=by
 cases x with
 | v x=>cases h;exact .v _
 | agg cs =>
  replace h:(vals cs).map (fun l=>Value.agg l.toArray)=some v:=h
  cases hv:vals cs with
  | none=>rw [hv] at h;cases h
  | some l =>
   rw [hv] at h
   cases h
   obtain ⟨h1,h2⟩:=vals_repf (w:=w) (F:=F) hv
   exact .agg cs _ (by simpa using h1) h2
 | _=>cases h
def FV.val2:FV→Option Value
 | .tup cs=>(cs.mapM FV.val).map fun l=>.tuple l.toArray
 | x=>x.val
theorem mapM_vals {w:World} {F:Nat→Prop}:∀{cs:List FV} {l:List Value},cs.mapM FV.val=some l→cs.length=l.length∧(∀(j:Nat) c,cs[j]?=some c→RepF w F c (l.toArray.getD j undef))∧∀ys:Array Value,cs.length=ys.size→(∀(j:Nat) c,cs[j]?=some c→RepF w F c (ys.getD j undef))→ys.toList=l
 | [],l,h=>by
  cases h
  refine ⟨rfl,fun j c h=>by simp at h,fun ys hl _=>?_⟩
  simpa using hl.symm
 | x::cs,l,h=>by
  rw [List.mapM_cons] at h
  cases hx:x.val with
  | none=>rw [hx] at h;cases h
  | some v =>
   rw [hx] at h
   cases hv:cs.mapM FV.val with
   | none=>rw [hv] at h;cases h
   | some l' =>
    rw [hv] at h
    cases h
    obtain ⟨h1,h2,h3⟩:=mapM_vals (w:=w) (F:=F) hv
    refine ⟨by simp [h1],fun j c hj=>?_,fun ys hl hr=>?_⟩
    ·cases j with
     | zero=>simp at hj;subst hj;exact val_repf hx
     | succ j =>
      have:=h2 j c (by simpa using hj)
      have e:(v::l').toArray.getD (j+1) undef=l'.toArray.getD j undef:=by simp [Array.getD_eq_getD_getElem?]
      rw [e];exact this
    ·obtain ⟨ys⟩:=ys
     cases ys with
     | nil=>simp at hl
     | cons y ys =>
      have h0:=hr 0 x rfl
      have e0:(y::ys).toArray.getD 0 undef=y:=rfl
      rw [e0] at h0
      have:=val_rep hx h0
      subst this
      have:=h3 ys.toArray (by simpa using hl) (fun j c hj=>by
       have:=hr (j+1) c (by simpa using hj)
       have e:(y::ys).toArray.getD (j+1) undef=ys.toArray.getD j undef:=by simp [Array.getD_eq_getD_getElem?]
       rwa [e] at this)
      show y::ys=y::l'
      rw [←this]
theorem val2_repf {w:World} {F:Nat→Prop} {x:FV} {v:Value} (h:x.val2=some v):RepF w F x v:=by
 by_cases ht:∃cs,x=.tup cs
 ·obtain ⟨cs,rfl⟩:=ht
  replace h:(cs.mapM FV.val).map (fun l=>Value.tuple l.toArray)=some v:=h
  cases hv:cs.mapM FV.val with
  | none=>rw [hv] at h;cases h
  | some l =>
   rw [hv] at h
   cases h
   obtain ⟨h1,h2,_⟩:=mapM_vals (w:=w) (F:=F) hv
   exact .tup cs _ (by simpa using h1) h2
 ·have:x.val=some v:=by cases x<;>first|exact h|exact absurd ⟨_,rfl⟩ ht
  exact val_repf this
theorem good_calls {P:Program} {f:FuncId} {xs:List FV} {r:FV} {args:List Value} {v:Value} (hok:enterOk P f=true) (hx:xs.mapM FV.val=some args) (hr:r.val2=some v)
  (h:∀w,Calls P f args.toArray w fun e w'=>e=.returned v∧Below w.heap.size w w'):Good P f xs r:=by
 refine ⟨hok,fun w G ys _ hG hrep=>?_⟩
 obtain ⟨_,_,h3⟩:=mapM_vals (w:=w) (F:=G) hx
 have:=h3 ys hrep.1 hrep.2
 have e:ys=args.toArray:=by rw [←this]
 rw [e]
 exact (h w).mono fun e w' ⟨he,hb⟩=>⟨v,he,⟨hb.os,hb.tape,hb.output,hb.size,fun k hk _=>hb.block k hk⟩,val2_repf hr⟩
def fr (q:Rat):FV:=.agg [.v (.bool (cg q)),.v (.string (cn q)),.v (.string (cd q))]
abbrev frs (l:List Rat):FV:=.fz 3 (l.map fr)
abbrev rowsF (m:List (List Rat)):FV:=.fz 1 (m.map frs)
abbrev I (n:Int):FV:=.v (.int .i64 n)
abbrev ints (l:List Int):FV:=.fz 1 (l.map I)
theorem of_good {n:Int} (h0:-9223372036854775808≤n) (h1:n≤9223372036854775807):Good Tryz.prog 95 [I n] (fr (n:Rat)) :=
 good_calls (by kernel_rfl) rfl rfl fun w=>fof_g h0 h1 w
theorem flatF_fr (q:Rat):FlatF (fr q):=.agg _ fun j c h=>by
 match j,h with
 | 0,h=>cases h;exact .v _
 | 1,h=>cases h;exact .v _
 | 2,h=>cases h;exact .v _
theorem fr_cells (q:Rat):(fr q).cells=[.v (.bool (cg q)),.v (.string (cn q)),.v (.string (cd q))]:=(rfl)
theorem fr_st (q:Rat):(fr q).st=true:=(rfl)
theorem fr_isA (q:Rat):(fr q).isA=true:=(rfl)
theorem lget_lt {α:Type} (l:List α) (d:α) {i:Nat} (h:i<l.length):l.getD i d=l[i]:=by rw [List.getD_eq_getElem?_getD,List.getElem?_eq_getElem h];rfl
attribute [go_sem] fr_cells fr_st fr_isA
end Go.Proofs.YtcgagiimlkjcpaaGreatDoor
set_option linter.unusedVariables false
set_option linter.unusedSimpArgs false
namespace Go.Proofs.YtcgagiimlkjcpaaGreatDoor
open Go Go.RowKit
def fillL {α:Type} (n k:Nat) (f:Nat→α) (z:α):List α:=(List.range n).map fun j=>if j<k then f j else z
section
variable {α : Type} {n k : Nat} {f : Nat → α} {z : α}
theorem fill_len:(fillL n k f z).length=n:=by simp [fillL]
theorem fill_zero:fillL n 0 f z=List.replicate n z:=by
 apply List.ext_getElem?
 intro i
 by_cases h:i<n<;>simp [fillL,h]
theorem fill_get {i:Nat} (h:i<n):(fillL n k f z)[i]?=some (if i<k then f i else z):=by simp [fillL,h]
theorem fill_set (h:k<n):(fillL n k f z).set k (f k)=fillL n (k+1) f z:=by
 apply List.ext_getElem?
 intro i
 by_cases hi:i<n
 ·by_cases e:i=k
  ·subst e;rw [List.getElem?_set_self (by rw [fill_len];exact hi),fill_get hi,if_pos (by omega)]
  ·rw [List.getElem?_set_ne (Ne.symm e),fill_get hi,fill_get hi]
   by_cases hk:i<k
   ·rw [if_pos hk,if_pos (by omega)]
   ·rw [if_neg hk,if_neg (by omega)]
 ·rw [List.getElem?_eq_none (by rw [List.length_set,fill_len];omega),List.getElem?_eq_none (by rw [fill_len];omega)]
theorem fill_all:fillL n n f z=(List.range n).map f:=by
 unfold fillL
 refine List.map_congr_left fun i hi=>?_
 rw [if_pos (List.mem_range.1 hi)]
theorem range_set {g:Nat→α} {i:Nat} {x:α} (hi:i<n):((List.range n).map g).set i x=(List.range n).map fun k=>if k=i then x else g k:=by
 apply List.ext_getElem?
 intro j
 by_cases hj:j<n
 ·by_cases e:j=i
  ·subst e;rw [List.getElem?_set_self (by simpa using hj)];simp [hj]
  ·rw [List.getElem?_set_ne (Ne.symm e)];simp [hj,e]
 ·rw [List.getElem?_eq_none (by simp;omega),List.getElem?_eq_none (by simp;omega)]
end
theorem fillA_get {n k:Nat} {f:Nat→FV} {z:FV} {j:Nat} (h:j<n):((fillL n k f z).map AV.f)[j]?=some (.f (if j<k then f j else z)):=by rw [List.getElem?_map,fill_get h];rfl
theorem fillA_set {n k:Nat} {f:Nat→FV} {z x:FV} (h:k<n) (hx:f k=x):((fillL n k f z).map AV.f).set k (.f x)=(fillL n (k+1) f z).map AV.f:=by rw [←hx,←fill_set h,List.map_set]
def at2 (q:List (List Rat)) (i k:Nat):Rat:=(q.getD i []).getD k 0
end Go.Proofs.YtcgagiimlkjcpaaGreatDoor
set_option linter.unusedVariables false
set_option linter.unusedSimpArgs false
namespace Go.Proofs.YtcgagiimlkjcpaaGreatDoor
open Go Go.RowKit
def sumF (f:Nat→Rat):Nat→Rat
 | 0=>0
 | n+1=>sumF f n+f n
def grt (a b:Rat):Rat:=if a<b then b else a
def maxF (f:Nat→Rat):Nat→Rat
 | 0=>0
 | n+1=>grt (maxF f n) (f n)
section
variable {f g : Nat → Rat} {n m : Nat}
theorem sumF_congr (h:∀k,k<n→f k=g k):sumF f n=sumF g n:=by
 induction n with
 | zero=>rfl
 | succ n ih=>show sumF f n+f n=sumF g n+g n;rw [ih fun k hk=>h k (by omega),h n (by omega)]
theorem sumF_zero:sumF (fun _=>0) n=0:=by
 induction n with
 | zero=>rfl
 | succ n ih=>show sumF _ n+0=0;rw [ih,Rat.add_zero]
theorem sumF_add:sumF (fun k=>f k+g k) n=sumF f n+sumF g n:=by
 induction n with
 | zero=>exact (Rat.add_zero 0).symm
 | succ n ih=>show sumF _ n+(f n+g n)=(sumF f n+f n)+(sumF g n+g n);rw [ih];grind
theorem sumF_mul (c:Rat):c*sumF f n=sumF (fun k=>c*f k) n:=by
 induction n with
 | zero=>exact Rat.mul_zero c
 | succ n ih=>show c*(sumF f n+f n)=sumF _ n+c*f n;rw [Rat.mul_add,ih]
theorem sumF_mulr (c:Rat):sumF f n*c=sumF (fun k=>f k*c) n:=by rw [Rat.mul_comm,sumF_mul];exact sumF_congr fun k _=>Rat.mul_comm _ _
theorem sumF_swap {h:Nat→Nat→Rat}:sumF (fun i=>sumF (fun k=>h i k) m) n=sumF (fun k=>sumF (fun i=>h i k) n) m:=by
 induction n with
 | zero=>exact sumF_zero.symm
 | succ n ih=>show sumF _ n+sumF _ m=_;rw [ih,←sumF_add];rfl
theorem sumF_nonneg (h:∀k,k<n→0≤f k):0≤sumF f n:=by
 induction n with
 | zero=>exact Rat.le_refl
 | succ n ih=>exact Rat.add_nonneg (ih fun k hk=>h k (by omega)) (h n (by omega))
theorem sumF_le (h:∀k,k<n→f k≤g k):sumF f n≤sumF g n:=by
 induction n with
 | zero=>exact Rat.le_refl
 | succ n ih =>
  have h1:=ih fun k hk=>h k (by omega)
  have h2:=h n (by omega)
  show sumF f n+f n≤sumF g n+g n
  grind
theorem sumF_eq_zero (h:∀k,k<n→f k=0):sumF f n=0:=by rw [sumF_congr h];exact sumF_zero
end
structure HM where
  n : Nat
  a : Nat → Rat
  mv : Nat → Nat → Rat
  sh : Nat → Nat → Rat
  s : Nat → Nat
  T : Nat
structure HM.Ok (h : HM) : Prop where
  a : ∀ i, 0 ≤ h.a i
  mv : ∀ i k, 0 ≤ h.mv i k
  sh : ∀ i k, 0 ≤ h.sh i k
def HM.fw (h:HM):Nat→Nat→Rat
 | 0,i=>h.a i*h.sh i (h.s 0)
 | t+1,i=>sumF (fun k=>HM.fw h t k*h.mv k i) h.n*h.sh i (h.s (t+1))
def HM.bwU (h:HM):Nat→Nat→Rat
 | 0,i=>1
 | u+1,i=>sumF (fun k=>h.mv i k*h.sh k (h.s (h.T-1-u))*HM.bwU h u k) h.n
def HM.mxU (h:HM):Nat→Nat→Rat
 | 0,i=>1
 | u+1,i=>maxF (fun k=>h.mv i k*h.sh k (h.s (h.T-1-u))*HM.mxU h u k) h.n
def HM.bw (h:HM) (t i:Nat):Rat:=h.bwU (h.T-1-t) i
def HM.mx (h:HM) (t i:Nat):Rat:=h.mxU (h.T-1-t) i
section
variable {h : HM} {t i : Nat}
theorem HM.bw_next (ht:t+1<h.T):h.bw t i=sumF (fun k=>h.mv i k*h.sh k (h.s (t+1))*h.bw (t+1) k) h.n:=by
 unfold HM.bw
 rw [show h.T-1-t=(h.T-1-(t+1))+1 by omega]
 show sumF _ _=_
 rw [show h.T-1-(h.T-1-(t+1))=t+1 by omega]
theorem HM.step (ht:t+1<h.T):sumF (fun i=>h.fw t i*h.bw t i) h.n=sumF (fun i=>h.fw (t+1) i*h.bw (t+1) i) h.n:=by
 have e1:sumF (fun i=>h.fw t i*h.bw t i) h.n=sumF (fun i=>sumF (fun k=>h.fw t i*h.mv i k*h.sh k (h.s (t+1))*h.bw (t+1) k) h.n) h.n :=
  sumF_congr fun i _=>by rw [HM.bw_next ht,sumF_mul];exact sumF_congr fun k _=>by simp only [Rat.mul_assoc]
 rw [e1,sumF_swap]
 refine sumF_congr fun k _=>?_
 show _=sumF (fun i=>h.fw t i*h.mv i k) h.n*h.sh k (h.s (t+1))*h.bw (t+1) k
 rw [sumF_mulr,sumF_mulr]
end
end Go.Proofs.YtcgagiimlkjcpaaGreatDoor
set_option linter.unusedVariables false
set_option linter.unusedSimpArgs false
namespace Go.Proofs.YtcgagiimlkjcpaaGreatDoor
open Go Go.RowKit
abbrev Mx:=Nat→Nat→Rat
def piv (M:Mx) (c n:Nat):Option Nat:=(List.range (n-c)).find? fun p=>decide (M (c+p) c≠0)
def swapM (M:Mx) (c r:Nat):Mx:=fun i k=>if i=c then M r k else if i=r then M c k else M i k
def divM (M:Mx) (c:Nat):Mx:=fun i k=>if i=c then M c k/M c c else M i k
def elimM (M:Mx) (c:Nat):Mx:=fun i k=>if i=c then M c k else M i k-M i c*M c k
def stepM (M:Mx) (c r:Nat):Mx:=elimM (divM (swapM M c r) c) c
def gs (n:Nat) (M:Mx):Nat→Option Mx
 | 0=>some M
 | c+1=>match gs n M c with
  | none=>none
  | some M'=>match piv M' c n with
   | none=>none
   | some p=>some (stepM M' c (c+p))
def Ann (n:Nat) (M:Mx) (y:Nat→Rat):Prop:=∀i,i<n→sumF (fun k=>M i k*y k) (n+1)=0
def Sol (n:Nat) (M:Mx) (x:Nat→Rat):Prop:=∀i,i<n→sumF (fun k=>M i k*x k) n=M i n
def Hom (n:Nat) (M:Mx) (x:Nat→Rat):Prop:=∀i,i<n→sumF (fun k=>M i k*x k) n=0
section
variable {n c r : Nat} {M : Mx} {y x : Nat → Rat}
theorem sumF_sub {f g:Nat→Rat} {n:Nat}:sumF (fun k=>f k-g k) n=sumF f n-sumF g n:=by
 induction n with
 | zero=>show (0:Rat)=0-0;grind
 | succ n ih=>show sumF _ n+(f n-g n)=(sumF f n+f n)-(sumF g n+g n);rw [ih];grind
theorem ann_swap (hc:c<n) (hr:r<n) (h:Ann n M y):Ann n (swapM M c r) y:=fun i hi=>by
 by_cases e:i=c
 ·have:=h r hr
  rw [←this]
  exact sumF_congr fun k _=>by simp [swapM,e]
 ·by_cases e2:i=r
  ·have:=h c hc
   rw [←this]
   refine sumF_congr fun k _=>?_
   show swapM M c r i k*_=_
   unfold swapM
   rw [if_neg e,if_pos e2]
  ·have:=h i hi
   rw [←this]
   exact sumF_congr fun k _=>by simp [swapM,e,e2]
theorem swap_swap:swapM (swapM M c r) c r=M:=by
 funext i k
 unfold swapM
 by_cases e:i=c
 ·subst e
  by_cases e2:r=i
  ·subst e2;simp
  ·simp [e2]
 ·by_cases e2:i=r
  ·subst e2;simp [e]
  ·simp [e,e2]
theorem ann_swap_iff (hc:c<n) (hr:r<n):Ann n (swapM M c r) y↔Ann n M y:=⟨fun h=>by
 have:=ann_swap hc hr h
 rwa [swap_swap] at this,ann_swap hc hr⟩
theorem ann_div_iff (hc:c<n) (h0:M c c≠0):Ann n (divM M c) y↔Ann n M y:=by
 have e:∀i,sumF (fun k=>divM M c i k*y k) (n+1)=if i=c then sumF (fun k=>M c k*y k) (n+1)*(M c c)⁻¹ else sumF (fun k=>M i k*y k) (n+1):=fun i=>by
  by_cases e:i=c
  ·rw [if_pos e,sumF_mulr]
   refine sumF_congr fun k _=>?_
   unfold divM
   rw [if_pos e,Rat.div_def]
   show M c k*(M c c)⁻¹*y k=M c k*y k*(M c c)⁻¹
   grind
  ·rw [if_neg e];exact sumF_congr fun k _=>by unfold divM;rw [if_neg e]
 constructor
 ·intro h i hi
  have:=h i hi
  rw [e i] at this
  by_cases ei:i=c
  ·rw [if_pos ei] at this
   rw [ei]
   rcases Rat.mul_eq_zero.1 this with h|h
   ·exact h
   ·exact absurd (by have:=Rat.mul_inv_cancel _ h0;rw [h,Rat.mul_zero] at this;exact this) (show ¬(0:Rat)=1 by decide)
  ·rwa [if_neg ei] at this
 ·intro h i hi
  rw [e i]
  split
  ·rw [h c hc,Rat.zero_mul]
  ·exact h i hi
theorem ann_elim_iff (hc:c<n):Ann n (elimM M c) y↔Ann n M y:=by
 have e:∀i,i≠c→sumF (fun k=>elimM M c i k*y k) (n+1)=sumF (fun k=>M i k*y k) (n+1)-M i c*sumF (fun k=>M c k*y k) (n+1):=fun i e=>by
  rw [sumF_mul,←sumF_sub]
  refine sumF_congr fun k _=>?_
  unfold elimM
  rw [if_neg e]
  grind
 have e2:sumF (fun k=>elimM M c c k*y k) (n+1)=sumF (fun k=>M c k*y k) (n+1):=sumF_congr fun k _=>by unfold elimM;rw [if_pos rfl]
 constructor
 ·intro h i hi
  have hcc:=h c hc
  rw [e2] at hcc
  by_cases ei:i=c
  ·rw [ei];exact hcc
  ·have:=h i hi
   rw [e i ei,hcc,Rat.mul_zero] at this
   grind
 ·intro h i hi
  by_cases ei:i=c
  ·rw [ei,e2];exact h c hc
  ·rw [e i ei,h i hi,h c hc,Rat.mul_zero];grind
theorem piv_some {p:Nat} (h:piv M c n=some p):c+p<n∧M (c+p) c≠0:=by
 unfold piv at h
 have h1:=List.find?_some h
 have h2:=List.mem_range.1 (List.mem_of_find?_eq_some h)
 exact ⟨by omega,by simpa using h1⟩
theorem piv_none (h:piv M c n=none):∀i,c≤i→i<n→M i c=0:=fun i hi hn=>by
 unfold piv at h
 have:=List.find?_eq_none.1 h (i-c) (by simp;omega)
 rw [show c+(i-c)=i by omega] at this
 simpa using this
theorem ann_step {p:Nat} (h:piv M c n=some p) (hc:c<n):Ann n (stepM M c (c+p)) y↔Ann n M y:=by
 obtain ⟨h1,h2⟩:=piv_some h
 unfold stepM
 rw [ann_elim_iff hc,ann_div_iff hc (by unfold swapM;rw [if_pos rfl];exact h2),ann_swap_iff hc h1]
theorem ann_gs:∀{c:Nat} {M':Mx},c≤n→gs n M c=some M'→(Ann n M' y↔Ann n M y):=by
 intro c
 induction c with
 | zero=>intro M' _ h;cases h;exact Iff.rfl
 | succ c ih =>
  intro M' hc h
  unfold gs at h
  split at h
  ·cases h
  ·rename_i M1 h1
   split at h
   ·cases h
   ·rename_i p hp
    cases h
    rw [ann_step hp (by omega)]
    exact ih (by omega) h1
def Unit_ (n:Nat) (M:Mx) (c:Nat):Prop:=∀i j,i<n→j<c→M i j=if i=j then 1 else 0
theorem unit_step {p:Nat} (hp:piv M c n=some p) (hc:c<n) (hu:Unit_ n M c):Unit_ n (stepM M c (c+p)) (c+1):=by
 obtain ⟨h1,h2⟩:=piv_some hp
 have sc:swapM M c (c+p) c c=M (c+p) c:=by unfold swapM;rw [if_pos rfl]
 have dc:∀k,divM (swapM M c (c+p)) c c k=M (c+p) k/M (c+p) c:=fun k=>by unfold divM;rw [if_pos rfl,sc];unfold swapM;rw [if_pos rfl]
 have di:∀i k,i≠c→divM (swapM M c (c+p)) c i k=swapM M c (c+p) i k:=fun i k e=>by unfold divM;rw [if_neg e]
 intro i j hi hj
 unfold stepM elimM
 by_cases ei:i=c
 ·rw [if_pos ei,dc]
  by_cases ej:j=c
  ·subst ej
   rw [if_pos ei,Rat.div_def,Rat.mul_inv_cancel _ h2]
  ·rw [if_neg (by omega),hu (c+p) j h1 (by omega),if_neg (by omega),Rat.div_def,Rat.zero_mul]
 ·rw [if_neg ei,di _ _ ei,di _ _ ei,dc]
  by_cases ej:j=c
  ·subst ej
   rw [Rat.div_def,Rat.mul_inv_cancel _ h2,Rat.mul_one,if_neg ei]
   grind
  ·have hcp:=hu (c+p) j h1 (by omega)
   rw [if_neg (by omega)] at hcp
   rw [hcp,Rat.div_def,Rat.zero_mul,Rat.mul_zero]
   have:swapM M c (c+p) i j=if i=j then 1 else 0:=by
    unfold swapM
    rw [if_neg ei]
    split
    ·rename_i e
     rw [hu c j hc (by omega),if_neg (by omega),if_neg (by omega)]
    ·exact hu i j hi (by omega)
   rw [this]
   split<;>grind
theorem unit_gs:∀{c:Nat} {M':Mx},c≤n→gs n M c=some M'→Unit_ n M' c:=by
 intro c
 induction c with
 | zero=>intro M' _ _ i j _ hj;omega
 | succ c ih =>
  intro M' hc h
  unfold gs at h
  split at h
  ·cases h
  ·rename_i M1 h1
   split at h
   ·cases h
   ·rename_i p hp
    cases h
    exact unit_step hp (by omega) (ih (by omega) h1)
theorem sumF_single {f:Nat→Rat} {i:Nat} (h:∀k,k<n→k≠i→f k=0) (hi:i<n):sumF f n=f i:=by
 induction n with
 | zero=>omega
 | succ n ih =>
  show sumF f n+f n=f i
  by_cases e:i=n
  ·subst e
   rw [sumF_eq_zero fun k hk=>h k (by omega) (by omega)]
   grind
  ·rw [ih (fun k hk hne=>h k (by omega) hne) (by omega),h n (by omega) (fun e'=>e e'.symm)]
   grind
theorem ann_sol:Ann n M (fun k=>if k=n then -1 else x k)↔Sol n M x:=by
 have e:∀i,sumF (fun k=>M i k*(if k=n then (-1:Rat) else x k)) (n+1)=sumF (fun k=>M i k*x k) n-M i n:=fun i=>by
  show sumF _ n+M i n*(if n=n then (-1:Rat) else x n)=_
  rw [if_pos rfl,sumF_congr (g:=fun k=>M i k*x k) fun k hk=>by rw [if_neg (by omega)]]
  grind
 constructor
 ·intro h i hi;have:=h i hi;rw [e i] at this;grind
 ·intro h i hi;rw [e i,h i hi];grind
theorem ann_hom:Ann n M (fun k=>if k=n then 0 else x k)↔Hom n M x:=by
 have e:∀i,sumF (fun k=>M i k*(if k=n then (0:Rat) else x k)) (n+1)=sumF (fun k=>M i k*x k) n:=fun i=>by
  show sumF _ n+M i n*(if n=n then (0:Rat) else x n)=_
  rw [if_pos rfl,sumF_congr (g:=fun k=>M i k*x k) fun k hk=>by rw [if_neg (by omega)]]
  grind
 constructor
 ·intro h i hi;have:=h i hi;rwa [e i] at this
 ·intro h i hi;rw [e i,h i hi]
theorem unit_sol (hu:Unit_ n M n):Sol n M x↔∀i,i<n→x i=M i n:=by
 have e:∀i,i<n→sumF (fun k=>M i k*x k) n=x i:=fun i hi=>by
  rw [sumF_single (i:=i) (fun k hk hne=>by rw [hu i k hi hk,if_neg (Ne.symm hne),Rat.zero_mul]) hi,hu i i hi hi,if_pos rfl,Rat.one_mul]
 exact ⟨fun h i hi=>by rw [←e i hi];exact h i hi,fun h i hi=>by rw [e i hi];exact h i hi⟩
theorem gs_sol {M':Mx} (h:gs n M n=some M'):Sol n M x↔∀i,i<n→x i=M' i n:=by
 rw [←ann_sol,←ann_gs (Nat.le_refl _) h,ann_sol]
 exact unit_sol (unit_gs (Nat.le_refl _) h)
theorem gs_none:∀{c:Nat},c≤n→gs n M c=none→∃y,Hom n M y∧∃k,k<n∧y k≠0:=by
 intro c
 induction c with
 | zero=>intro _ h;cases h
 | succ c ih =>
  intro hc h
  unfold gs at h
  split at h
  ·rename_i h1;exact ih (by omega) h1
  ·rename_i M1 h1
   split at h
   ·rename_i hp
    have hu:=unit_gs (c:=c) (by omega) h1
    have hz:=piv_none hp
    let y:Nat→Rat:=fun k=>if k=c then 1 else if k<c then-M1 k c else 0
    refine ⟨y,?_,c,by omega,by show (if c=c then (1:Rat) else _)≠0;rw [if_pos rfl];decide⟩
    rw [←ann_hom,←ann_gs (c:=c) (by omega) h1,ann_hom]
    intro i hi
    by_cases hic:i<c
    ·have e:∀m,m≤n→sumF (fun k=>M1 i k*y k) m=(if i<m then y i else 0)+(if c<m then M1 i c else 0):=by
      intro m
      induction m with
      | zero=>intro _;show (0:Rat)=_;rw [if_neg (by omega),if_neg (by omega)];grind
      | succ m ihm =>
       intro hm
       show sumF _ m+M1 i m*y m=_
       rw [ihm (by omega)]
       by_cases e1:m<c
       ·rw [hu i m hi e1]
        by_cases e2:i=m
        ·subst e2
         rw [if_pos rfl,if_neg (by omega),if_neg (by omega),if_pos (by omega),if_neg (by omega)]
         grind
        ·rw [if_neg e2]
         have a1:(i<m+1)=(i<m):=propext ⟨fun h=>by omega,fun h=>by omega⟩
         have a2:(c<m+1)=(c<m):=propext ⟨fun h=>by omega,fun h=>by omega⟩
         simp only [a1,a2]
         grind
       ·by_cases e2:m=c
        ·subst e2
         have hy:y m=1:=by show (if m=m then (1:Rat) else _)=1;rw [if_pos rfl]
         rw [hy,if_pos hic,if_neg (by omega),if_pos (by omega),if_pos (by omega)]
         grind
        ·have hy:y m=0:=by show (if m=c then (1:Rat) else if m<c then _ else 0)=0;rw [if_neg e2,if_neg e1]
         have a1:(i<m+1)=(i<m):=propext ⟨fun h=>by omega,fun h=>by omega⟩
         have a2:(c<m+1)=(c<m):=propext ⟨fun h=>by omega,fun h=>by omega⟩
         simp only [a1,a2]
         rw [hy];grind
     rw [e n (Nat.le_refl _),if_pos hi,if_pos (by omega)]
     have hy:y i=- M1 i c:=by show (if i=c then (1:Rat) else if i<c then _ else 0)=_;rw [if_neg (by omega),if_pos hic]
     rw [hy];grind
    ·refine sumF_eq_zero fun k hk=>?_
     by_cases e1:k<c
     ·rw [hu i k hi e1,if_neg (by omega),Rat.zero_mul]
     ·by_cases e2:k=c
      ·subst e2;rw [hz i (by omega) hi,Rat.zero_mul]
      ·have hy:y k=0:=by show (if k=c then (1:Rat) else if k<c then _ else 0)=0;rw [if_neg e2,if_neg e1]
       rw [hy,Rat.mul_zero]
   ·cases h
theorem gs_some (h:∀y,Hom n M y→∀k,k<n→y k=0):∃M',gs n M n=some M':=by
 cases hg:gs n M n with
 | some M'=>exact ⟨M',rfl⟩
 | none =>
  obtain ⟨y,h1,k,hk,h2⟩:=gs_none (Nat.le_refl _) hg
  exact absurd (h y h1 k hk) h2
end
end Go.Proofs.YtcgagiimlkjcpaaGreatDoor
set_option linter.unusedVariables false
set_option linter.unusedSimpArgs false
namespace Go.Proofs.YtcgagiimlkjcpaaGreatDoor
open Go Go.RowKit
abbrev Bx:=Nat→Nat→Bool
def wsh (E:Bx):Nat→Bx
 | 0=>fun i j=>decide (i=j)||E i j
 | k+1=>fun i j=>wsh E k i j||(wsh E k i k&&wsh E k k j)
inductive Star (n : Nat) (E : Bx) (i : Nat) : Nat → Prop
  | refl : Star n E i i
  | step {j k : Nat} (h : Star n E i j) (hk : k < n) (he : E j k = true) : Star n E i k
section
variable {n K i j k : Nat} {E : Bx}
theorem Star.trans (h1:Star n E i j) (h2:Star n E j k):Star n E i k:=by
 induction h2 with
 | refl=>exact h1
 | step _ hk he ih=>exact .step ih hk he
theorem wsh_mono (h:wsh E K i j=true):∀m,wsh E (K+m) i j=true:=by
 intro m
 induction m with
 | zero=>exact h
 | succ m ih=>show (wsh E (K+m) i j||_)=true;rw [ih];rfl
theorem wsh_up (h:wsh E K i j=true) {m:Nat} (hm:K≤m):wsh E m i j=true:=by
 have:=wsh_mono h (m-K)
 rwa [show K+(m-K)=m by omega] at this
theorem wsh_refl (K i:Nat):wsh E K i i=true:=wsh_up (K:=0) (by show (decide (i=i)||_)=true;simp) (Nat.zero_le _)
theorem wsh_edge (h:E i j=true) (K:Nat):wsh E K i j=true:=wsh_up (K:=0) (by show (_||E i j)=true;rw [h];simp) (Nat.zero_le _)
theorem wsh_sound:∀{K:Nat},K≤n→∀{i j:Nat},j<n→wsh E K i j=true→Star n E i j:=by
 intro K
 induction K with
 | zero =>
  intro _ i j hj h
  replace h:(decide (i=j)||E i j)=true:=h
  rcases Bool.or_eq_true_iff.1 h with h|h
  ·have:=of_decide_eq_true h;subst this;exact .refl
  ·exact .step .refl hj h
 | succ K ih =>
  intro hK i j hj h
  replace h:(wsh E K i j||(wsh E K i K&&wsh E K K j))=true:=h
  rcases Bool.or_eq_true_iff.1 h with h|h
  ·exact ih (by omega) hj h
  ·obtain ⟨h1,h2⟩:=Bool.and_eq_true_iff.1 h
   exact (ih (by omega) (by omega) h1).trans (ih (by omega) hj h2)
theorem wsh_in:wsh E (K+1) i K=wsh E K i K:=by
 show (wsh E K i K||(wsh E K i K&&wsh E K K K))=_
 cases wsh E K i K<;>simp
theorem wsh_out:wsh E (K+1) K j=wsh E K K j:=by
 show (wsh E K K j||(wsh E K K K&&wsh E K K j))=_
 cases wsh E K K j<;>simp
theorem wsh_trans:∀{K:Nat} {k i j:Nat},k<K→wsh E K i k=true→wsh E K k j=true→wsh E K i j=true:=by
 intro K
 induction K with
 | zero=>intro k i j h;omega
 | succ K ih =>
  intro k i j hk h1 h2
  have via:wsh E K i K=true→wsh E K K j=true→wsh E (K+1) i j=true:=fun a b=>by
   show (wsh E K i j||(wsh E K i K&&wsh E K K j))=true
   rw [a,b];simp
  by_cases e:k=K
  ·subst e
   rw [wsh_in] at h1
   rw [wsh_out] at h2
   exact via h1 h2
  ·have hkK:k<K:=by omega
   replace h1:(wsh E K i k||(wsh E K i K&&wsh E K K k))=true:=h1
   replace h2:(wsh E K k j||(wsh E K k K&&wsh E K K j))=true:=h2
   rcases Bool.or_eq_true_iff.1 h1 with a|a<;>rcases Bool.or_eq_true_iff.1 h2 with b|b
   ·exact wsh_up (ih hkK a b) (by omega)
   ·obtain ⟨b1,b2⟩:=Bool.and_eq_true_iff.1 b
    exact via (ih hkK a b1) b2
   ·obtain ⟨a1,a2⟩:=Bool.and_eq_true_iff.1 a
    exact via a1 (ih hkK a2 b)
   ·obtain ⟨a1,a2⟩:=Bool.and_eq_true_iff.1 a
    obtain ⟨b1,b2⟩:=Bool.and_eq_true_iff.1 b
    exact via a1 b2
theorem Star.lt (h:Star n E i j) (hi:i<n):j<n:=by cases h with|refl=>exact hi|step _ hk _=>exact hk
theorem wsh_all (h:Star n E i j) (hi:i<n):wsh E n i j=true:=by
 induction h with
 | refl=>exact wsh_refl n i
 | step h hk he ih=>exact wsh_trans (h.lt hi) ih (wsh_edge he n)
theorem wsh_iff (hi:i<n) (hj:j<n):wsh E n i j=true↔Star n E i j:=⟨wsh_sound (Nat.le_refl _) hj,fun h=>wsh_all h hi⟩
def cls (n:Nat) (R:Bx) (i:Nat):List Nat:=(List.range n).filter fun k=>R i k&&R k i
def clo (n:Nat) (R:Bx) (i:Nat):Bool:=!((List.range n).any fun k=>R i k&&!R k i)
def isRep (n:Nat) (R:Bx) (i:Nat):Bool:=(cls n R i).head?==some i
structure Pre (n : Nat) (R : Bx) : Prop where
  refl : ∀ i, R i i = true
  trans : ∀ i j k, j < n → R i j = true → R j k = true → R i k = true
theorem wsh_pre:Pre n (wsh E n):=⟨fun i=>wsh_refl n i,fun i j k hj h1 h2=>wsh_trans hj h1 h2⟩
variable {R : Bx}
theorem cls_mem:k∈cls n R i↔k<n∧R i k=true∧R k i=true:=by simp [cls]
theorem cls_self (p:Pre n R) (hi:i<n):i∈cls n R i:=cls_mem.2 ⟨hi,p.refl i,p.refl i⟩
theorem clo_iff:clo n R i=true↔∀k,k<n→R i k=true→R k i=true:=by
 simp [clo]
theorem cls_eq (p:Pre n R) (hi:i<n) (hk:k∈cls n R i):cls n R k=cls n R i:=by
 obtain ⟨h1,h2,h3⟩:=cls_mem.1 hk
 unfold cls
 refine List.filter_congr fun j hj=>?_
 have hjn:=List.mem_range.1 hj
 rw [Bool.eq_iff_iff,Bool.and_eq_true,Bool.and_eq_true]
 exact ⟨fun ⟨a,b⟩=>⟨p.trans i k j h1 h2 a,p.trans j k i h1 b h3⟩,fun ⟨a,b⟩=>⟨p.trans k i j hi h3 a,p.trans j i k hi b h2⟩⟩
theorem clo_class (p:Pre n R) (hi:i<n) (hk:k∈cls n R i) (hc:clo n R i=true):clo n R k=true:=by
 obtain ⟨h1,h2,h3⟩:=cls_mem.1 hk
 refine clo_iff.2 fun j hj h=>?_
 have a:=clo_iff.1 hc j hj (p.trans i k j h1 h2 h)
 exact p.trans j i k hi a h2
theorem clo_ex (p:Pre n R) (hn:0<n):∃i,i<n∧clo n R i=true:=by
 have key:∀m i,i<n→((List.range n).filter (R i)).length≤m→∃i,i<n∧clo n R i=true:=by
  intro m
  induction m with
  | zero =>
   intro i hi hm
   have:i∈(List.range n).filter (R i):=by simp [hi,p.refl i]
   have:=List.length_pos_of_mem this
   omega
  | succ m ih =>
   intro i hi hm
   by_cases hc:clo n R i=true
   ·exact ⟨i,hi,hc⟩
   ·have:¬∀k,k<n→R i k=true→R k i=true:=fun h=>hc (clo_iff.2 h)
    obtain ⟨k,hk⟩:=Classical.not_forall.1 this
    obtain ⟨hkn,hk⟩:=Classical.not_imp.1 hk
    obtain ⟨h1,h2⟩:=Classical.not_imp.1 hk
    refine ih k hkn ?_
    have hsub:((List.range n).filter (R k)).length<((List.range n).filter (R i)).length:=by
     have e:(List.range n).filter (R k)=((List.range n).filter (R i)).filter (R k):=by
      rw [List.filter_filter]
      refine List.filter_congr fun j hj=>?_
      have hjn:=List.mem_range.1 hj
      cases hj2:R k j with
      | false=>simp
      | true=>simp [p.trans i k j hkn h1 hj2]
     rw [e]
     refine List.length_filter_lt_length_iff_exists.2 ⟨i,by simp [hi,p.refl i],h2⟩
    omega
 exact key _ 0 hn (Nat.le_refl _)
theorem rep_ex (p:Pre n R) (hi:i<n):∃r,r<n∧isRep n R r=true∧r∈cls n R i:=by
 have hne:cls n R i≠[]:=List.ne_nil_of_mem (cls_self p hi)
 obtain ⟨r,l,e⟩:=List.exists_cons_of_ne_nil hne
 have hr:r∈cls n R i:=by rw [e];simp
 refine ⟨r,(cls_mem.1 hr).1,?_,hr⟩
 unfold isRep
 rw [cls_eq p hi hr,e]
 simp
theorem rep_unique (p:Pre n R) {r s:Nat} (hr:r<n) (hs:s∈cls n R r) (h1:isRep n R r=true) (h2:isRep n R s=true):r=s:=by
 unfold isRep at h1 h2
 rw [cls_eq p hr hs] at h2
 have a:=eq_of_beq h1
 have b:=eq_of_beq h2
 rw [a] at b
 exact Option.some.inj b
theorem cls_nodup:(cls n R i).Nodup:=List.Pairwise.filter _ List.nodup_range
end
end Go.Proofs.YtcgagiimlkjcpaaGreatDoor
set_option linter.unusedVariables false
set_option linter.unusedSimpArgs false
namespace Go.Proofs.YtcgagiimlkjcpaaGreatDoor
open Go Go.RowKit
def posE (Q:Mx):Bx:=fun i j=>decide (0<Q i j)
structure Irr (L : Nat) (Q : Mx) : Prop where
  nonneg : ∀ i k, 0 ≤ Q i k
  sum : ∀ i, i < L → sumF (Q i) L = 1
  con : ∀ i k, i < L → k < L → Star L (posE Q) i k
def Stat (L:Nat) (Q:Mx) (y:Nat→Rat):Prop:=∀k,k<L→sumF (fun i=>y i*Q i k) L=y k
section
variable {L : Nat} {Q : Mx} {y p : Nat → Rat} {f g : Nat → Rat} {n : Nat}
theorem sumF_ge {i:Nat} (h:∀k,k<n→0≤f k) (hi:i<n):f i≤sumF f n:=by
 induction n with
 | zero=>omega
 | succ n ih =>
  show f i≤sumF f n+f n
  by_cases e:i=n
  ·subst e
   have:=sumF_nonneg fun k hk=>h k (Nat.lt_succ_of_lt hk)
   grind
  ·have h1:=ih (fun k hk=>h k (by omega)) (by omega)
   have h2:=h n (by omega)
   grind
theorem sumF_zero_each (h:∀k,k<n→0≤f k) (h0:sumF f n=0):∀k,k<n→f k=0:=fun k hk=>by
 have h1:=sumF_ge h hk
 rw [h0] at h1
 exact Rat.le_antisymm h1 (h k hk)
theorem sumF_neg:sumF (fun k=>- f k) n=- sumF f n:=by
 induction n with
 | zero=>show (0:Rat)=-0;grind
 | succ n ih=>show sumF _ n+- f n=-(sumF f n+f n);rw [ih];grind
theorem stat_total (h:Irr L Q):sumF (fun k=>sumF (fun i=>y i*Q i k) L) L=sumF y L:=by
 rw [sumF_swap (h:=fun k i=>y i*Q i k)]
 exact sumF_congr fun i hi=>by rw [←sumF_mul,h.sum i hi,Rat.mul_one]
theorem stat_pos1 (h:Irr L Q) (hp:∀i,0≤p i) (hs:Stat L Q p) {a:Nat} (ha:0<p a) {b:Nat} (hst:Star L (posE Q) a b) (haL:a<L):0<p b:=by
 induction hst with
 | refl=>exact ha
 | step hst hk he ih =>
  rename_i j k
  have hj:=hst.lt haL
  rw [←hs k hk]
  have h1:=sumF_ge (f:=fun i=>p i*Q i k) (fun i _=>Rat.mul_nonneg (hp i) (h.nonneg i k)) hj
  have h2:0<p j*Q j k:=Rat.mul_pos ih (of_decide_eq_true he)
  exact Std.lt_of_lt_of_le h2 h1
def ppos (y:Nat→Rat) (i:Nat):Rat:=if 0<y i then y i else 0
theorem ppos_nonneg (i:Nat):0≤ppos y i:=by unfold ppos;split<;>grind
theorem ppos_ge (i:Nat):y i≤ppos y i:=by unfold ppos;split<;>grind
theorem stat_ppos (h:Irr L Q) (hs:Stat L Q y):Stat L Q (ppos y):=by
 have ge:∀k,k<L→ppos y k≤sumF (fun i=>ppos y i*Q i k) L:=fun k hk=>by
  have h0:0≤sumF (fun i=>ppos y i*Q i k) L:=sumF_nonneg fun i _=>Rat.mul_nonneg (ppos_nonneg i) (h.nonneg i k)
  have h1:sumF (fun i=>y i*Q i k) L≤sumF (fun i=>ppos y i*Q i k) L:=sumF_le fun i _=>Rat.mul_le_mul_of_nonneg_right (ppos_ge i) (h.nonneg i k)
  rw [hs k hk] at h1
  unfold ppos at h0 h1 ⊢
  split
  ·exact h1
  ·exact h0
 have tot:=stat_total (y:=ppos y) h
 have hz:sumF (fun k=>sumF (fun i=>ppos y i*Q i k) L-ppos y k) L=0:=by rw [sumF_sub,tot];grind
 intro k hk
 have:=sumF_zero_each (f:=fun k=>sumF (fun i=>ppos y i*Q i k) L-ppos y k) (fun k hk=>by have:=ge k hk;grind) hz k hk
 grind
theorem stat_all_pos (h:Irr L Q) (hs:Stat L Q y) {a:Nat} (haL:a<L) (ha:0<y a):∀k,k<L→0<y k:=fun k hk=>by
 have:=stat_pos1 h ppos_nonneg (stat_ppos h hs) (a:=a) (by unfold ppos;rw [if_pos ha];exact ha) (h.con a k haL hk) haL
 unfold ppos at this
 split at this
 ·assumption
 ·exact absurd this (by decide)
theorem stat_zero (h:Irr L Q) (hs:Stat L Q y) (h0:sumF y L=0):∀k,k<L→y k=0:=by
 have hle:∀k,k<L→y k≤0:=fun k hk=>Rat.not_lt.1 fun hp=>by
  have hall:=stat_all_pos h hs hk hp
  have:=sumF_ge (f:=y) (fun i hi=>Rat.le_of_lt (hall i hi)) hk
  rw [h0] at this
  exact Rat.not_lt.2 this hp
 have hn:sumF (fun k=>- y k) L=0:=by rw [sumF_neg,h0];grind
 intro k hk
 have:=sumF_zero_each (f:=fun k=>- y k) (fun k hk=>by have:=hle k hk;grind) hn k hk
 grind
theorem stat_pos (h:Irr L Q) (hs:Stat L Q y) (h1:sumF y L=1):∀k,k<L→0<y k:=by
 have:∃a,a<L∧0<y a:=Classical.byContradiction fun hn=>by
  have hle:sumF y L≤sumF (fun _=>(0:Rat)) L:=sumF_le fun k hk=>Rat.not_lt.1 fun hp=>hn ⟨k,hk,hp⟩
  rw [sumF_zero,h1] at hle
  exact absurd hle (by decide)
 obtain ⟨a,haL,ha⟩:=this
 exact stat_all_pos h hs haL ha
theorem stat_unique {x:Nat→Rat} (h:Irr L Q) (hs:Stat L Q y) (hx:Stat L Q x) (e:sumF x L=sumF y L):∀k,k<L→x k=y k:=by
 have hd:Stat L Q fun k=>x k-y k:=fun k hk=>by
  have:sumF (fun i=>(x i-y i)*Q i k) L=sumF (fun i=>x i*Q i k) L-sumF (fun i=>y i*Q i k) L:=by rw [←sumF_sub];exact sumF_congr fun i _=>by grind
  rw [this,hs k hk,hx k hk]
 have:=stat_zero h hd (by rw [sumF_sub,e];grind)
 intro k hk
 have:=this k hk
 grind
def stM (L:Nat) (Q:Mx):Mx:=fun k i=>if i=L then (if k=0 then 1 else 0) else if k=0 then 1 else Q i k-(if i=k then 1 else 0)
theorem stM_zero (h:0<L):sumF (fun i=>stM L Q 0 i*y i) L=sumF y L:=sumF_congr fun i hi=>by
 unfold stM
 rw [if_neg (by omega),if_pos rfl,Rat.one_mul]
theorem stM_pos {k:Nat} (hk:k<L) (h0:k≠0):sumF (fun i=>stM L Q k i*y i) L=sumF (fun i=>y i*Q i k) L-y k:=by
 have e:sumF (fun i=>(if i=k then (1:Rat) else 0)*y i) L=y k:=by
  rw [sumF_single (i:=k) (fun i _ hne=>by rw [if_neg hne,Rat.zero_mul]) hk,if_pos rfl,Rat.one_mul]
 rw [←e,←sumF_sub]
 refine sumF_congr fun i hi=>?_
 unfold stM
 rw [if_neg (by omega),if_neg h0]
 grind
theorem st_stat (h:Irr L Q) (hL:0<L) (hk:∀k,k<L→k≠0→sumF (fun i=>y i*Q i k) L=y k):Stat L Q y:=fun k hkL=>by
 by_cases e:k=0
 ·subst e
  have hz:sumF (fun k=>sumF (fun i=>y i*Q i k) L-y k) L=0:=by rw [sumF_sub,stat_total h];grind
  rw [sumF_single (i:=0) (fun k hk' hne=>by rw [hk k hk' hne];grind) hL] at hz
  grind
 ·exact hk k hkL e
theorem st_hom (h:Irr L Q) (hL:0<L) (hy:Hom L (stM L Q) y):∀k,k<L→y k=0:=by
 refine stat_zero h (st_stat h hL fun k hk h0=>?_) ?_
 ·have:=hy k hk
  rw [stM_pos hk h0] at this
  grind
 ·have:=hy 0 hL
  rwa [stM_zero hL] at this
theorem st_sol (h:Irr L Q) (hL:0<L) (hy:Sol L (stM L Q) y):Stat L Q y∧sumF y L=1:=by
 refine ⟨st_stat h hL fun k hk h0=>?_,?_⟩
 ·have:=hy k hk
  rw [stM_pos hk h0,show stM L Q k L=0 by unfold stM;rw [if_pos rfl,if_neg h0]] at this
  grind
 ·have:=hy 0 hL
  rw [stM_zero hL,show stM L Q 0 L=1 by unfold stM;rw [if_pos rfl,if_pos rfl]] at this
  exact this
end
end Go.Proofs.YtcgagiimlkjcpaaGreatDoor
set_option linter.unusedVariables false
set_option linter.unusedSimpArgs false
namespace Go.Proofs.YtcgagiimlkjcpaaGreatDoor
open Go Go.RowKit
def mulM (n:Nat) (A B:Mx):Mx:=fun i k=>sumF (fun j=>A i j*B j k) n
def idM:Mx:=fun i k=>if i=k then 1 else 0
def powM (n:Nat) (A:Mx):Nat→Mx
 | 0=>idM
 | k+1=>mulM n (powM n A k) A
def EqM (n:Nat) (A B:Mx):Prop:=∀i k,i<n→k<n→A i k=B i k
def mxL (n:Nat) (M:Mx):List (List Rat):=(List.range n).map fun i=>(List.range n).map (M i)
structure Sto (n : Nat) (A : Mx) : Prop where
  nonneg : ∀ i k, i < n → k < n → 0 ≤ A i k
  sum : ∀ i, i < n → sumF (A i) n = 1
section
variable {n a b : Nat} {A B C D : Mx} {y : Nat → Rat}
theorem EqM.symm (h:EqM n A B):EqM n B A:=fun i k hi hk=>(h i k hi hk).symm
theorem EqM.trans (h:EqM n A B) (h':EqM n B C):EqM n A C:=fun i k hi hk=>(h i k hi hk).trans (h' i k hi hk)
theorem mul_congr (h:EqM n A B) (h':EqM n C D):EqM n (mulM n A C) (mulM n B D):=fun i k hi hk=>sumF_congr fun j hj=>by rw [h i j hi hj,h' j k hj hk]
theorem mul_id:EqM n (mulM n A idM) A:=fun i k hi hk=>by
 show sumF (fun j=>A i j*idM j k) n=_
 rw [sumF_single (i:=k) (fun j _ hne=>by unfold idM;rw [if_neg hne,Rat.mul_zero]) hk]
 unfold idM;rw [if_pos rfl,Rat.mul_one]
theorem id_mul:EqM n (mulM n idM A) A:=fun i k hi hk=>by
 show sumF (fun j=>idM i j*A j k) n=_
 rw [sumF_single (i:=i) (fun j _ hne=>by unfold idM;rw [if_neg (Ne.symm hne),Rat.zero_mul]) hi]
 unfold idM;rw [if_pos rfl,Rat.one_mul]
theorem mul_assoc':mulM n (mulM n A B) C=mulM n A (mulM n B C):=by
 funext i k
 show sumF (fun j=>sumF (fun l=>A i l*B l j) n*C j k) n=sumF (fun l=>A i l*sumF (fun j=>B l j*C j k) n) n
 have e1:sumF (fun j=>sumF (fun l=>A i l*B l j) n*C j k) n=sumF (fun j=>sumF (fun l=>A i l*B l j*C j k) n) n:=sumF_congr fun j _=>by rw [sumF_mulr]
 rw [e1,sumF_swap]
 refine sumF_congr fun l _=>?_
 rw [sumF_mul]
 exact sumF_congr fun j _=>by rw [Rat.mul_assoc]
theorem pow_one:EqM n (powM n A 1) A:=id_mul
theorem pow_add:∀b,EqM n (powM n A (a+b)) (mulM n (powM n A a) (powM n A b)):=by
 intro b
 induction b with
 | zero=>exact (mul_id (A:=powM n A a)).symm
 | succ b ih =>
  show EqM n (mulM n (powM n A (a+b)) A) (mulM n (powM n A a) (mulM n (powM n A b) A))
  rw [←mul_assoc']
  exact mul_congr ih fun _ _ _ _=>rfl
theorem mxL_len:(mxL n A).length=n:=by simp [mxL]
theorem mxL_row (r:List Rat) (h:r∈mxL n A):r.length=n:=by obtain ⟨i,_,rfl⟩:=List.mem_map.1 h;simp
theorem mxL_get {i:Nat} (hi:i<n):(mxL n A)[i]?=some ((List.range n).map (A i)):=by simp [mxL,hi]
theorem mxL_at:EqM n (at2 (mxL n A)) A:=fun i k hi hk=>by simp [at2,mxL,List.getD,hi,hk]
theorem mxL_congr (h:EqM n A B):mxL n A=mxL n B:=by
 refine List.map_congr_left fun i hi=>List.map_congr_left fun k hk=>?_
 exact h i k (List.mem_range.1 hi) (List.mem_range.1 hk)
theorem mxL_of {m:List (List Rat)} (h:∀r∈m,r.length=m.length):m=mxL m.length (at2 m):=by
 apply List.ext_getElem?
 intro i
 by_cases hi:i<m.length
 ·rw [mxL_get hi,List.getElem?_eq_getElem hi]
  congr 1
  have hr:=h _ (List.getElem_mem hi)
  apply List.ext_getElem?
  intro k
  by_cases hk:k<m.length
  ·rw [List.getElem?_eq_getElem (by rw [hr];exact hk)]
   simp [hk,at2,List.getD,hi]
   rw [List.getElem?_eq_getElem (by rw [hr];exact hk)];rfl
  ·rw [List.getElem?_eq_none (by rw [hr];omega),List.getElem?_eq_none (by simp;omega)]
 ·rw [List.getElem?_eq_none (by omega),List.getElem?_eq_none (by rw [mxL_len];omega)]
end
end Go.Proofs.YtcgagiimlkjcpaaGreatDoor
