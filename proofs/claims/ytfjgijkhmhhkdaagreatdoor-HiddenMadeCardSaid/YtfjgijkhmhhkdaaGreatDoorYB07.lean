/- The abstract machine, fourteenth part: contracts over values alone, and fractions. Conditions: none. -/
import Derived.Test.YtfjgijkhmhhkdaaGreatDoorYAmM
import Derived.Test.YtfjgijkhmhhkdaaGreatDoorYFracOne
import Derived.Test.YtfjgijkhmhhkdaaGreatDoorProg
set_option linter.unusedVariables false
set_option linter.unusedSimpArgs false
namespace Go.Proofs.YtfjgijkhmhhkdaaGreatDoor
open Go Go.RowKit

theorem vals_repf {w:World} {F:Nat→Prop}:∀{cs:List FV} {l:List Value},vals cs=some l→cs.length=l.length∧∀(j:Nat) c,cs[j]?=some c→RepF w F c (l.toArray.getD j undef)
 | [],l,h=>by cases h;exact ⟨rfl,fun j c h=>by simp at h⟩
 | .v x::cs,l,h=>by
  unfold vals at h
  cases hv:vals cs with
  | none=>rw [hv] at h;cases h
  | some l' =>
   rw [hv] at h
   cases h
   obtain ⟨h1,h2⟩:=vals_repf (w:=w) (F:=F) hv
   refine ⟨by simp [h1],fun j c hj=>?_⟩
   cases j with
   | zero=>simp at hj;subst hj;exact .v x
   | succ j =>
    have:=h2 j c (by simpa using hj)
    have e:(x::l').toArray.getD (j+1) undef=l'.toArray.getD j undef:=by simp [Array.getD_eq_getD_getElem?]
    rw [e];exact this
 | .agg _::_,l,h=>by cases h
 | .tup _::_,l,h=>by cases h
 | .fz _ _::_,l,h=>by cases h
 | .fp _ _::_,l,h=>by cases h
 | .fn _ _ _::_,l,h=>by cases h
theorem val_repf {w:World} {F:Nat→Prop} {x:FV} {v:Value} (h:x.val=some v):RepF w F x v:=by
 cases x with
 | v x=>cases h;exact .v _
 | agg cs =>
  replace h:(vals cs).map (fun l=>Value.agg l.toArray)=some v:=h
  cases hv:vals cs with
  | none=>rw [hv] at h;cases h
  | some l =>
   rw [hv] at h
   cases h
   obtain ⟨h1,h2⟩:=vals_repf (w:=w) (F:=F) hv
   exact .agg cs _ (by simpa using h1) h2
 | _=>cases h
def FV.val2:FV→Option Value
 | .tup cs=>(cs.mapM FV.val).map fun l=>.tuple l.toArray
 | x=>x.val
theorem mapM_vals {w:World} {F:Nat→Prop}:∀{cs:List FV} {l:List Value},cs.mapM FV.val=some l→cs.length=l.length∧(∀(j:Nat) c,cs[j]?=some c→RepF w F c (l.toArray.getD j undef))∧∀ys:Array Value,cs.length=ys.size→(∀(j:Nat) c,cs[j]?=some c→RepF w F c (ys.getD j undef))→ys.toList=l
 | [],l,h=>by
  cases h
  refine ⟨rfl,fun j c h=>by simp at h,fun ys hl _=>?_⟩
  simpa using hl.symm
 | x::cs,l,h=>by
  rw [List.mapM_cons] at h
  cases hx:x.val with
  | none=>rw [hx] at h;cases h
  | some v =>
   rw [hx] at h
   cases hv:cs.mapM FV.val with
   | none=>rw [hv] at h;cases h
   | some l' =>
    rw [hv] at h
    cases h
    obtain ⟨h1,h2,h3⟩:=mapM_vals (w:=w) (F:=F) hv
    refine ⟨by simp [h1],fun j c hj=>?_,fun ys hl hr=>?_⟩
    ·cases j with
     | zero=>simp at hj;subst hj;exact val_repf hx
     | succ j =>
      have:=h2 j c (by simpa using hj)
      have e:(v::l').toArray.getD (j+1) undef=l'.toArray.getD j undef:=by simp [Array.getD_eq_getD_getElem?]
      rw [e];exact this
    ·obtain ⟨ys⟩:=ys
     cases ys with
     | nil=>simp at hl
     | cons y ys =>
      have h0:=hr 0 x rfl
      have e0:(y::ys).toArray.getD 0 undef=y:=rfl
      rw [e0] at h0
      have:=val_rep hx h0
      subst this
      have:=h3 ys.toArray (by simpa using hl) (fun j c hj=>by
       have:=hr (j+1) c (by simpa using hj)
       have e:(y::ys).toArray.getD (j+1) undef=ys.toArray.getD j undef:=by simp [Array.getD_eq_getD_getElem?]
       rwa [e] at this)
      show y::ys=y::l'
      rw [←this]
theorem val2_repf {w:World} {F:Nat→Prop} {x:FV} {v:Value} (h:x.val2=some v):RepF w F x v:=by
 by_cases ht:∃cs,x=.tup cs
 ·obtain ⟨cs,rfl⟩:=ht
  replace h:(cs.mapM FV.val).map (fun l=>Value.tuple l.toArray)=some v:=h
  cases hv:cs.mapM FV.val with
  | none=>rw [hv] at h;cases h
  | some l =>
   rw [hv] at h
   cases h
   obtain ⟨h1,h2,_⟩:=mapM_vals (w:=w) (F:=F) hv
   exact .tup cs _ (by simpa using h1) h2
 ·have:x.val=some v:=by cases x<;>first|exact h|exact absurd ⟨_,rfl⟩ ht
  exact val_repf this
theorem good_calls {P:Program} {f:FuncId} {xs:List FV} {r:FV} {args:List Value} {v:Value} (hok:enterOk P f=true) (hx:xs.mapM FV.val=some args) (hr:r.val2=some v)
  (h:∀w,Calls P f args.toArray w fun e w'=>e=.returned v∧Below w.heap.size w w'):Good P f xs r:=by
 refine ⟨hok,fun w G ys _ hG hrep=>?_⟩
 obtain ⟨_,_,h3⟩:=mapM_vals (w:=w) (F:=G) hx
 have:=h3 ys hrep.1 hrep.2
 have e:ys=args.toArray:=by rw [←this]
 rw [e]
 exact (h w).mono fun e w' ⟨he,hb⟩=>⟨v,he,⟨hb.os,hb.tape,hb.output,hb.size,fun k hk _=>hb.block k hk⟩,val2_repf hr⟩
def fr (q:Rat):FV:=.agg [.v (.bool (cg q)),.v (.string (cn q)),.v (.string (cd q))]
abbrev frs (l:List Rat):FV:=.fz 3 (l.map fr)
abbrev rowsF (m:List (List Rat)):FV:=.fz 1 (m.map frs)
abbrev I (n:Int):FV:=.v (.int .i64 n)
abbrev Bo (b:Bool):FV:=.v (.bool b)
abbrev ints (l:List Int):FV:=.fz 1 (l.map I)
theorem of_good {n:Int} (h0:-9223372036854775808≤n) (h1:n≤9223372036854775807):Good Tryz.prog 28 [I n] (fr (n:Rat)) :=
 good_calls (by kernel_rfl) rfl rfl fun w=>fof_g h0 h1 w
theorem flatF_fr (q:Rat):FlatF (fr q):=.agg _ fun j c h=>by
 match j,h with
 | 0,h=>cases h;exact .v _
 | 1,h=>cases h;exact .v _
 | 2,h=>cases h;exact .v _
theorem fr_cells (q:Rat):(fr q).cells=[.v (.bool (cg q)),.v (.string (cn q)),.v (.string (cd q))]:=(rfl)
theorem fr_st (q:Rat):(fr q).st=true:=(rfl)
theorem fr_isA (q:Rat):(fr q).isA=true:=(rfl)
theorem lget_lt {α:Type} (l:List α) (d:α) {i:Nat} (h:i<l.length):l.getD i d=l[i]:=by rw [List.getD_eq_getElem?_getD,List.getElem?_eq_getElem h];rfl
attribute [go_sem] fr_cells fr_st fr_isA
end Go.Proofs.YtfjgijkhmhhkdaaGreatDoor
set_option linter.unusedVariables false
set_option linter.unusedSimpArgs false
namespace Go.Proofs.YtfjgijkhmhhkdaaGreatDoor
open Go Go.RowKit

def Kont (K A:AS→Prop):Prop:=∀s,A s→K s
theorem Kont.go {K A:AS→Prop} {s:AS} (h:Kont K A) (ha:A s):K s:=h s ha
section
variable {X : Cx} {P : Program} {Q : Exit → AS → Prop} {s s' : AS} {K : AS → Prop}
theorem W_seq {x y:Code} (h:∀K:AS→Prop,Kont K (fun s=>J X P y Q s)→J X P x (athen K Q) s):J X P (.seq x y) Q s:=J_seq h
theorem athen_normal {n:AS→Prop}:athen n Q .normal s=n s:=(rfl)
theorem athen_exit {n:AS→Prop} {i:Nat}:athen n Q (.exit i) s=Q (.exit i) s:=(rfl)
theorem athen_ret {n:AS→Prop}:athen n Q .ret s=Q .ret s:=(rfl)
theorem ablock_normal {i:Nat}:ablock i Q .normal s=Q .normal s:=(rfl)
theorem ablock_ret {i:Nat}:ablock i Q .ret s=Q .ret s:=(rfl)
theorem ablock_exit {i j:Nat}:ablock i Q (.exit j) s=if j=i then Q .normal s else Q (.exit j) s:=(rfl)
theorem W_cond {c:Operand} {x y:Code} (t:Bool) (hc:s.ev c=.f (.v (.bool t))) (h1:t=true→J X P x Q s) (h2:t=false→J X P y Q s):J X P (.cond c x y) Q s:=J_cond hc h1 h2
theorem W_true {c:Operand} {x y:Code} (hc:s.ev c=.f (.v (.bool true))) (h1:J X P x Q s):J X P (.cond c x y) Q s:=J_cond hc (fun _=>h1) (fun h=>by cases h)
theorem W_false {c:Operand} {x y:Code} (hc:s.ev c=.f (.v (.bool false))) (h1:J X P y Q s):J X P (.cond c x y) Q s:=J_cond hc (fun h=>by cases h) (fun _=>h1)
def Jc (v:AV) (X:Cx) (P:Program) (c:Operand) (x y:Code) (Q:Exit→AS→Prop) (s:AS):Prop:=s.ev c=v→J X P (.cond c x y) Q s
theorem J_c {c:Operand} {x y:Code} (h:Jc (s.ev c) X P c x y Q s):J X P (.cond c x y) Q s:=h rfl
theorem Jc_true {c:Operand} {x y:Code} (h:J X P x Q s):Jc (.f (.v (.bool true))) X P c x y Q s:=fun hc=>W_true hc h
theorem Jc_false {c:Operand} {x y:Code} (h:J X P y Q s):Jc (.f (.v (.bool false))) X P c x y Q s:=fun hc=>W_false hc h
theorem Jc_if {c:Operand} {x y:Code} {b:Bool} (h1:b=true→J X P x Q s) (h2:b=false→J X P y Q s):Jc (.f (.v (.bool b))) X P c x y Q s:=fun hc=>W_cond b hc h1 h2
def WeakL (N:Nat):List AV→List AV→Prop
 | [],[]=>True
 | a::l,b::m=>(b=.any∨(b=a∧b.lt0 N=true))∧WeakL N l m
 | _,_=>False
def objLt (N:Nat) (o:AO):Prop:=∀e∈o.es,e.lt0 N=true
def WeakH (N:Nat):AH→AH→Prop
 | _,[]=>True
 | a::l,b::m=>(match b with|none=>True|some o=>a=some o∧objLt N o)∧WeakH N l m
 | _,_=>False
theorem weakL {N:Nat} {l m:List AV} (h:WeakL N l m):m.length=l.length∧∀(j:Nat) x,m[j]?=some x→x=.any∨(l[j]?=some x∧x.lt0 N=true):=by
 induction l generalizing m with
 | nil=>cases m with
  | nil=>exact ⟨rfl,fun j x h=>by simp at h⟩
  | cons b m=>exact h.elim
 | cons a l ih=>cases m with
  | nil=>exact h.elim
  | cons b m =>
   obtain ⟨h1,h2⟩:=h
   obtain ⟨h3,h4⟩:=ih h2
   refine ⟨by simp [h3],fun j x hj=>?_⟩
   cases j with
   | zero =>
    simp at hj;subst hj
    rcases h1 with h1|⟨h1,h5⟩
    ·exact .inl h1
    ·exact .inr ⟨by simp [h1],h5⟩
   | succ j=>simpa using h4 j x (by simpa using hj)
theorem weakH {N:Nat} {l m:AH} (h:WeakH N l m):m.length≤l.length∧∀(r:Nat) o,m[r]?=some (some o)→l[r]?=some (some o)∧∀e∈o.es,e.lt0 N=true:=by
 induction m generalizing l with
 | nil=>exact ⟨Nat.zero_le _,fun j x h=>by simp at h⟩
 | cons b m ih=>cases l with
  | nil=>exact h.elim
  | cons a l =>
   obtain ⟨h1,h2⟩:=h
   obtain ⟨h3,h4⟩:=ih h2
   refine ⟨by simp;omega,fun j x hj=>?_⟩
   cases j with
   | zero =>
    simp at hj;subst hj
    exact ⟨by simpa using h1.1,h1.2⟩
   | succ j=>simpa using h4 j x (by simpa using hj)
theorem weak_of {t t':List AV} {H H':AH} (h1:WeakL H'.length t t') (h2:WeakH H'.length H H'):Weak ⟨t,H⟩ ⟨t',H'⟩:=by
 refine ⟨fun r=>r,(weakL h1).1,fun j x hj=>?_,fun r o hr=>?_,fun r r' _ _ h=>h⟩
 ·rw [ren_id];exact (weakL h1).2 j x hj
 ·have e:o.es.map (AV.ren fun r=>r)=o.es:=by
   rw [List.map_congr_left (fun x _=>ren_id),List.map_id'']
   exact fun _=>rfl
  rw [e];exact (weakH h2).2 r o hr
def WeakLr (g:Nat→Nat) (N:Nat):List AV→List AV→Prop
 | [],[]=>True
 | a::l,b::m=>(b=.any∨(b.ren g=a∧b.lt0 N=true))∧WeakLr g N l m
 | _,_=>False
def WeakHr (g:Nat→Nat) (N:Nat) (H:AH):Nat→AH→Prop
 | _,[]=>True
 | i,b::m=>(match b with|none=>True|some o=>H[g i]?=some (some ⟨o.e,o.sz,o.es.map (AV.ren g)⟩)∧objLt N o)∧WeakHr g N H (i+1) m
theorem weakLr {g:Nat→Nat} {N:Nat} {l m:List AV} (h:WeakLr g N l m):m.length=l.length∧∀(j:Nat) x,m[j]?=some x→x=.any∨(l[j]?=some (x.ren g)∧x.lt0 N=true):=by
 induction l generalizing m with
 | nil=>cases m with
  | nil=>exact ⟨rfl,fun j x h=>by simp at h⟩
  | cons b m=>exact h.elim
 | cons a l ih=>cases m with
  | nil=>exact h.elim
  | cons b m =>
   obtain ⟨h1,h2⟩:=h
   obtain ⟨h3,h4⟩:=ih h2
   refine ⟨by simp [h3],fun j x hj=>?_⟩
   cases j with
   | zero =>
    simp at hj;subst hj
    rcases h1 with h1|⟨h1,h5⟩
    ·exact .inl h1
    ·exact .inr ⟨by simp [h1],h5⟩
   | succ j=>simpa using h4 j x (by simpa using hj)
theorem weakHr {g:Nat→Nat} {N:Nat} {H m:AH} {i:Nat} (h:WeakHr g N H i m):∀(r:Nat) o,m[r]?=some (some o)→H[g (i+r)]?=some (some ⟨o.e,o.sz,o.es.map (AV.ren g)⟩)∧∀e∈o.es,e.lt0 N=true:=by
 induction m generalizing i with
 | nil=>exact fun j x h=>by simp at h
 | cons b m ih =>
  obtain ⟨h1,h2⟩:=h
  intro j x hj
  cases j with
  | zero =>
   simp at hj;subst hj
   exact ⟨h1.1,h1.2⟩
  | succ j =>
   have:=ih h2 j x (by simpa using hj)
   rwa [show i+(j+1)=i+1+j by omega]
def nth (σ:List Nat) (r:Nat):Nat:=σ.getD r 0
theorem weak_ren (σ:List Nat) {t t':List AV} {H H':AH} (h0:σ.Nodup∧H'.length≤σ.length) (h1:WeakLr (nth σ) H'.length t t') (h2:WeakHr (nth σ) H'.length H 0 H'):Weak ⟨t,H⟩ ⟨t',H'⟩:=by
 refine ⟨nth σ,(weakLr h1).1,(weakLr h1).2,fun r o hr=>?_,fun r r' hr hr' h=>?_⟩
 ·have:=weakHr h2 r o hr
  rwa [Nat.zero_add] at this
 ·have a1:r<σ.length:=Nat.lt_of_lt_of_le hr h0.2
  have a2:r'<σ.length:=Nat.lt_of_lt_of_le hr' h0.2
  unfold nth at h
  rw [List.getD_eq_getElem?_getD,List.getD_eq_getElem?_getD,List.getElem?_eq_getElem a1,List.getElem?_eq_getElem a2] at h
  exact (List.getElem_inj h0.1).1 h
theorem weakLr_nil (g:Nat→Nat) (N:Nat):WeakLr g N [] []=True:=(rfl)
theorem weakLr_any (g:Nat→Nat) (N:Nat) (a:AV) (l m:List AV):WeakLr g N (a::l) (.any::m)=WeakLr g N l m:=propext ⟨fun h=>h.2,fun h=>⟨.inl rfl,h⟩⟩
theorem weakLr_f (g:Nat→Nat) (N:Nat) (a:AV) (b:FV) (l m:List AV):WeakLr g N (a::l) (.f b::m)=(AV.f b=a∧WeakLr g N l m):=propext ⟨fun h=>⟨(h.1.resolve_left (by simp)).1,h.2⟩,fun h=>⟨.inr ⟨h.1,rfl⟩,h.2⟩⟩
theorem weakLr_own (g:Nat→Nat) (N r sz o k:Nat) (a:AV) (l m:List AV):WeakLr g N (a::l) (.own r sz o k::m)=(AV.own (g r) sz o k=a∧r<N∧WeakLr g N l m):=propext ⟨fun h=>⟨(h.1.resolve_left (by simp)).1,of_decide_eq_true (h.1.resolve_left (by simp)).2,h.2⟩,fun h=>⟨.inr ⟨h.1,decide_eq_true h.2.1⟩,h.2.2⟩⟩
theorem weakLr_ptr (g:Nat→Nat) (N r sz i j:Nat) (a:AV) (l m:List AV):WeakLr g N (a::l) (.ptr r sz i j::m)=(AV.ptr (g r) sz i j=a∧r<N∧WeakLr g N l m):=propext ⟨fun h=>⟨(h.1.resolve_left (by simp)).1,of_decide_eq_true (h.1.resolve_left (by simp)).2,h.2⟩,fun h=>⟨.inr ⟨h.1,decide_eq_true h.2.1⟩,h.2.2⟩⟩
theorem weakHr_nil (g:Nat→Nat) (N i:Nat) (H:AH):WeakHr g N H i []=True:=(rfl)
theorem weakHr_none (g:Nat→Nat) (N i:Nat) (H m:AH):WeakHr g N H i (none::m)=WeakHr g N H (i+1) m:=propext ⟨fun h=>h.2,fun h=>⟨trivial,h⟩⟩
theorem weakHr_some (g:Nat→Nat) (N i:Nat) (o:AO) (H m:AH):WeakHr g N H i (some o::m)=((H[g i]?=some (some ⟨o.e,o.sz,o.es.map (AV.ren g)⟩)∧objLt N o)∧WeakHr g N H (i+1) m):=(rfl)
theorem ren_f (g:Nat→Nat) (x:FV):(AV.f x).ren g=.f x:=(rfl)
theorem ren_own (g:Nat→Nat) (r sz o k:Nat):(AV.own r sz o k).ren g=.own (g r) sz o k:=(rfl)
theorem ren_ptr (g:Nat→Nat) (r sz i j:Nat):(AV.ptr r sz i j).ren g=.ptr (g r) sz i j:=(rfl)
theorem map_ren_f (g:Nat→Nat) (l:List FV):(l.map AV.f).map (AV.ren g)=l.map AV.f:=by rw [List.map_map];rfl
theorem nth_zero (a:Nat) (l:List Nat):nth (a::l) 0=a:=(rfl)
theorem nth_succ (a i:Nat) (l:List Nat):nth (a::l) (i+1)=nth l i:=(rfl)
theorem lt0_f (N:Nat) (x:FV):(AV.f x).lt0 N=true:=(rfl)
theorem weakL_nil (N:Nat):WeakL N [] []=True:=(rfl)
theorem weakL_any (N:Nat) (a:AV) (l m:List AV):WeakL N (a::l) (.any::m)=WeakL N l m:=propext ⟨fun h=>h.2,fun h=>⟨.inl rfl,h⟩⟩
theorem weakL_f (N:Nat) (a:AV) (b:FV) (l m:List AV):WeakL N (a::l) (.f b::m)=(AV.f b=a∧WeakL N l m):=propext ⟨fun h=>⟨(h.1.resolve_left (by simp)).1,h.2⟩,fun h=>⟨.inr ⟨h.1,rfl⟩,h.2⟩⟩
theorem weakL_own (N r sz o k:Nat) (a:AV) (l m:List AV):WeakL N (a::l) (.own r sz o k::m)=(AV.own r sz o k=a∧r<N∧WeakL N l m):=propext ⟨fun h=>⟨(h.1.resolve_left (by simp)).1,of_decide_eq_true (h.1.resolve_left (by simp)).2,h.2⟩,fun h=>⟨.inr ⟨h.1,decide_eq_true h.2.1⟩,h.2.2⟩⟩
theorem weakL_ptr (N r sz i j:Nat) (a:AV) (l m:List AV):WeakL N (a::l) (.ptr r sz i j::m)=(AV.ptr r sz i j=a∧r<N∧WeakL N l m):=propext ⟨fun h=>⟨(h.1.resolve_left (by simp)).1,of_decide_eq_true (h.1.resolve_left (by simp)).2,h.2⟩,fun h=>⟨.inr ⟨h.1,decide_eq_true h.2.1⟩,h.2.2⟩⟩
theorem weakL_sl (N r sz:Nat) (fs:List FV) (a:AV) (l m:List AV) (h:r<N):WeakL N (a::l) (sl r sz fs::m)=(sl r sz fs=a∧WeakL N l m):=by
 have e:(sl r sz fs).lt0 N=true:=by cases fs<;>first|rfl|exact decide_eq_true h
 refine propext ⟨fun h=>⟨?_,h.2⟩,fun h=>⟨.inr ⟨h.1,e⟩,h.2⟩⟩
 rcases h.1 with h|h
 ·cases fs<;>cases h
 ·exact h.1
theorem weakH_nil (N:Nat) (l:AH):WeakH N l []=True:=by unfold WeakH;rfl
theorem weakH_none (N:Nat) (a:Option AO) (l m:AH):WeakH N (a::l) (none::m)=WeakH N l m:=propext ⟨fun h=>h.2,fun h=>⟨trivial,h⟩⟩
theorem weakH_some (N:Nat) (a:Option AO) (o:AO) (l m:AH):WeakH N (a::l) (some o::m)=((a=some o∧objLt N o)∧WeakH N l m):=(rfl)
theorem weakH_ob (N:Nat) (e:TypeId) (sz:Nat) (fs:List FV) (a:Option AO) (l m:AH):WeakH N (a::l) (ob e sz fs::m)=((fs=[]∨a=ob e sz fs)∧WeakH N l m):=by
 cases fs with
 | nil=>exact propext ⟨fun h=>⟨.inl rfl,h.2⟩,fun h=>⟨trivial,h.2⟩⟩
 | cons b fs=>exact propext ⟨fun h=>⟨.inr h.1.1,h.2⟩,fun h=>⟨⟨h.1.resolve_left (by simp),fun x hx=>by obtain ⟨y,_,rfl⟩:=List.mem_map.1 (show x∈List.map AV.f (b::fs) from hx);rfl⟩,h.2⟩⟩
theorem objLt_f (N:Nat) (e:TypeId) (sz:Nat) (es:List FV):objLt N ⟨e,sz,es.map .f⟩=True:=propext ⟨fun _=>trivial,fun _ x hx=>by obtain ⟨y,_,rfl⟩:=List.mem_map.1 hx;rfl⟩
theorem objLt_nil (N:Nat) (e:TypeId) (sz:Nat):objLt N ⟨e,sz,[]⟩=True:=propext ⟨fun _=>trivial,fun _ x hx=>by cases hx⟩
theorem objLt_cons (N:Nat) (e:TypeId) (sz:Nat) (a:AV) (l:List AV):objLt N ⟨e,sz,a::l⟩=(a.lt0 N=true∧objLt N ⟨e,sz,l⟩):=propext ⟨fun h=>⟨h a (by simp),fun x hx=>h x (by simp [show x∈l from hx])⟩,fun h x hx=>by
 rcases List.mem_cons.1 (show x∈a::l from hx) with rfl|hx
 ·exact h.1
 ·exact h.2 x hx⟩
theorem objLt_rep (N:Nat) (e:TypeId) (sz n:Nat) (x:FV):objLt N ⟨e,sz,List.replicate n (.f x)⟩=True:=propext ⟨fun _=>trivial,fun _ y hy=>by rw [List.eq_of_mem_replicate hy];rfl⟩
theorem objLt_app (N:Nat) (e:TypeId) (sz:Nat) (a b:List AV):objLt N ⟨e,sz,a++b⟩=(objLt N ⟨e,sz,a⟩∧objLt N ⟨e,sz,b⟩):=propext ⟨fun h=>⟨fun x hx=>h x (List.mem_append.2 (.inl hx)),fun x hx=>h x (List.mem_append.2 (.inr hx))⟩,fun h x hx=>by
 rcases List.mem_append.1 (show x∈a++b from hx) with hx|hx
 ·exact h.1 x hx
 ·exact h.2 x hx⟩
theorem Frz.aggL {H:List (Option AO)} {cs:List AV} {ds:List FV} (h:FrzL H cs ds):Frz H (.agg cs) (.agg ds):=.agg cs ds h.1 h.2
theorem FrzL.fs {H:List (Option AO)} (ds:List FV):FrzL H (ds.map .f) ds:=⟨by simp,fun j x y hx hy=>by
 rw [List.getElem?_map,hy] at hx;cases hx;exact .f _⟩
def msk (ws:List Nat) (l:List AV):List AV:=ws.foldl (fun l i=>l.set i .any) l
def sets (up:List (Nat × AV)) (l:List AV):List AV:=up.foldl (fun l p=>l.set p.1 p.2) l
theorem msk_nil (l:List AV):msk [] l=l:=(rfl)
theorem msk_cons (i:Nat) (ws:List Nat) (l:List AV):msk (i::ws) l=msk ws (l.set i .any):=(rfl)
theorem sets_nil (l:List AV):sets [] l=l:=(rfl)
theorem sets_cons (p:Nat × AV) (up:List (Nat × AV)) (l:List AV):sets (p::up) l=sets up (l.set p.1 p.2):=(rfl)
theorem W_loop {c:Code} {γ:Type} {t:List AV} {H:AH} (ws:List Nat) (up:γ→List (Nat × AV)) (hp:γ→AH) (I:γ→Prop) (μ:γ→Nat) (x0:γ) (h0:I x0) (hw:Weak ⟨t,H⟩ ⟨sets (up x0) (msk ws t),hp x0⟩)
  (round:∀x,I x→J X P c (athen (fun s=>∃y,I y∧μ y<μ x∧Weak s ⟨sets (up y) (msk ws t),hp y⟩) Q) ⟨sets (up x) (msk ws t),hp x⟩):J X P (.loop c) Q ⟨t,H⟩ :=
 J_loop (fun x=>⟨sets (up x) (msk ws t),hp x⟩) I μ x0 h0 hw round
theorem J_mono {c:Code} {Q Q':Exit→AS→Prop} {s:AS} (h:J X P c Q s) (hq:∀e s,Q e s→Q' e s):J X P c Q' s:=fun hk a w R=>wpIn_mono (h hk a w R) fun e a w ⟨s,hs,hr⟩=>⟨s,hq e s hs,hr⟩
theorem Jc_join {v:AV} {c:Operand} {x y r:Code} {Q':Exit→AS→Prop} {γ:Type} {t:List AV} {H:AH} (hK:Kont K (fun s=>J X P r Q' s)) (ws:List Nat) (up:γ→List (Nat × AV)) (hp:γ→AH) (I:γ→Prop)
  (h1:Jc v X P c x y (athen (fun s=>∃z,I z∧Weak s ⟨sets (up z) (msk ws t),hp z⟩) Q) ⟨t,H⟩) (h2:∀z,I z→J X P r Q' ⟨sets (up z) (msk ws t),hp z⟩):Jc v X P c x y (athen K Q) ⟨t,H⟩:=fun hc =>
 J_mono (h1 hc) fun e s hs=>by
  cases e with
  | normal=>obtain ⟨z,hz,hw⟩:=hs;exact hK s (J_weak hw (h2 z hz))
  | _=>exact hs
theorem call_f {f:FuncId} {xs:List AV} {d:Option Tmp} {zs:List FV} {r:FV} (hg:Good P f zs r) (hx:xs=zs.map .f) (hK:K (s.put d (.f r))):acall P f xs s d K:=by
 refine .inl ⟨zs,r,⟨by rw [hx];simp,fun j x y h1 h2=>?_⟩,hg,.inl fun x hxm=>?_,hK⟩
 ·rw [hx,List.getElem?_map,h2] at h1
  cases h1;exact .f y
 ·rw [hx] at hxm
  obtain ⟨y,_,rfl⟩:=List.mem_map.1 hxm
  exact ⟨y,rfl⟩
theorem call_o {f:FuncId} {xs:List AV} {d:Option Tmp} {zs:List FV} {r:RV} (hg:GoodO P f zs r) (hz:FrzL s.H xs zs) (hK:K (AS.put ⟨s.t,s.H++r.hp⟩ d (r.av s.H.length))):acall P f xs s d K:=.inr (.inl ⟨zs,r,hz,hg,hK⟩)
theorem call_t {f:FuncId} {xs:List AV} {d:Option Tmp} {O:AV→AS→Prop} (hu:CallT P f xs s O) (hK:∀v s',O v s'→K (s'.put d v)):acall P f xs s d K:=.inr (.inr (.inr (.inr ⟨O,hu,hK⟩)))
theorem callQ_f {f:FuncId} {xs:List AV} {H:AH} {k:AV→Prop} {zs:List FV} {r:FV} (hg:Good P f zs r) (hx:xs=zs.map .f) (hK:k (.f r)):acallQ P f xs H k:=by
 refine ⟨zs,r,⟨by rw [hx];simp,fun j x y h1 h2=>?_⟩,hg,.inl fun x hxm=>?_,hK⟩
 ·rw [hx,List.getElem?_map,h2] at h1
  cases h1;exact .f y
 ·rw [hx] at hxm
  obtain ⟨y,_,rfl⟩:=List.mem_map.1 hxm
  exact ⟨y,rfl⟩
theorem callQ_fr {f:FuncId} {xs:List AV} {H:AH} {k:AV→Prop} {zs:List FV} {r:FV} (hg:Good P f zs r) (hf:Fresh P f zs r) (hz:FrzL H xs zs) (hK:k (.f r)):acallQ P f xs H k:=⟨zs,r,hz,hg,.inr (.inr hf),hK⟩
end
theorem wrap_in {n:Int} (h0:-9223372036854775808≤n) (h1:n≤9223372036854775807):IntKind.i64.wrap n=n:=by rw [IntKind.wrap_i64];omega
theorem map_get {α:Type} (f:α→FV) (l:List α) {i:Nat} (h:i<l.length):(l.map f)[i]?=some (f l[i]):=by rw [List.getElem?_map,List.getElem?_eq_getElem h];rfl
theorem mm_get {α:Type} (g:α→FV) (l:List α) {i:Nat} (h:i<l.length):((l.map g).map AV.f)[i]?=some (.f (g l[i])):=by rw [List.getElem?_map,List.getElem?_map,List.getElem?_eq_getElem h];rfl
theorem tk_next {α β:Type} (f:α→β) (l:List α) {j:Nat} (h:j<l.length):(l.take j).map f++[f l[j]]=(l.take (j+1)).map f:=by
 rw [List.take_add_one,List.getElem?_eq_getElem h,List.map_append];rfl
theorem tk_all {α β:Type} (f:α→β) (l:List α) {n:Nat} (h:l.length≤n):(l.take n).map f=l.map f:=by rw [List.take_of_length_le h]
attribute [go_sem] athen_normal athen_exit athen_ret ablock_normal ablock_ret ablock_exit wrap_in msk_nil msk_cons sets_nil sets_cons weakL_nil weakL_any weakL_f weakL_own weakL_ptr
attribute [go_sem] weakH_nil weakH_none weakH_ob weakH_some weakL_sl objLt_f objLt_nil objLt_cons objLt_rep objLt_app lt0_f weakLr_nil weakLr_any weakLr_f weakLr_own weakLr_ptr
attribute [go_sem] weakHr_nil weakHr_none weakHr_some ren_f ren_own ren_ptr map_ren_f nth_zero nth_succ
end Go.Proofs.YtfjgijkhmhhkdaaGreatDoor
set_option linter.unusedVariables false
namespace Go.Proofs.YtfjgijkhmhhkdaaGreatDoor
open Go
@[go_sem] theorem ti2:tI Tryz.prog 2=some ⟨false,1,8,some (.v (.int .i64 0)),[],false,[]⟩:=by kernel_rfl
@[go_sem] theorem ti3:tI Tryz.prog 3=some ⟨false,1,8,some (.v (.int .i64 0)),[],false,[]⟩:=by kernel_rfl
@[go_sem] theorem ti4:tI Tryz.prog 4=some ⟨false,1,1,some (.v (.bool false)),[],false,[]⟩:=by kernel_rfl
@[go_sem] theorem ti5:tI Tryz.prog 5=some ⟨false,1,1,some (.v (.int .u8 0)),[],false,[]⟩:=by kernel_rfl
@[go_sem] theorem ti6:tI Tryz.prog 6=some ⟨false,1,1,some (.v (.int .u8 0)),[],false,[]⟩:=by kernel_rfl
@[go_sem] theorem ti7:tI Tryz.prog 7=some ⟨true,4,24,some (.agg [.v (.int .i64 0),.v (.int .i64 0),.v (.bool false),.v (.int .u8 0)]),[some 0,some 1,some 2,some 3],false,[1,1,1,1]⟩:=by kernel_rfl
@[go_sem] theorem fo7:fieldsOk Tryz.prog 7=true:=by kernel_rfl
@[go_sem] theorem ti8:tI Tryz.prog 8=some ⟨true,4,24,some (.agg [.v (.int .i64 0),.v (.int .i64 0),.v (.bool false),.v (.int .u8 0)]),[some 0,some 1,some 2,some 3],false,[1,1,1,1]⟩:=by kernel_rfl
@[go_sem] theorem fo8:fieldsOk Tryz.prog 8=true:=by kernel_rfl
@[go_sem] theorem ti9:tI Tryz.prog 9=some ⟨false,1,16,some (.v (.string ⟨#[]⟩)),[],true,[]⟩:=by kernel_rfl
@[go_sem] theorem ti10:tI Tryz.prog 10=some ⟨false,1,16,some (.v (.string ⟨#[]⟩)),[],true,[]⟩:=by kernel_rfl
@[go_sem] theorem ti11:tI Tryz.prog 11=some ⟨false,1,16,some (.v (.string ⟨#[]⟩)),[],true,[]⟩:=by kernel_rfl
@[go_sem] theorem ti12:tI Tryz.prog 12=some ⟨false,1,8,some (.v (.int .u64 0)),[],false,[]⟩:=by kernel_rfl
@[go_sem] theorem ti13:tI Tryz.prog 13=some ⟨true,2,24,some (.agg [.v (.string ⟨#[]⟩),.v (.int .u64 0)]),[some 0,some 1],false,[1,1]⟩:=by kernel_rfl
@[go_sem] theorem fo13:fieldsOk Tryz.prog 13=true:=by kernel_rfl
@[go_sem] theorem ti14:tI Tryz.prog 14=some ⟨true,2,24,some (.agg [.v (.string ⟨#[]⟩),.v (.int .u64 0)]),[some 0,some 1],false,[1,1]⟩:=by kernel_rfl
@[go_sem] theorem fo14:fieldsOk Tryz.prog 14=true:=by kernel_rfl
@[go_sem] theorem ti15:tI Tryz.prog 15=some ⟨false,1,8,some (.v (.pointer none)),[],false,[]⟩:=by kernel_rfl
@[go_sem] theorem ti16:tI Tryz.prog 16=some ⟨false,1,8,some (.v (.pointer none)),[],false,[]⟩:=by kernel_rfl
@[go_sem] theorem ti17:tI Tryz.prog 17=some ⟨false,1,8,some (.v (.pointer none)),[],false,[]⟩:=by kernel_rfl
@[go_sem] theorem ti18:tI Tryz.prog 18=some ⟨true,1,8,some (.agg [.v (.pointer none)]),[some 0],false,[1]⟩:=by kernel_rfl
@[go_sem] theorem fo18:fieldsOk Tryz.prog 18=true:=by kernel_rfl
@[go_sem] theorem ti19:tI Tryz.prog 19=some ⟨true,1,8,some (.agg [.v (.pointer none)]),[some 0],false,[1]⟩:=by kernel_rfl
@[go_sem] theorem fo19:fieldsOk Tryz.prog 19=true:=by kernel_rfl
@[go_sem] theorem ti21:tI Tryz.prog 21=some ⟨false,1,4,some (.v (.int .i32 0)),[],false,[]⟩:=by kernel_rfl
@[go_sem] theorem ti22:tI Tryz.prog 22=some ⟨false,1,24,some (.v (.slice none 0 0)),[],false,[]⟩:=by kernel_rfl
@[go_sem] theorem ti23:tI Tryz.prog 23=some ⟨false,1,24,some (.v (.slice none 0 0)),[],false,[]⟩:=by kernel_rfl
@[go_sem] theorem ti24:tI Tryz.prog 24=some ⟨true,3,72,some (.agg [.v (.slice none 0 0),.v (.slice none 0 0),.v (.slice none 0 0)]),[some 0,some 1,some 2],false,[1,1,1]⟩:=by kernel_rfl
@[go_sem] theorem fo24:fieldsOk Tryz.prog 24=true:=by kernel_rfl
@[go_sem] theorem ti25:tI Tryz.prog 25=some ⟨true,3,72,some (.agg [.v (.slice none 0 0),.v (.slice none 0 0),.v (.slice none 0 0)]),[some 0,some 1,some 2],false,[1,1,1]⟩:=by kernel_rfl
@[go_sem] theorem fo25:fieldsOk Tryz.prog 25=true:=by kernel_rfl
@[go_sem] theorem ti26:tI Tryz.prog 26=some ⟨false,1,24,some (.v (.slice none 0 0)),[],false,[]⟩:=by kernel_rfl
@[go_sem] theorem ti28:tI Tryz.prog 28=some ⟨false,1,16,some (.v (.string ⟨#[]⟩)),[],true,[]⟩:=by kernel_rfl
@[go_sem] theorem ti29:tI Tryz.prog 29=some ⟨true,3,40,some (.agg [.v (.bool false),.v (.string ⟨#[]⟩),.v (.string ⟨#[]⟩)]),[some 0,some 1,some 2],false,[1,1,1]⟩:=by kernel_rfl
@[go_sem] theorem fo29:fieldsOk Tryz.prog 29=true:=by kernel_rfl
@[go_sem] theorem ti30:tI Tryz.prog 30=some ⟨true,3,40,some (.agg [.v (.bool false),.v (.string ⟨#[]⟩),.v (.string ⟨#[]⟩)]),[some 0,some 1,some 2],false,[1,1,1]⟩:=by kernel_rfl
@[go_sem] theorem fo30:fieldsOk Tryz.prog 30=true:=by kernel_rfl
@[go_sem] theorem ti31:tI Tryz.prog 31=some ⟨false,1,8,some (.v (.int .i64 0)),[],false,[]⟩:=by kernel_rfl
@[go_sem] theorem ti41:tI Tryz.prog 41=some ⟨false,1,24,some (.v (.slice none 0 0)),[],false,[]⟩:=by kernel_rfl
@[go_sem] theorem ti42:tI Tryz.prog 42=some ⟨false,1,24,some (.v (.slice none 0 0)),[],false,[]⟩:=by kernel_rfl
@[go_sem] theorem ti43:tI Tryz.prog 43=some ⟨true,3,72,some (.agg [.v (.slice none 0 0),.v (.slice none 0 0),.v (.slice none 0 0)]),[some 0,some 1,some 2],false,[1,1,1]⟩:=by kernel_rfl
@[go_sem] theorem fo43:fieldsOk Tryz.prog 43=true:=by kernel_rfl
@[go_sem] theorem ti44:tI Tryz.prog 44=some ⟨true,3,72,some (.agg [.v (.slice none 0 0),.v (.slice none 0 0),.v (.slice none 0 0)]),[some 0,some 1,some 2],false,[1,1,1]⟩:=by kernel_rfl
@[go_sem] theorem fo44:fieldsOk Tryz.prog 44=true:=by kernel_rfl
@[go_sem] theorem ti71:tI Tryz.prog 71=some ⟨false,1,24,some (.v (.slice none 0 0)),[],false,[]⟩:=by kernel_rfl
@[go_sem] theorem ti72:tI Tryz.prog 72=some ⟨true,2,40,some (.agg [.v (.string ⟨#[]⟩),.v (.slice none 0 0)]),[some 0,some 1],false,[1,1]⟩:=by kernel_rfl
@[go_sem] theorem fo72:fieldsOk Tryz.prog 72=true:=by kernel_rfl
@[go_sem] theorem ti73:tI Tryz.prog 73=some ⟨true,2,40,some (.agg [.v (.string ⟨#[]⟩),.v (.slice none 0 0)]),[some 0,some 1],false,[1,1]⟩:=by kernel_rfl
@[go_sem] theorem fo73:fieldsOk Tryz.prog 73=true:=by kernel_rfl
@[go_sem] theorem ti98:tI Tryz.prog 98=some ⟨false,1,24,some (.v (.slice none 0 0)),[],false,[]⟩:=by kernel_rfl
@[go_sem] theorem ti99:tI Tryz.prog 99=some ⟨false,1,24,some (.v (.slice none 0 0)),[],false,[]⟩:=by kernel_rfl
@[go_sem] theorem ti100:tI Tryz.prog 100=some ⟨false,1,24,some (.v (.slice none 0 0)),[],false,[]⟩:=by kernel_rfl
@[go_sem] theorem ti102:tI Tryz.prog 102=some ⟨false,1,8,some (.v (.int .u64 0)),[],false,[]⟩:=by kernel_rfl
@[go_sem] theorem ti103:tI Tryz.prog 103=some ⟨false,1,4,some (.v (.int .u32 0)),[],false,[]⟩:=by kernel_rfl
@[go_sem] theorem ti104:tI Tryz.prog 104=some ⟨false,1,8,some (.v (.int .u64 0)),[],false,[]⟩:=by kernel_rfl
@[go_sem] theorem ti138:tI Tryz.prog 138=some ⟨false,1,8,some (.v (.pointer none)),[],false,[]⟩:=by kernel_rfl
@[go_sem] theorem ti155:tI Tryz.prog 155=some ⟨true,2,2,some (.agg [.v (.int .u8 0),.v (.int .u8 0)]),[some 0,some 1],false,[1,1]⟩:=by kernel_rfl
@[go_sem] theorem fo155:fieldsOk Tryz.prog 155=true:=by kernel_rfl
@[go_sem] theorem ti156:tI Tryz.prog 156=some ⟨true,2,2,some (.agg [.v (.int .u8 0),.v (.int .u8 0)]),[some 0,some 1],false,[1,1]⟩:=by kernel_rfl
@[go_sem] theorem fo156:fieldsOk Tryz.prog 156=true:=by kernel_rfl
@[go_sem] theorem ti161:tI Tryz.prog 161=some ⟨true,4,40,some (.agg [.v (.pointer none),.v (.pointer none),.v (.pointer none),.v (.string ⟨#[]⟩)]),[some 0,some 1,some 2,some 3],false,[1,1,1,1]⟩:=by kernel_rfl
@[go_sem] theorem fo161:fieldsOk Tryz.prog 161=true:=by kernel_rfl
@[go_sem] theorem ti162:tI Tryz.prog 162=some ⟨true,4,40,some (.agg [.v (.pointer none),.v (.pointer none),.v (.pointer none),.v (.string ⟨#[]⟩)]),[some 0,some 1,some 2,some 3],false,[1,1,1,1]⟩:=by kernel_rfl
@[go_sem] theorem fo162:fieldsOk Tryz.prog 162=true:=by kernel_rfl
@[go_sem] theorem ti164:tI Tryz.prog 164=some ⟨true,0,0,some (.agg []),[none],false,[0]⟩:=by kernel_rfl
@[go_sem] theorem fo164:fieldsOk Tryz.prog 164=true:=by kernel_rfl
@[go_sem] theorem ti165:tI Tryz.prog 165=some ⟨true,0,0,some (.agg []),[none],false,[0]⟩:=by kernel_rfl
@[go_sem] theorem fo165:fieldsOk Tryz.prog 165=true:=by kernel_rfl
@[go_sem] theorem ti167:tI Tryz.prog 167=some ⟨false,1,1,some (.v (.int .u8 0)),[],false,[]⟩:=by kernel_rfl
@[go_sem] theorem ti168:tI Tryz.prog 168=some ⟨false,1,1,some (.v (.int .u8 0)),[],false,[]⟩:=by kernel_rfl
@[go_sem] theorem ti170:tI Tryz.prog 170=some ⟨false,1,8,some (.v (.pointer none)),[],false,[]⟩:=by kernel_rfl
@[go_sem] theorem ti171:tI Tryz.prog 171=some ⟨false,1,4,some (.v (.int .i32 0)),[],false,[]⟩:=by kernel_rfl
@[go_sem] theorem ti172:tI Tryz.prog 172=some ⟨false,1,4,some (.v (.int .i32 0)),[],false,[]⟩:=by kernel_rfl
@[go_sem] theorem ts2:tS Tryz.prog 2=none:=by kernel_rfl
@[go_sem] theorem ts3:tS Tryz.prog 3=none:=by kernel_rfl
@[go_sem] theorem ts4:tS Tryz.prog 4=none:=by kernel_rfl
@[go_sem] theorem ts5:tS Tryz.prog 5=none:=by kernel_rfl
@[go_sem] theorem ts6:tS Tryz.prog 6=none:=by kernel_rfl
@[go_sem] theorem ts7:tS Tryz.prog 7=none:=by kernel_rfl
@[go_sem] theorem ts8:tS Tryz.prog 8=none:=by kernel_rfl
@[go_sem] theorem ts9:tS Tryz.prog 9=none:=by kernel_rfl
@[go_sem] theorem ts10:tS Tryz.prog 10=none:=by kernel_rfl
@[go_sem] theorem ts11:tS Tryz.prog 11=none:=by kernel_rfl
@[go_sem] theorem ts12:tS Tryz.prog 12=none:=by kernel_rfl
@[go_sem] theorem ts13:tS Tryz.prog 13=none:=by kernel_rfl
@[go_sem] theorem ts14:tS Tryz.prog 14=none:=by kernel_rfl
@[go_sem] theorem ts15:tS Tryz.prog 15=none:=by kernel_rfl
@[go_sem] theorem ts16:tS Tryz.prog 16=none:=by kernel_rfl
@[go_sem] theorem ts17:tS Tryz.prog 17=none:=by kernel_rfl
@[go_sem] theorem ts18:tS Tryz.prog 18=none:=by kernel_rfl
@[go_sem] theorem ts19:tS Tryz.prog 19=none:=by kernel_rfl
@[go_sem] theorem ts21:tS Tryz.prog 21=none:=by kernel_rfl
@[go_sem] theorem ts22:tS Tryz.prog 22=some (30,⟨true,3,40,some (.agg [.v (.bool false),.v (.string ⟨#[]⟩),.v (.string ⟨#[]⟩)]),[some 0,some 1,some 2],false,[1,1,1]⟩):=by kernel_rfl
@[go_sem] theorem ts23:tS Tryz.prog 23=some (22,⟨false,1,24,some (.v (.slice none 0 0)),[],false,[]⟩):=by kernel_rfl
@[go_sem] theorem ts24:tS Tryz.prog 24=none:=by kernel_rfl
@[go_sem] theorem ts25:tS Tryz.prog 25=none:=by kernel_rfl
@[go_sem] theorem ts26:tS Tryz.prog 26=some (3,⟨false,1,8,some (.v (.int .i64 0)),[],false,[]⟩):=by kernel_rfl
@[go_sem] theorem ts28:tS Tryz.prog 28=none:=by kernel_rfl
@[go_sem] theorem ts29:tS Tryz.prog 29=none:=by kernel_rfl
@[go_sem] theorem ts30:tS Tryz.prog 30=none:=by kernel_rfl
@[go_sem] theorem ts31:tS Tryz.prog 31=none:=by kernel_rfl
@[go_sem] theorem ts41:tS Tryz.prog 41=some (73,⟨true,2,40,some (.agg [.v (.string ⟨#[]⟩),.v (.slice none 0 0)]),[some 0,some 1],false,[1,1]⟩):=by kernel_rfl
@[go_sem] theorem ts42:tS Tryz.prog 42=some (26,⟨false,1,24,some (.v (.slice none 0 0)),[],false,[]⟩):=by kernel_rfl
@[go_sem] theorem ts43:tS Tryz.prog 43=none:=by kernel_rfl
@[go_sem] theorem ts44:tS Tryz.prog 44=none:=by kernel_rfl
@[go_sem] theorem ts71:tS Tryz.prog 71=some (9,⟨false,1,16,some (.v (.string ⟨#[]⟩)),[],true,[]⟩):=by kernel_rfl
@[go_sem] theorem ts72:tS Tryz.prog 72=none:=by kernel_rfl
@[go_sem] theorem ts73:tS Tryz.prog 73=none:=by kernel_rfl
@[go_sem] theorem ts98:tS Tryz.prog 98=some (5,⟨false,1,1,some (.v (.int .u8 0)),[],false,[]⟩):=by kernel_rfl
@[go_sem] theorem ts99:tS Tryz.prog 99=some (103,⟨false,1,4,some (.v (.int .u32 0)),[],false,[]⟩):=by kernel_rfl
@[go_sem] theorem ts100:tS Tryz.prog 100=some (103,⟨false,1,4,some (.v (.int .u32 0)),[],false,[]⟩):=by kernel_rfl
@[go_sem] theorem ts102:tS Tryz.prog 102=none:=by kernel_rfl
@[go_sem] theorem ts103:tS Tryz.prog 103=none:=by kernel_rfl
@[go_sem] theorem ts104:tS Tryz.prog 104=none:=by kernel_rfl
@[go_sem] theorem ts138:tS Tryz.prog 138=none:=by kernel_rfl
@[go_sem] theorem ts155:tS Tryz.prog 155=none:=by kernel_rfl
@[go_sem] theorem ts156:tS Tryz.prog 156=none:=by kernel_rfl
@[go_sem] theorem ts161:tS Tryz.prog 161=none:=by kernel_rfl
@[go_sem] theorem ts162:tS Tryz.prog 162=none:=by kernel_rfl
@[go_sem] theorem ts164:tS Tryz.prog 164=none:=by kernel_rfl
@[go_sem] theorem ts165:tS Tryz.prog 165=none:=by kernel_rfl
@[go_sem] theorem ts167:tS Tryz.prog 167=none:=by kernel_rfl
@[go_sem] theorem ts168:tS Tryz.prog 168=none:=by kernel_rfl
@[go_sem] theorem ts170:tS Tryz.prog 170=none:=by kernel_rfl
@[go_sem] theorem ts171:tS Tryz.prog 171=none:=by kernel_rfl
@[go_sem] theorem ts172:tS Tryz.prog 172=none:=by kernel_rfl
theorem mixed:Tryz.prog.follows .mixedOrders=true:=by kernel_rfl
end Go.Proofs.YtfjgijkhmhhkdaaGreatDoor
