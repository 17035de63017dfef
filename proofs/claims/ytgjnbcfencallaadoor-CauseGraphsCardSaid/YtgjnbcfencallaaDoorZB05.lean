/- The abstract machine, fifteenth part: the moves of a walk. Conditions: none. -/
import Derived.Test.YtgjnbcfencallaaDoorZAmM
import Derived.RangeFuncIn
import Derived.RangeFuncRecord
import Derived.RangeFuncSeq
import Derived.Test.YtgjnbcfencallaaDoorZB00
import Derived.BigRegion
import Derived.Deep.DeepCutAuto
import Derived.Deep.RegionHeld3
set_option linter.unusedVariables false
set_option linter.unusedSimpArgs false
namespace Go.Proofs.YtgjnbcfencallaaDoor
open Go Go.RowKit

def Kont (K A:AS→Prop):Prop:=∀s,A s→K s
theorem Kont.go {K A:AS→Prop} {s:AS} (h:Kont K A) (ha:A s):K s:=h s ha
section
variable {X : Cx} {P : Program} {Q : Exit → AS → Prop} {s s' : AS} {K : AS → Prop}
theorem W_seq {x y:Code} (h:∀K:AS→Prop,Kont K (fun s=>J X P y Q s)→J X P x (athen K Q) s):J X P (.seq x y) Q s:=J_seq h
theorem athen_normal {n:AS→Prop}:athen n Q .normal s=n s:=(rfl)
theorem athen_exit {n:AS→Prop} {i:Nat}:athen n Q (.exit i) s=Q (.exit i) s:=(rfl)
theorem athen_ret {n:AS→Prop}:athen n Q .ret s=Q .ret s:=(rfl)
theorem ablock_normal {i:Nat}:ablock i Q .normal s=Q .normal s:=(rfl)
theorem ablock_ret {i:Nat}:ablock i Q .ret s=Q .ret s:=(rfl)
theorem ablock_exit {i j:Nat}:ablock i Q (.exit j) s=if j=i then Q .normal s else Q (.exit j) s:=(rfl)
theorem W_cond {c:Operand} {x y:Code} (t:Bool) (hc:s.ev c=.f (.v (.bool t))) (h1:t=true→J X P x Q s) (h2:t=false→J X P y Q s):J X P (.cond c x y) Q s:=J_cond hc h1 h2
theorem W_true {c:Operand} {x y:Code} (hc:s.ev c=.f (.v (.bool true))) (h1:J X P x Q s):J X P (.cond c x y) Q s:=J_cond hc (fun _=>h1) (fun h=>by cases h)
theorem W_false {c:Operand} {x y:Code} (hc:s.ev c=.f (.v (.bool false))) (h1:J X P y Q s):J X P (.cond c x y) Q s:=J_cond hc (fun h=>by cases h) (fun _=>h1)
def Jc (v:AV) (X:Cx) (P:Program) (c:Operand) (x y:Code) (Q:Exit→AS→Prop) (s:AS):Prop:=s.ev c=v→J X P (.cond c x y) Q s
theorem J_c {c:Operand} {x y:Code} (h:Jc (s.ev c) X P c x y Q s):J X P (.cond c x y) Q s:=h rfl
theorem Jc_true {c:Operand} {x y:Code} (h:J X P x Q s):Jc (.f (.v (.bool true))) X P c x y Q s:=fun hc=>W_true hc h
theorem Jc_false {c:Operand} {x y:Code} (h:J X P y Q s):Jc (.f (.v (.bool false))) X P c x y Q s:=fun hc=>W_false hc h
theorem Jc_if {c:Operand} {x y:Code} {b:Bool} (h1:b=true→J X P x Q s) (h2:b=false→J X P y Q s):Jc (.f (.v (.bool b))) X P c x y Q s:=fun hc=>W_cond b hc h1 h2
def WeakL (N:Nat):List AV→List AV→Prop
 | [],[]=>True
 | a::l,b::m=>(b=.any∨(b=a∧b.lt0 N=true))∧WeakL N l m
 | _,_=>False
def objLt (N:Nat) (o:AO):Prop:=∀e∈o.es,e.lt0 N=true
def WeakH (N:Nat):AH→AH→Prop
 | _,[]=>True
 | a::l,b::m=>(match b with|none=>True|some o=>a=some o∧objLt N o)∧WeakH N l m
 | _,_=>False
theorem weakL {N:Nat} {l m:List AV} (h:WeakL N l m):m.length=l.length∧∀(j:Nat) x,m[j]?=some x→x=.any∨(l[j]?=some x∧x.lt0 N=true):=by
 induction l generalizing m with
 | nil=>cases m with
  | nil=>exact ⟨rfl,fun j x h=>by simp at h⟩
  | cons b m=>exact h.elim
 | cons a l ih=>cases m with
  | nil=>exact h.elim
  | cons b m =>
   obtain ⟨h1,h2⟩:=h
   obtain ⟨h3,h4⟩:=ih h2
   refine ⟨by simp [h3],fun j x hj=>?_⟩
   cases j with
   | zero =>
    simp at hj;subst hj
    rcases h1 with h1|⟨h1,h5⟩
    ·exact .inl h1
    ·exact .inr ⟨by simp [h1],h5⟩
   | succ j=>simpa using h4 j x (by simpa using hj)
theorem weakH {N:Nat} {l m:AH} (h:WeakH N l m):m.length≤l.length∧∀(r:Nat) o,m[r]?=some (some o)→l[r]?=some (some o)∧∀e∈o.es,e.lt0 N=true:=by
 induction m generalizing l with
 | nil=>exact ⟨Nat.zero_le _,fun j x h=>by simp at h⟩
 | cons b m ih=>cases l with
  | nil=>exact h.elim
  | cons a l =>
   obtain ⟨h1,h2⟩:=h
   obtain ⟨h3,h4⟩:=ih h2
   refine ⟨by simp;omega,fun j x hj=>?_⟩
   cases j with
   | zero =>
    simp at hj;subst hj
    exact ⟨by simpa using h1.1,h1.2⟩
   | succ j=>simpa using h4 j x (by simpa using hj)
theorem weak_of {t t':List AV} {H H':AH} (h1:WeakL H'.length t t') (h2:WeakH H'.length H H'):Weak ⟨t,H⟩ ⟨t',H'⟩:=by
 refine ⟨fun r=>r,(weakL h1).1,fun j x hj=>?_,fun r o hr=>?_,fun r r' _ _ h=>h⟩
 ·rw [ren_id];exact (weakL h1).2 j x hj
 ·have e:o.es.map (AV.ren fun r=>r)=o.es:=by
   rw [List.map_congr_left (fun x _=>ren_id),List.map_id'']
   exact fun _=>rfl
  rw [e];exact (weakH h2).2 r o hr
def WeakLr (g:Nat→Nat) (N:Nat):List AV→List AV→Prop
 | [],[]=>True
 | a::l,b::m=>(b=.any∨(b.ren g=a∧b.lt0 N=true))∧WeakLr g N l m
 | _,_=>False
def WeakHr (g:Nat→Nat) (N:Nat) (H:AH):Nat→AH→Prop
 | _,[]=>True
 | i,b::m=>(match b with|none=>True|some o=>H[g i]?=some (some ⟨o.e,o.sz,o.es.map (AV.ren g)⟩)∧objLt N o)∧WeakHr g N H (i+1) m
theorem weakLr {g:Nat→Nat} {N:Nat} {l m:List AV} (h:WeakLr g N l m):m.length=l.length∧∀(j:Nat) x,m[j]?=some x→x=.any∨(l[j]?=some (x.ren g)∧x.lt0 N=true):=by
 induction l generalizing m with
 | nil=>cases m with
  | nil=>exact ⟨rfl,fun j x h=>by simp at h⟩
  | cons b m=>exact h.elim
 | cons a l ih=>cases m with
  | nil=>exact h.elim
  | cons b m =>
   obtain ⟨h1,h2⟩:=h
   obtain ⟨h3,h4⟩:=ih h2
   refine ⟨by simp [h3],fun j x hj=>?_⟩
   cases j with
   | zero =>
    simp at hj;subst hj
    rcases h1 with h1|⟨h1,h5⟩
    ·exact .inl h1
    ·exact .inr ⟨by simp [h1],h5⟩
   | succ j=>simpa using h4 j x (by simpa using hj)
theorem weakHr {g:Nat→Nat} {N:Nat} {H m:AH} {i:Nat} (h:WeakHr g N H i m):∀(r:Nat) o,m[r]?=some (some o)→H[g (i+r)]?=some (some ⟨o.e,o.sz,o.es.map (AV.ren g)⟩)∧∀e∈o.es,e.lt0 N=true:=by
 induction m generalizing i with
 | nil=>exact fun j x h=>by simp at h
 | cons b m ih =>
  obtain ⟨h1,h2⟩:=h
  intro j x hj
  cases j with
  | zero =>
   simp at hj;subst hj
   exact ⟨h1.1,h1.2⟩
  | succ j =>
   have:=ih h2 j x (by simpa using hj)
   rwa [show i+(j+1)=i+1+j by omega]
def nth (σ:List Nat) (r:Nat):Nat:=σ.getD r 0
theorem weak_ren (σ:List Nat) {t t':List AV} {H H':AH} (h0:σ.Nodup∧H'.length≤σ.length) (h1:WeakLr (nth σ) H'.length t t') (h2:WeakHr (nth σ) H'.length H 0 H'):Weak ⟨t,H⟩ ⟨t',H'⟩:=by
 refine ⟨nth σ,(weakLr h1).1,(weakLr h1).2,fun r o hr=>?_,fun r r' hr hr' h=>?_⟩
 ·have:=weakHr h2 r o hr
  rwa [Nat.zero_add] at this
 ·have a1:r<σ.length:=Nat.lt_of_lt_of_le hr h0.2
  have a2:r'<σ.length:=Nat.lt_of_lt_of_le hr' h0.2
  unfold nth at h
  rw [List.getD_eq_getElem?_getD,List.getD_eq_getElem?_getD,List.getElem?_eq_getElem a1,List.getElem?_eq_getElem a2] at h
  exact (List.getElem_inj h0.1).1 h
theorem weakLr_nil (g:Nat→Nat) (N:Nat):WeakLr g N [] []=True:=(rfl)
theorem weakLr_any (g:Nat→Nat) (N:Nat) (a:AV) (l m:List AV):WeakLr g N (a::l) (.any::m)=WeakLr g N l m:=propext ⟨fun h=>h.2,fun h=>⟨.inl rfl,h⟩⟩
theorem weakLr_f (g:Nat→Nat) (N:Nat) (a:AV) (b:FV) (l m:List AV):WeakLr g N (a::l) (.f b::m)=(AV.f b=a∧WeakLr g N l m):=propext ⟨fun h=>⟨(h.1.resolve_left (by simp)).1,h.2⟩,fun h=>⟨.inr ⟨h.1,rfl⟩,h.2⟩⟩
theorem weakLr_own (g:Nat→Nat) (N r sz o k:Nat) (a:AV) (l m:List AV):WeakLr g N (a::l) (.own r sz o k::m)=(AV.own (g r) sz o k=a∧r<N∧WeakLr g N l m):=propext ⟨fun h=>⟨(h.1.resolve_left (by simp)).1,of_decide_eq_true (h.1.resolve_left (by simp)).2,h.2⟩,fun h=>⟨.inr ⟨h.1,decide_eq_true h.2.1⟩,h.2.2⟩⟩
theorem weakLr_ptr (g:Nat→Nat) (N r sz i j:Nat) (a:AV) (l m:List AV):WeakLr g N (a::l) (.ptr r sz i j::m)=(AV.ptr (g r) sz i j=a∧r<N∧WeakLr g N l m):=propext ⟨fun h=>⟨(h.1.resolve_left (by simp)).1,of_decide_eq_true (h.1.resolve_left (by simp)).2,h.2⟩,fun h=>⟨.inr ⟨h.1,decide_eq_true h.2.1⟩,h.2.2⟩⟩
theorem weakHr_nil (g:Nat→Nat) (N i:Nat) (H:AH):WeakHr g N H i []=True:=(rfl)
theorem weakHr_none (g:Nat→Nat) (N i:Nat) (H m:AH):WeakHr g N H i (none::m)=WeakHr g N H (i+1) m:=propext ⟨fun h=>h.2,fun h=>⟨trivial,h⟩⟩
theorem weakHr_some (g:Nat→Nat) (N i:Nat) (o:AO) (H m:AH):WeakHr g N H i (some o::m)=((H[g i]?=some (some ⟨o.e,o.sz,o.es.map (AV.ren g)⟩)∧objLt N o)∧WeakHr g N H (i+1) m):=(rfl)
theorem ren_f (g:Nat→Nat) (x:FV):(AV.f x).ren g=.f x:=(rfl)
theorem ren_own (g:Nat→Nat) (r sz o k:Nat):(AV.own r sz o k).ren g=.own (g r) sz o k:=(rfl)
theorem ren_ptr (g:Nat→Nat) (r sz i j:Nat):(AV.ptr r sz i j).ren g=.ptr (g r) sz i j:=(rfl)
theorem map_ren_f (g:Nat→Nat) (l:List FV):(l.map AV.f).map (AV.ren g)=l.map AV.f:=by rw [List.map_map];rfl
theorem nth_zero (a:Nat) (l:List Nat):nth (a::l) 0=a:=(rfl)
theorem nth_succ (a i:Nat) (l:List Nat):nth (a::l) (i+1)=nth l i:=(rfl)
theorem lt0_f (N:Nat) (x:FV):(AV.f x).lt0 N=true:=(rfl)
theorem weakL_nil (N:Nat):WeakL N [] []=True:=(rfl)
theorem weakL_any (N:Nat) (a:AV) (l m:List AV):WeakL N (a::l) (.any::m)=WeakL N l m:=propext ⟨fun h=>h.2,fun h=>⟨.inl rfl,h⟩⟩
theorem weakL_f (N:Nat) (a:AV) (b:FV) (l m:List AV):WeakL N (a::l) (.f b::m)=(AV.f b=a∧WeakL N l m):=propext ⟨fun h=>⟨(h.1.resolve_left (by simp)).1,h.2⟩,fun h=>⟨.inr ⟨h.1,rfl⟩,h.2⟩⟩
theorem weakL_own (N r sz o k:Nat) (a:AV) (l m:List AV):WeakL N (a::l) (.own r sz o k::m)=(AV.own r sz o k=a∧r<N∧WeakL N l m):=propext ⟨fun h=>⟨(h.1.resolve_left (by simp)).1,of_decide_eq_true (h.1.resolve_left (by simp)).2,h.2⟩,fun h=>⟨.inr ⟨h.1,decide_eq_true h.2.1⟩,h.2.2⟩⟩
theorem weakL_ptr (N r sz i j:Nat) (a:AV) (l m:List AV):WeakL N (a::l) (.ptr r sz i j::m)=(AV.ptr r sz i j=a∧r<N∧WeakL N l m):=propext ⟨fun h=>⟨(h.1.resolve_left (by simp)).1,of_decide_eq_true (h.1.resolve_left (by simp)).2,h.2⟩,fun h=>⟨.inr ⟨h.1,decide_eq_true h.2.1⟩,h.2.2⟩⟩
theorem weakL_sl (N r sz:Nat) (fs:List FV) (a:AV) (l m:List AV) (h:r<N):WeakL N (a::l) (sl r sz fs::m)=(sl r sz fs=a∧WeakL N l m):=by
 have e:(sl r sz fs).lt0 N=true:=by cases fs<;>first|rfl|exact decide_eq_true h
 refine propext ⟨fun h=>⟨?_,h.2⟩,fun h=>⟨.inr ⟨h.1,e⟩,h.2⟩⟩
 rcases h.1 with h|h
 ·cases fs<;>cases h
 ·exact h.1
theorem weakH_nil (N:Nat) (l:AH):WeakH N l []=True:=by unfold WeakH;rfl
theorem weakH_none (N:Nat) (a:Option AO) (l m:AH):WeakH N (a::l) (none::m)=WeakH N l m:=propext ⟨fun h=>h.2,fun h=>⟨trivial,h⟩⟩
theorem weakH_some (N:Nat) (a:Option AO) (o:AO) (l m:AH):WeakH N (a::l) (some o::m)=((a=some o∧objLt N o)∧WeakH N l m):=(rfl)
theorem weakH_ob (N:Nat) (e:TypeId) (sz:Nat) (fs:List FV) (a:Option AO) (l m:AH):WeakH N (a::l) (ob e sz fs::m)=((fs=[]∨a=ob e sz fs)∧WeakH N l m):=by
 cases fs with
 | nil=>exact propext ⟨fun h=>⟨.inl rfl,h.2⟩,fun h=>⟨trivial,h.2⟩⟩
 | cons b fs=>exact propext ⟨fun h=>⟨.inr h.1.1,h.2⟩,fun h=>⟨⟨h.1.resolve_left (by simp),fun x hx=>by obtain ⟨y,_,rfl⟩:=List.mem_map.1 (show x∈List.map AV.f (b::fs) from hx);rfl⟩,h.2⟩⟩
theorem objLt_f (N:Nat) (e:TypeId) (sz:Nat) (es:List FV):objLt N ⟨e,sz,es.map .f⟩=True:=propext ⟨fun _=>trivial,fun _ x hx=>by obtain ⟨y,_,rfl⟩:=List.mem_map.1 hx;rfl⟩
theorem objLt_nil (N:Nat) (e:TypeId) (sz:Nat):objLt N ⟨e,sz,[]⟩=True:=propext ⟨fun _=>trivial,fun _ x hx=>by cases hx⟩
theorem objLt_cons (N:Nat) (e:TypeId) (sz:Nat) (a:AV) (l:List AV):objLt N ⟨e,sz,a::l⟩=(a.lt0 N=true∧objLt N ⟨e,sz,l⟩):=propext ⟨fun h=>⟨h a (by simp),fun x hx=>h x (by simp [show x∈l from hx])⟩,fun h x hx=>by
 rcases List.mem_cons.1 (show x∈a::l from hx) with rfl|hx
 ·exact h.1
 ·exact h.2 x hx⟩
theorem objLt_rep (N:Nat) (e:TypeId) (sz n:Nat) (x:FV):objLt N ⟨e,sz,List.replicate n (.f x)⟩=True:=propext ⟨fun _=>trivial,fun _ y hy=>by rw [List.eq_of_mem_replicate hy];rfl⟩
theorem objLt_app (N:Nat) (e:TypeId) (sz:Nat) (a b:List AV):objLt N ⟨e,sz,a++b⟩=(objLt N ⟨e,sz,a⟩∧objLt N ⟨e,sz,b⟩):=propext ⟨fun h=>⟨fun x hx=>h x (List.mem_append.2 (.inl hx)),fun x hx=>h x (List.mem_append.2 (.inr hx))⟩,fun h x hx=>by
 rcases List.mem_append.1 (show x∈a++b from hx) with hx|hx
 ·exact h.1 x hx
 ·exact h.2 x hx⟩
theorem FrzL.fs {H:List (Option AO)} (ds:List FV):FrzL H (ds.map .f) ds:=⟨by simp,fun j x y hx hy=>by
 rw [List.getElem?_map,hy] at hx;cases hx;exact .f _⟩
def msk (ws:List Nat) (l:List AV):List AV:=ws.foldl (fun l i=>l.set i .any) l
def sets (up:List (Nat × AV)) (l:List AV):List AV:=up.foldl (fun l p=>l.set p.1 p.2) l
theorem msk_nil (l:List AV):msk [] l=l:=(rfl)
theorem msk_cons (i:Nat) (ws:List Nat) (l:List AV):msk (i::ws) l=msk ws (l.set i .any):=(rfl)
theorem sets_nil (l:List AV):sets [] l=l:=(rfl)
theorem sets_cons (p:Nat × AV) (up:List (Nat × AV)) (l:List AV):sets (p::up) l=sets up (l.set p.1 p.2):=(rfl)
theorem W_loop {c:Code} {γ:Type} {t:List AV} {H:AH} (ws:List Nat) (up:γ→List (Nat × AV)) (hp:γ→AH) (I:γ→Prop) (μ:γ→Nat) (x0:γ) (h0:I x0) (hw:Weak ⟨t,H⟩ ⟨sets (up x0) (msk ws t),hp x0⟩)
  (round:∀x,I x→J X P c (athen (fun s=>∃y,I y∧μ y<μ x∧Weak s ⟨sets (up y) (msk ws t),hp y⟩) Q) ⟨sets (up x) (msk ws t),hp x⟩):J X P (.loop c) Q ⟨t,H⟩ :=
 J_loop (fun x=>⟨sets (up x) (msk ws t),hp x⟩) I μ x0 h0 hw round
theorem J_mono {c:Code} {Q Q':Exit→AS→Prop} {s:AS} (h:J X P c Q s) (hq:∀e s,Q e s→Q' e s):J X P c Q' s:=fun hk a w R=>wpIn_mono (h hk a w R) fun e a w ⟨s,hs,hr⟩=>⟨s,hq e s hs,hr⟩
theorem call_f {f:FuncId} {xs:List AV} {d:Option Tmp} {zs:List FV} {r:FV} (hg:Good P f zs r) (hx:xs=zs.map .f) (hK:K (s.put d (.f r))):acall P f xs s d K:=by
 refine .inl ⟨zs,r,⟨by rw [hx];simp,fun j x y h1 h2=>?_⟩,hg,.inl fun x hxm=>?_,hK⟩
 ·rw [hx,List.getElem?_map,h2] at h1
  cases h1;exact .f y
 ·rw [hx] at hxm
  obtain ⟨y,_,rfl⟩:=List.mem_map.1 hxm
  exact ⟨y,rfl⟩
theorem call_fl {f:FuncId} {xs:List AV} {d:Option Tmp} {zs:List FV} {r:FV} (hg:Good P f zs r) (hf:FlatF r) (hz:FrzL s.H xs zs) (hK:K (s.put d (.f r))):acall P f xs s d K:=.inl ⟨zs,r,hz,hg,.inr hf,hK⟩
theorem call_o {f:FuncId} {xs:List AV} {d:Option Tmp} {zs:List FV} {r:RV} (hg:GoodO P f zs r) (hz:FrzL s.H xs zs) (hK:K (AS.put ⟨s.t,s.H++r.hp⟩ d (r.av s.H.length))):acall P f xs s d K:=.inr (.inl ⟨zs,r,hz,hg,hK⟩)
theorem call_ot {f:FuncId} {xs:List AV} {d:Option Tmp} {zs:List FV} {r:RV} {rs:List FV} (hg:GoodOT P f zs r rs) (hz:FrzL s.H xs zs) (hK:K (AS.put ⟨s.t,s.H++r.hp⟩ d (.tup (r.av s.H.length::rs.map .f)))):acall P f xs s d K:=.inr (.inr (.inl ⟨zs,r,rs,hz,hg,hK⟩))
theorem call_u {f:FuncId} {xs:List AV} {d:Option Tmp} {v:AV} {H':AH} (hu:CallU P f xs s.H (fun u G=>u=v∧G=H')) (hK:K (AS.put ⟨s.t,H'⟩ d v)):acall P f xs s d K:=.inr (.inr (.inr (.inr ⟨_,hu,fun u G h=>by rw [h.1,h.2];exact hK⟩)))
theorem call_uo {f:FuncId} {xs:List AV} {d:Option Tmp} {O:AV→AH→Prop} (hu:CallU P f xs s.H O) (hK:∀v H',O v H'→K (AS.put ⟨s.t,H'⟩ d v)):acall P f xs s d K:=.inr (.inr (.inr (.inr ⟨O,hu,hK⟩)))
theorem callQ_f {f:FuncId} {xs:List AV} {H:AH} {k:AV→Prop} {zs:List FV} {r:FV} (hg:Good P f zs r) (hx:xs=zs.map .f) (hK:k (.f r)):acallQ P f xs H k:=by
 refine ⟨zs,r,⟨by rw [hx];simp,fun j x y h1 h2=>?_⟩,hg,.inl fun x hxm=>?_,hK⟩
 ·rw [hx,List.getElem?_map,h2] at h1
  cases h1;exact .f y
 ·rw [hx] at hxm
  obtain ⟨y,_,rfl⟩:=List.mem_map.1 hxm
  exact ⟨y,rfl⟩
theorem callQ_fl {f:FuncId} {xs:List AV} {H:AH} {k:AV→Prop} {zs:List FV} {r:FV} (hg:Good P f zs r) (hf:FlatF r) (hz:FrzL H xs zs) (hK:k (.f r)):acallQ P f xs H k:=⟨zs,r,hz,hg,.inr hf,hK⟩
end
theorem wrap_in {n:Int} (h0:-9223372036854775808≤n) (h1:n≤9223372036854775807):IntKind.i64.wrap n=n:=by rw [IntKind.wrap_i64];omega
theorem map_get {α:Type} (f:α→FV) (l:List α) {i:Nat} (h:i<l.length):(l.map f)[i]?=some (f l[i]):=by rw [List.getElem?_map,List.getElem?_eq_getElem h];rfl
attribute [go_sem] athen_normal athen_exit athen_ret ablock_normal ablock_ret ablock_exit wrap_in msk_nil msk_cons sets_nil sets_cons weakL_nil weakL_any weakL_f weakL_own weakL_ptr
attribute [go_sem] weakH_nil weakH_none weakH_ob weakH_some weakL_sl objLt_f objLt_nil objLt_cons objLt_rep objLt_app lt0_f weakLr_nil weakLr_any weakLr_f weakLr_own weakLr_ptr
attribute [go_sem] weakHr_nil weakHr_none weakHr_some ren_f ren_own ren_ptr map_ren_f nth_zero nth_succ
end Go.Proofs.YtgjnbcfencallaaDoor
set_option linter.unusedVariables false
set_option linter.unusedSimpArgs false
namespace Go.Proofs.YtgjnbcfencallaaDoor
open Go Go.RowKit
def IterW (P:Program) (gf:FuncId) (la:Array Value) (xs:List Int):Prop :=
 ∀(l:Nat) (I:Nat→World→Prop) (Ix:World→Prop) (W:World),(∀i W1,I i W1→TabW W1)→I 0 W →
  (∀(i:Nat) x W1,xs[i]?=some x→I i W1→YieldAt Fence.wide 7 P l #[.int .i64 x] W1 fun e W'=>(e=.returned (.bool true)∧I (i+1) W')∨(e=.returned (.bool false)∧Ix W')) →
  CallsIn Fence.wide 8 P gf (la++#[.func (.yield l) #[] #[]]) W fun e W'=>(∃v,e=.returned v)∧(I xs.length W'∨Ix W')
def rpost (T:List AV) (H:AH) (Qr:AS→Prop):Exit→AS→Prop
 | .normal,s=>Weak s ⟨T,H⟩
 | .ret,s=>∃H',Weak s ⟨T,H'⟩∧Qr ⟨T,H'⟩
 | _,_=>False
section
variable {P : Program} {X : Cx} {w : World} {F : Nat → Prop} {loc : Nat → Nat × Nat} {s : AS} {a : Act}
theorem RelF.allocO (R:RelF X F loc s a w) (o:Obj):RelF X F loc s a (w.alloc o) :=
 R.step (beyond_alloc w o) (fun _ h=>h) (fun b h=>by have:=R.hF b h;simp;omega) (fun _ h=>.inl h)
theorem RelF.enter (R:RelF X F loc s a w) (a':Act) (rd:Option Nat) (kp:Nat→Bool) (tm:Array Value) {s':AS} (hH:s'.H=s.H) (hlen:s'.t.length=a'.tmps.size) (hd:a'.defers=[])
  (hk:∀j,kp j=true→a'.tmps.getD j undef=tm.getD j undef) (ht:∀(j:Nat) x,s'.t[j]?=some x→Rep w F loc s.H.length x (a'.tmps.getD j undef)) :
  RelF ⟨w,F,fun b=>Live s loc b,rd,kp,tm,X.hold⟩ F loc s' a' w:=by
 refine ⟨R.hF,fun _ h=>h,fun _ h=>.inl h,Beyond.refl _ _,⟨by rw [hd];exact DefOk.nil,hk,fun _=>hd,⟨R.tabW,fun t ht ⟨r,o,hr,e⟩=>R.tabO t ht r o hr e⟩,R.defers.2.2.2.2⟩,hlen,fun j x h=>by rw [hH];exact ht j x h,fun r o h=>by rw [hH] at h ⊢;exact R.obj r o h,fun r o h=>?_,fun r o h=>by rw [hH] at h;exact R.nF r o h,fun r r' o o' h h' e=>by rw [hH] at h h';exact R.inj r r' o o' h h' e⟩
 rw [hH] at h
 exact .inr ⟨r,o,h,rfl⟩
theorem own_cells (R:RelF X F loc s a w) {r:Nat} {o:AO} (h:s.H[r]?=some (some o)):∃vs,w.heap[(loc r).1]?=some (.cells vs o.e (0,0)):=by
 obtain ⟨_,vs,hv,_⟩:=R.obj r o h
 exact ⟨vs,hv⟩
theorem RelF.leave (R:RelF X F loc s a w) {rd:Option Nat} {kp:Nat→Bool} {F':Nat→Prop} {loc':Nat→Nat × Nat} {s':AS} {a':Act} {w0 w':World} {G:Nat→Prop} {l:Nat} (hl:X.w0.heap.size≤l) (hFl:¬F l) (hb:Beyond (fun b=>Live s loc b∨w.heap.size≤b∨b=l) w w')
  (hG:∀b,F b→G b) (hGw:∀b,G b→F b∨Live s loc b∨w.heap.size≤b) {O:Nat→Prop} (hO:∀b,O b→Live s loc b∨w.heap.size≤b) (hw0:w.heap.size≤w0.heap.size)
  (R':RelF ⟨w0,G,O,rd,kp,a.tmps,X.hold⟩ F' loc' s' a' w') (ht:∀(j:Nat) x,s'.t[j]?=some x→x=.any∨kp j=true) (hlen:s'.t.length=a.tmps.size):RelF X F' loc' s' a w':=by
 have hnl:∀b,F b→¬Live s loc b:=fun b hf ⟨r,o,h,e⟩=>R.nF r o h (e▸hf)
 have hback:∀b,(G b∨O b∨w0.heap.size≤b)→X.G b∨X.O b∨X.w0.heap.size≤b:=fun b h=>by
  have hbig:=R.below.size
  rcases h with h|h|h
  ·rcases hGw b h with h|⟨r,o,hr,e⟩|h
   ·exact R.hN b h
   ·rw [←e];exact .inr (R.new r o hr).symm
   ·exact .inr (.inr (by omega))
  ·rcases hO b h with ⟨r,o,hr,e⟩|h
   ·rw [←e];exact .inr (R.new r o hr).symm
   ·exact .inr (.inr (by omega))
  ·exact .inr (.inr (by omega))
 refine ⟨R'.hF,fun b h=>R'.hG b (hG b (R.hG b h)),fun b h=>hback b (R'.hN b h),R.below.trans ⟨hb.os,hb.tape,hb.output,hb.size,fun k hk hno=>hb.block k hk fun h=>?_⟩,R.defers.mono (fun b h=>R'.hG b (hG b h)) (fun b h=>hb.block b (R.hF b h) fun h'=>?_),hlen,fun j x h=>?_,R'.obj,fun r o h=>?_,R'.nF,R'.inj⟩
 ·rcases h with ⟨r,o,hr,e⟩|h|h
  ·refine hno ?_
   rw [←e]
   exact (R.new r o hr).symm
  ·omega
  ·exact hno (.inr (by rw [h];exact hl))
 ·rcases h' with h'|h'|h'
  ·exact hnl b h h'
  ·have:=R.hF b h;omega
  ·rw [h'] at h;exact hFl h
 ·rcases ht j x h with rfl|hk
  ·exact .any _
  ·have:=R'.tmps j x h
   rwa [R'.defers.2.1 j hk] at this
 ·have hbig:=R.below.size
  rcases R'.new r o h with h'|h'
  ·exact .inl (by have:w0.heap.size≤(loc' r).1:=h';omega)
  ·rcases hO _ h' with ⟨r0,o0,hr0,e⟩|h''
   ·rw [←e];exact R.new r0 o0 hr0
   ·exact .inl (by omega)
theorem RelF.poke (R:RelF X F loc s a w) {l:Nat} {o0 o:Obj} (h:w.heap[l]?=some o0) (ho:o0.isCells=false) (hnm:∀es c,o0≠.map es c) (hrd:X.rd.isSome=true):RelF ⟨w.putObj l o,F,fun b=>Live s loc b,X.rd,X.kp,X.tm,X.hold⟩ F loc s a (w.putObj l o):=by
 have hoth:∀b,b≠l→(w.putObj l o).heap[b]?=w.heap[b]?:=fun b h=>World.putObj_heap_other h
 have T:Tr F loc s.H.length w F loc s.H.length (w.putObj l o):=⟨fun _ h=>h,fun b q u hf hc=>by
  by_cases eb:b=l
  ·subst eb
   unfold World.cell? at hc
   rw [h] at hc
   cases o0<;>simp_all [Obj.isCells]
  ·rw [cell_of_block (hoth b eb)];exact hc,Nat.le_refl _,fun _ _=>rfl⟩
 refine ⟨fun b h=>by rw [World.putObj_size];exact R.hF b h,fun _ h=>h,fun _ h=>.inl h,Beyond.refl _ _,⟨by rw [R.defers.2.2.1 hrd];exact DefOk.nil,R.defers.2.1,R.defers.2.2.1,⟨fun t ht=>⟨(R.tabW t ht).1,fun j v hv=>by
  have hc:=(R.tabW t ht).2 j v hv
  by_cases eb:t.1=l
  ·rw [eb] at hc
   unfold World.cell? at hc
   rw [h] at hc
   cases o0<;>simp_all [Obj.isCells]
  ·rw [cell_of_block (hoth t.1 eb)];exact hc⟩,fun t ht ⟨r,q,hr,e⟩=>R.tabO t ht r q hr e⟩,R.defers.2.2.2.2.mono (fun _ h=>h) fun b o' _ h1 ⟨es,c,h2⟩=>hoth b fun e=>by rw [e,h] at h1;cases h1;exact hnm es c h2⟩,R.len,fun j x hj=>(R.tmps j x hj).tr T,fun r q hr=>?_,fun r q hr=>.inr ⟨r,q,hr,rfl⟩,R.nF,R.inj⟩
 obtain ⟨vs,hv⟩:=own_cells R hr
 exact (R.obj r q hr).tr T (hlt hr) (hoth _ fun e=>by rw [e,h] at hv;cases hv;cases ho)
theorem RelF.marked (R:RelF X F loc s a w) {l D:Nat} {o0 o:Obj} (h:w.heap[l]?=some o0) (ho:o0.isCells=false) (hl:X.w0.heap.size≤l) (hFl:¬F l) (hk:w.heap[D]?=some (.deferred (some []))) (hFD:F D) (hDX:X.w0.heap.size≤D) (hne:D≠l)
  (hnew:∀d∈a.defers,d≠{ target:=.collected D,args:=#[] }) (hrd:X.rd=none):RelF X F loc s { a with defers:=[{ target:=.collected D,args:=#[] }]++a.defers } (w.putObj l o):=by
 have hoth:∀b,b≠l→(w.putObj l o).heap[b]?=w.heap[b]?:=fun b h=>World.putObj_heap_other h
 have hnF:∀b,F b→b≠l:=fun b hb e=>hFl (e▸hb)
 have T:Tr F loc s.H.length w F loc s.H.length (w.putObj l o):=⟨fun _ h=>h,fun b q u hf hc=>by rw [cell_of_block (hoth b (hnF b hf))];exact hc,Nat.le_refl _,fun _ _=>rfl⟩
 refine ⟨fun b h=>by rw [World.putObj_size];exact R.hF b h,R.hG,R.hN,R.below.trans ⟨rfl,rfl,rfl,by rw [World.putObj_size];exact Nat.le_refl _,fun k _ hno=>hoth k fun e=>hno (.inr (by rw [e];exact hl))⟩,⟨⟨fun d hd=>?_,List.pairwise_cons.2 ⟨fun d hd=>Ne.symm (hnew d hd),R.defers.1.2⟩⟩,R.defers.2.1,(fun h=>by rw [hrd] at h;cases h),R.defers.2.2.2.1,R.defers.2.2.2.2.mono (fun _ h=>h) fun b _ hb _ _=>hoth b (hnF b hb)⟩,R.len,fun j x hj=>(R.tmps j x hj).tr T,fun r q hr=>?_,R.new,R.nF,R.inj⟩
 ·rcases List.mem_cons.1 hd with rfl|hd
  ·exact ⟨D,rfl,hFD,hDX,(hoth D hne).trans hk⟩
  ·obtain ⟨D',e,hf,hB,hD'⟩:=R.defers.1.1 d hd
   exact ⟨D',e,hf,hB,(hoth D' (hnF D' hf)).trans hD'⟩
 ·obtain ⟨vs,hv⟩:=own_cells R hr
  exact (R.obj r q hr).tr T (hlt hr) (hoth _ fun e=>by rw [e,h] at hv;cases hv;cases ho)
theorem wpIn_any {r:Option Nat} {n m:Nat} {c:Code} {Q:Exit→Act→World→Prop} (h:c.wpIn (fen r) n P Q a w):c.wpIn (fen r) m P Q a w :=
 fun b k cs hro hb _=>h b k cs hro hb (fun _ h=>by cases h)
theorem fen_wide (h:X.rd=none):fen X.rd=Fence.wide:=by rw [h];rfl
theorem J_range (hrd:X.rd=none) {g:Operand} {p:Tmp} {assign body:Code} {Q:Exit→AS→Prop} {gf:FuncId} {sv:Value} {xs:List Int} {kp:Nat→Bool} (T:List AV) (H:Nat→AH)
  (hg:s.ev g=.fn gf [.f (.v sv)] []) (hit:IterW P gf #[sv] xs) (hok:enterOk P gf=true) (hw:Weak s ⟨T,H 0⟩) (hT:∀(j:Nat) x,T[j]?=some x→x=.any∨kp j=true) (hp:kp p=false) (hka:okC kp assign=true) (hkb:okC kp body=true)
  (round:∀(i:Nat) x,xs[i]?=some x→∀X1:Cx,X1.kp=kp→∀K:AS→Prop,(∀s',(∀X2:Cx,X2.kp=kp→J X2 P body (rpost T (H (i+1)) (Q .ret)) s')→K s')→J X1 P assign (athen K fun _ _=>False) ⟨T.set p (.f (.v (.int .i64 x))),H i⟩)
  (hQ:Q .normal ⟨T,H xs.length⟩):J X P (.rangeFunc g #[p] assign body) Q s:=fun _ a w ⟨F0,loc0,R0⟩=>by
 have hfv:=R0.ev g
 rw [hg] at hfv
 obtain ⟨vs,us,hge,l1,l2⟩:=fn_rep hfv
 have hvs:vs=#[sv]:=by
  have h0:=l1.2 0 _ rfl
  have hv:=v_rep h0
  apply Array.ext
  ·have:=l1.1;simp at this;simp;omega
  ·intro j h1 h2
   have hj:j=0:=by simp at h2;omega
   subst hj
   rw [Array.getD_eq_getD_getElem?,Array.getElem?_eq_getElem h1] at hv
   exact hv
 have hus:us=#[]:=by
  have:=l2.1
  simp at this
  exact Array.eq_empty_of_size_eq_zero this.symm
 subst hvs;subst hus
 obtain ⟨locT,RT⟩:=R0.weak hw
 rw [fen_wide hrd]
 refine wpIn_rangeFunc ?_
 intro fn hfn
 obtain ⟨rec,hrec⟩:∃rec:LoopState→Option Code→Loop,rec=fun st pe=>{ state:=st,pending:=pe,fn,tmps:=a.tmps,params:=#[p],assign,body,defers:=w.heap.size }:=⟨_,rfl⟩
 obtain ⟨W1,hW1⟩:∃W1,(w.alloc (.deferred (some []))).alloc (.loop (rec .ready none))=W1:=⟨_,rfl⟩
 obtain ⟨D,hD⟩:∃D,D=w.heap.size:=⟨_,rfl⟩
 have hL1:W1.heap[D+1]?=some (.loop (rec .ready none)):=by
  rw [←hW1,hD];have:=World.alloc_heap_new (w.alloc (.deferred (some []))) (.loop (rec .ready none));rwa [World.size_alloc] at this
 have hK1:W1.heap[D]?=some (.deferred (some [])):=by
  rw [←hW1,hD];exact (Below.heap_alloc _ _ _ (by simp)).trans (World.alloc_heap_new w _)
 refine ⟨D+1,[{ target:=.collected D,args:=#[] }],W1,{ target:=.fn (.func gf) #[],args:=#[sv]++#[.func (.yield (D+1)) #[] #[]] },W1,gf,#[sv]++#[.func (.yield (D+1)) #[] #[]],W1,?_,?_,?_,?_,(fun h=>by cases h),?_⟩
 ·rw [←hW1,hrec,hD];exact run_enterLoop_outer _ _ _ _ _
 ·simp only [resolve,hge,Deferred.ofValue,Sem.run_pure]
  simp [Act.eval]
 ·intro f' hf';trivial
 ·simp only [invoke]
  exact goodOk hok _ _
 ·obtain ⟨F1,hF1⟩:∃F1:Nat→Prop,F1=fun b=>F0 b∨b=D:=⟨_,rfl⟩
  have hsz:W1.heap.size=D+2:=by rw [←hW1,hD];simp
  have hbW:Beyond (fun _=>False) w W1:=by
   rw [←hW1]
   exact (beyond_alloc w _).trans ⟨rfl,rfl,rfl,by simp,fun k hk _=>Below.heap_alloc _ _ k hk⟩
  have RT1:RelF X F1 locT ⟨T,H 0⟩ a W1:=RT.step hbW (fun b h=>by rw [hF1];exact .inl h) (fun b h=>by
   rw [hF1] at h
   rcases h with h|h
   ·have:=RT.hF b h;omega
   ·omega) (fun b h=>by
   rw [hF1] at h
   rcases h with h|h
   ·exact .inl h
   ·exact .inr (by omega))
  have hDX:X.w0.heap.size≤D:=by have:=RT.below.size;omega
  have hTlen:T.length=a.tmps.size:=RT.len
  refine (hit (D+1) (fun i W=>∃F loc,RelF X F loc ⟨T,H i⟩ a W∧(F D∧¬F (D+1))∧W.heap[D+1]?=some (.loop (rec .ready none))∧W.heap[D]?=some (.deferred (some [])))
   (fun W=>∃F loc H',RelF X F loc ⟨T,H'⟩ a W∧(F D∧¬F (D+1))∧Q .ret ⟨T,H'⟩∧W.heap[D+1]?=some (.loop (rec .done (some .ret)))∧W.heap[D]?=some (.deferred (some []))) W1 (fun i W2 ⟨F,loc,R,_⟩=>R.tabW) ⟨F1,locT,RT1,⟨by rw [hF1];exact .inr rfl,by rw [hF1];rintro (h|h);(have:=RT.hF _ h;omega);omega⟩,hL1,hK1⟩ ?_).mono ?_
  ·rintro i x W hx ⟨F,loc,R,⟨hFD,hFl⟩,hl,hk⟩
   have hy:=run_yield (P:=P) (args:=#[.int .i64 x]) hl (by rw [hrec];rfl)
   rw [hrec] at hy
   refine ⟨fn,_,assign,body,hy,roundIn_of_wpIn trivial ?_⟩
   have htm:((#[p]:Array Tmp).zip #[Value.int .i64 x]).foldl (fun tmps (t,a)=>tmps.setIfInBounds t a) a.tmps=a.tmps.setIfInBounds p (.int .i64 x):=by simp
   rw [htm]
   have R1:=R.enter (s':=⟨T.set p (.f (.v (.int .i64 x))),H i⟩) { tmps:=a.tmps.setIfInBounds p (.int .i64 x),defers:=[] } (some (D+1)) kp a.tmps rfl (by simp [hTlen]) rfl (fun j hj=>by
    have hne:p≠j:=fun e=>by rw [←e,hp] at hj;cases hj
    simp [Array.getD_eq_getD_getElem?,hne]) (fun j y hj=>by
    have hj':(T.set p (.f (.v (.int .i64 x))))[j]?=some y:=hj
    by_cases e:p=j
    ·subst e
     have hpl:p<T.length:=by
      rcases Nat.lt_or_ge p T.length with h'|h'
      ·exact h'
      ·rw [List.getElem?_eq_none (by simpa using h')] at hj';cases hj'
     rw [List.getElem?_set_self hpl] at hj'
     cases hj'
     have:(a.tmps.setIfInBounds p (.int .i64 x)).getD p undef=.int .i64 x:=by simp [Array.getD_eq_getD_getElem?,←hTlen,hpl]
     rw [this]
     exact .f _ _ (.v _)
    ·rw [List.getElem?_set_ne e] at hj'
     have:(a.tmps.setIfInBounds p (.int .i64 x)).getD j undef=a.tmps.getD j undef:=by simp [Array.getD_eq_getD_getElem?,e]
     rw [this];exact R.tmps j y hj')
   have hJ:=round i x hx ⟨W,F,fun b=>Live ⟨T,H i⟩ loc b,some (D+1),kp,a.tmps,X.hold⟩ rfl (fun s'=>∀X2:Cx,X2.kp=kp→J X2 P body (rpost T (H (i+1)) (Q .ret)) s') (fun s' h=>h) hka _ W ⟨F,loc,R1⟩
   refine wpIn_mono (wpIn_any hJ) ?_
   rintro e a1 Wa ⟨s1,hq,Fa,loca,Ra⟩
   cases e with
   | normal =>
    have hlW:D+1<W.heap.size:=(Array.getElem?_eq_some_iff.1 hl).1
    have hnl:∀{s0:AS} {F0:Nat→Prop} {loc0:Nat→Nat × Nat} {X0:Cx} {a0:Act} {w0:World} {b:Nat} {o:Obj},RelF X0 F0 loc0 s0 a0 w0→w0.heap[b]?=some o→o.isCells=false→¬Live s0 loc0 b:=fun R0 h ho ⟨r,q,hr,e⟩=>by
     obtain ⟨vs,hv⟩:=own_cells R0 hr
     rw [e,h] at hv
     cases hv
     cases ho
    have hla:Wa.heap[D+1]?=some (.loop (rec .ready none)):=(Ra.below.block (D+1) hlW (hnl R hl rfl)).trans hl
    have hka2:Wa.heap[D]?=some (.deferred (some [])):=(Ra.below.block D (show D<W.heap.size by omega) (hnl R hk rfl)).trans hk
    refine ⟨_,run_beginRound hla (by rw [hrec]),?_⟩
    have Rb:=Ra.poke (o:=.loop { rec .ready none with state:=.busy }) hla rfl (fun _ _ h=>by cases h) rfl
    have hlWa:D+1<Wa.heap.size:=(Array.getElem?_eq_some_iff.1 hla).1
    have hlb:(Wa.putObj (D+1) (.loop { rec .ready none with state:=.busy })).heap[D+1]?=some (.loop { rec .ready none with state:=.busy }):=World.putObj_heap_same hlWa
    have hkb2:(Wa.putObj (D+1) (.loop { rec .ready none with state:=.busy })).heap[D]?=some (.deferred (some [])):=(World.putObj_heap_other (by omega)).trans hka2
    have hJ2:=hq _ rfl hkb a1 _ ⟨Fa,loca,Rb⟩
    refine wpIn_mono (wpIn_any hJ2) ?_
    rintro e a2 Wc ⟨s2,hq2,Fc,locc,Rc⟩
    have hlc:Wc.heap[D+1]?=some (.loop { rec .ready none with state:=.busy }):=(Rc.below.block (D+1) (by rw [World.putObj_size];exact hlWa) (hnl Rb hlb rfl)).trans hlb
    have hkc:Wc.heap[D]?=some (.deferred (some [])):=(Rc.below.block D (by rw [World.putObj_size];omega) (hnl Rb hkb2 rfl)).trans hkb2
    have hsb:(Wa.putObj (D+1) (.loop { rec .ready none with state:=.busy })).heap.size=Wa.heap.size:=World.putObj_size
    have hWWa:W.heap.size≤Wa.heap.size:=Ra.below.size
    have hWaWc:Wa.heap.size≤Wc.heap.size:=by have:=Rc.below.size;rw [hsb] at this;exact this
    have nL1:∀b,Live s1 loca b→Live ⟨T,H i⟩ loc b∨W.heap.size≤b:=fun b ⟨r,q,hr,e⟩=>by
     rcases Ra.new r q hr with h|h
     ·exact .inr (by rw [←e];exact h)
     ·exact .inl (by rw [←e];exact h)
    have nL2:∀b,Live s2 locc b→Live ⟨T,H i⟩ loc b∨W.heap.size≤b:=fun b ⟨r,q,hr,e⟩=>by
     rcases Rc.new r q hr with h|h
     ·refine .inr ?_
      rw [←e]
      have h':Wa.heap.size≤(locc r).1:=by rw [←hsb];exact h
      omega
     ·exact nL1 b (by rw [←e];exact h)
    have fFc:∀b,Fc b→F b∨Live ⟨T,H i⟩ loc b∨W.heap.size≤b:=fun b h=>by
     rcases Rc.hN b h with h|h|h
     ·exact Ra.hN b h
     ·exact .inr (nL1 b h)
     ·refine .inr (.inr ?_)
      have h':Wa.heap.size≤b:=by rw [←hsb];exact h
      omega
    have hFFc:∀b,F b→Fc b:=fun b h=>Rc.hG b (Ra.hG b h)
    have hnlD:¬Live ⟨T,H i⟩ loc (D+1):=hnl R hl rfl
    have hFcl:¬Fc (D+1):=fun h=>by
     rcases fFc _ h with h|h|h
     ·exact hFl h
     ·exact hnlD h
     ·omega
    have leave:∀(st:LoopState) (pe:Option Code) (H':AH),Weak s2 ⟨T,H'⟩→∃loc',RelF X Fc loc' ⟨T,H'⟩ a (Wc.putObj (D+1) (.loop (rec st pe))):=fun st pe H' hwk=>by
     have R3:=Rc.poke (o:=.loop (rec st pe)) hlc rfl (fun _ _ h=>by cases h) rfl
     obtain ⟨loc3,R4⟩:=R3.weak hwk
     refine ⟨loc3,R.leave (l:=D+1) (by omega) hFl ⟨?_,?_,?_,?_,fun k hk1 hno=>?_⟩ hFFc fFc nL2 ?_ R4 hT hTlen⟩
     ·exact Rc.below.os.trans Ra.below.os
     ·exact Rc.below.tape.trans Ra.below.tape
     ·exact Rc.below.output.trans Ra.below.output
     ·rw [World.putObj_size];omega
     ·have hne:k≠D+1:=fun e=>hno (.inr (.inr e))
      have h1:¬Live s1 loca k:=fun h=>by
       rcases nL1 k h with h|h
       ·exact hno (.inl h)
       ·exact hno (.inr (.inl h))
      rw [World.putObj_heap_other hne,Rc.below.block k (show k<_ by rw [hsb];omega) h1,World.putObj_heap_other hne]
      exact Ra.below.block k hk1 fun h=>hno (.inl h)
     ·rw [World.putObj_size];omega
    have hlWc:D+1<Wc.heap.size:=by omega
    have fin:∀(jump:Option Code),(Instr.endRound (D+1) jump).run P Wc=.ok (.bool jump.isNone) (Wc.putObj (D+1) (.loop (rec (if jump.isNone then .ready else .done) jump))):=fun jump=>by
     have:=run_endRound (P:=P) jump hlc
     rw [hrec] at this ⊢
     exact this
    cases e with
    | normal =>
     obtain ⟨loc',R5⟩:=leave .ready none _ hq2
     exact ⟨_,_,fin none,.inl ⟨rfl,Fc,loc',R5,⟨hFFc D hFD,hFcl⟩,World.putObj_heap_same hlWc,(World.putObj_heap_other (by omega)).trans hkc⟩⟩
    | ret =>
     obtain ⟨H',hwk,hqr⟩:=hq2
     obtain ⟨loc',R5⟩:=leave .done (some .ret) _ hwk
     exact ⟨_,_,fin (some .ret),.inr ⟨rfl,Fc,loc',H',R5,⟨hFFc D hFD,hFcl⟩,hqr,World.putObj_heap_same hlWc,(World.putObj_heap_other (by omega)).trans hkc⟩⟩
    | exit id=>exact hq2.elim
    | goto t=>exact hq2.elim
    | panic ch=>exact hq2.elim
    | outgrown=>exact hq2.elim
   | exit id=>exact hq.elim
   | goto t=>exact hq.elim
   | ret=>exact hq.elim
   | panic ch=>exact hq.elim
   | outgrown=>exact hq.elim
  ·rintro e W2 ⟨⟨v,rfl⟩,⟨F,loc,R,⟨hFD,hFl⟩,hl,hk⟩|⟨F,loc,H',R,⟨hFD,hFl⟩,hq,hl,hk⟩⟩
   ·have he:=run_endLoop (P:=P) hl (by rw [hrec];simp)
    rw [hrec] at he
    exact ⟨none,_,he,_,hQ,F,loc,R.marked (l:=D+1) hl rfl (by omega) hFl hk hFD hDX (by omega) (fun d hd e=>by
     obtain ⟨D',e',hf',_,_⟩:=R0.defers.1.1 d hd
     rw [e'] at e
     have hDD:D'=D:=by injection e with e1 _;injection e1
     have:=R0.hF _ hf'
     omega) hrd⟩
   ·have he:=run_endLoop (P:=P) hl (by rw [hrec];simp)
    rw [hrec] at he
    refine ⟨some .ret,_,he,wpIn_ret ⟨_,hq,F,loc,R.marked (l:=D+1) hl rfl (by omega) hFl hk hFD hDX (by omega) (fun d hd e=>?_) hrd⟩⟩
    obtain ⟨D',e',hf',_,_⟩:=R0.defers.1.1 d hd
    rw [e'] at e
    have hDD:D'=D:=by injection e with e1 _;injection e1
    have:=R0.hF _ hf'
    omega
def kpOf (ws:List Nat):Nat→Bool:=fun j=>!ws.contains j
theorem msk_get (ws:List Nat):∀(t:List AV) (j:Nat) x,(msk ws t)[j]?=some x→x=.any∨kpOf ws j=true:=by
 suffices h:∀(ws:List Nat) (t:List AV) (j:Nat) x,(msk ws t)[j]?=some x→(j∈ws→x=.any)∧(t[j]?=some .any→x=.any) from fun t j x hx=>by
  by_cases hj:j∈ws
  ·exact .inl ((h ws t j x hx).1 hj)
  ·exact .inr (by unfold kpOf;simpa using hj)
 intro ws
 induction ws with
 | nil=>intro t j x hx;refine ⟨fun h=>(by cases h),fun h=>?_⟩;rw [msk_nil,h] at hx;cases hx;rfl
 | cons i ws ih =>
  intro t j x hx
  rw [msk_cons] at hx
  obtain ⟨h1,h2⟩:=ih (t.set i .any) j x hx
  refine ⟨fun hj=>?_,fun hj=>h2 ?_⟩
  ·rcases List.mem_cons.1 hj with rfl|hj
   ·refine h2 ?_
    by_cases hl:j<t.length
    ·exact List.getElem?_set_self hl
    ·have hlen:∀(ws:List Nat) (t:List AV),(msk ws t).length=t.length:=by
      intro ws
      induction ws with
      | nil=>intro t;rfl
      | cons i ws ih=>intro t;rw [msk_cons,ih,List.length_set]
     rw [List.getElem?_eq_none (by rw [hlen,List.length_set];omega)] at hx
     cases hx
   ·exact h1 hj
  ·by_cases e:i=j
   ·subst e
    exact List.getElem?_set_self (List.getElem?_eq_some_iff.1 hj).1
   ·rw [List.getElem?_set_ne e];exact hj
theorem J_rangeW (hrd:X.rd=none) (ws:List Nat) (hp:Nat→AH) {g:Operand} {p:Tmp} {assign body:Code} {Q:Exit→AS→Prop} {gf:FuncId} {sv:Value} {xs:List Int} {t:List AV} {H:AH}
  (hg:AS.ev ⟨t,H⟩ g=.fn gf [.f (.v sv)] []) (hit:IterW P gf #[sv] xs) (hok:enterOk P gf=true) (hw:Weak ⟨t,H⟩ ⟨msk ws t,hp 0⟩) (hpw:kpOf ws p=false) (hka:okC (kpOf ws) assign=true) (hkb:okC (kpOf ws) body=true)
  (round:∀(i:Nat) x,xs[i]?=some x→∀X1:Cx,X1.kp=kpOf ws→∀K:AS→Prop,Kont K (fun s'=>∀X2:Cx,X2.kp=kpOf ws→J X2 P body (rpost (msk ws t) (hp (i+1)) (Q .ret)) s')→J X1 P assign (athen K fun _ _=>False) ⟨(msk ws t).set p (.f (.v (.int .i64 x))),hp i⟩)
  (hQ:Q .normal ⟨msk ws t,hp xs.length⟩):J X P (.rangeFunc g #[p] assign body) Q ⟨t,H⟩ :=
 J_range hrd (msk ws t) hp hg hit hok hw (msk_get ws t) hpw hka hkb round hQ
theorem rpost_n {T:List AV} {H:AH} {Qr:AS→Prop} {s:AS} (h:Weak s ⟨T,H⟩):rpost T H Qr .normal s:=h
theorem stepR_scope {b:Frame} {k:List Item} {cs:List Frame} {c:Code}:step P (lone (b.atR a (.code (.scope c)::k)) cs w)=.next (lone (b.atR a (.code c::.inScope c::k)) cs w) :=
 step_lone_go (by simp [stepG,stepG.exec,Frame.atR])
theorem stepR_inScope {b:Frame} {k:List Item} {cs:List Frame} {c:Code}:step P (lone (b.atR a (.inScope c::k)) cs w)=.next (lone (b.atR a k) cs w) :=
 step_lone_go (by simp [stepG,stepG.exec,Frame.atR])
theorem wpIn_scope {F:Fence} {n:Nat} {c:Code} {Q:Exit→Act→World→Prop} (h:c.wpIn F n P (fun e a w=>match e with|.goto _=>False|e=>Q e a w) a w):(Code.scope c).wpIn F n P Q a w:=by
 intro b k cs hro hb hr
 have h0:(lone (b.atR a (.code (.scope c)::k)) cs w).fenced P F:=fenced_calm hb hr rfl
 obtain ⟨e,a₁,w₁,hq,harr⟩:=h b (.inScope c::k) cs hro hb hr
 cases e with
 | normal=>exact ⟨.normal,a₁,w₁,hq,.head h0 stepR_scope (StepsIn.trans harr (.one (fenced_calm hb hr rfl) stepR_inScope))⟩
 | exit id =>
  have hx:exitTo id (.inScope c::k)=exitTo id k:=by simp [exitTo]
  exact ⟨_,a₁,w₁,hq,fun k' hk=>.head h0 stepR_scope (harr.1 k' (by rw [hx];exact hk)),
   fun hr' hk=>let ⟨k₁,h1,h2⟩:=harr.2 hr' (by rw [hx];exact hk);⟨k₁,h1,.head h0 stepR_scope h2⟩⟩
 | goto l=>exact hq.elim
 | ret=>exact ⟨_,a₁,w₁,hq,.of_steps (.one h0 stepR_scope) harr⟩
 | panic ch=>exact ⟨_,a₁,w₁,hq,.of_steps (.one h0 stepR_scope) harr⟩
 | outgrown=>exact ⟨_,a₁,w₁,hq,.of_steps (.one h0 stepR_scope) harr⟩
def ascope (Q:Exit→AS→Prop):Exit→AS→Prop
 | .goto _,_=>False
 | e,s=>Q e s
theorem J_scope {c:Code} {Q:Exit→AS→Prop} (h:J X P c (ascope Q) s):J X P (.scope c) Q s:=fun hk a w R=>by
 refine wpIn_scope (wpIn_mono (h hk a w R) ?_)
 rintro e a' w' ⟨s',hq,hR⟩
 cases e with
 | goto l=>exact hq.elim
 | _=>exact ⟨s',hq,hR⟩
theorem J_label {l:Nat} {Q:Exit→AS→Prop} (h:Q .normal s):J X P (.label l) Q s:=fun _ a w R=>wpIn_label ⟨s,h,R⟩
end
end Go.Proofs.YtgjnbcfencallaaDoor
set_option linter.unusedVariables false
set_option linter.unusedSimpArgs false
namespace Go.Proofs.YtgjnbcfencallaaDoor
section
open Go Go.RowKit

theorem mk_num_le (i:Int) (d:Nat):(mkRat i d).num.natAbs≤i.natAbs:=by
 rw [Rat.num_mkRat]
 split
 ·simp
 ·rw [Int.natAbs_ediv_of_dvd (Int.ofNat_dvd_left.2 (Nat.gcd_dvd_right _ _)),Int.natAbs_natCast]
  exact Nat.div_le_self _ _
theorem mk_den_le (i:Int) (d:Nat) (h:d≠0):(mkRat i d).den≤d:=by
 rw [Rat.den_mkRat,if_neg h]
 exact Nat.div_le_self _ _
def Fz (q:Rat) (k:Nat):Prop:=q.num.natAbs<256^k∧q.den<256^k
theorem pow_one_lt {k:Nat} (h:1≤k):1<256^k:=Nat.lt_of_lt_of_le (by decide) (Nat.pow_le_pow_right (by omega) h)
theorem Fz.mk {i:Int} {d k:Nat} (hi:i.natAbs<256^k) (hd:d<256^k) (hk:1≤k):Fz (mkRat i d) k:=by
 refine ⟨Nat.lt_of_le_of_lt (mk_num_le i d) hi,?_⟩
 by_cases h:d=0
 ·subst h;rw [Rat.den_mkRat];simpa using pow_one_lt hk
 ·exact Nat.lt_of_le_of_lt (mk_den_le i d h) hd
theorem Fz.pos {q:Rat} {k:Nat} (h:Fz q k):1≤k:=by
 rcases k with _|k
 ·have:=h.2;have:=q.den_pos;simp at *;omega
 ·omega
theorem Fz.up {q:Rat} {j k:Nat} (h:Fz q j) (hk:j≤k):Fz q k :=
 ⟨Nat.lt_of_lt_of_le h.1 (Nat.pow_le_pow_right (by omega) hk),Nat.lt_of_lt_of_le h.2 (Nat.pow_le_pow_right (by omega) hk)⟩
theorem Fz.mul {a b:Rat} {j k:Nat} (h:Fz a j) (h':Fz b k):Fz (a*b) (j+k):=by
 have e:a*b=mkRat (a.num*b.num) (a.den*b.den):=by
  rw [←Rat.mkRat_mul_mkRat,Rat.mkRat_self,Rat.mkRat_self]
 rw [e]
 refine .mk ?_ ?_ (by have:=h.pos;omega)
 ·rw [Int.natAbs_mul,Nat.pow_add];exact Nat.mul_lt_mul'' h.1 h'.1
 ·rw [Nat.pow_add];exact Nat.mul_lt_mul'' h.2 h'.2
theorem Fz.add {a b:Rat} {j k:Nat} (h:Fz a j) (h':Fz b k):Fz (a+b) (j+k+1):=by
 have e:a+b=mkRat (a.num*b.den+b.num*a.den) (a.den*b.den):=by
  rw [←Rat.mkRat_add_mkRat _ _ a.den_nz b.den_nz,Rat.mkRat_self,Rat.mkRat_self]
 rw [e]
 have m1:a.num.natAbs*b.den<256^(j+k):=by rw [Nat.pow_add];exact Nat.mul_lt_mul'' h.1 h'.2
 have m2:b.num.natAbs*a.den<256^(j+k):=by rw [Nat.pow_add,Nat.mul_comm];exact Nat.mul_lt_mul'' h.2 h'.1
 have m3:a.den*b.den<256^(j+k):=by rw [Nat.pow_add];exact Nat.mul_lt_mul'' h.2 h'.2
 refine .mk ?_ ?_ (by omega)
 ·refine Nat.lt_of_le_of_lt (Int.natAbs_add_le _ _) ?_
  rw [Int.natAbs_mul,Int.natAbs_mul,Int.natAbs_natCast,Int.natAbs_natCast,Nat.pow_succ];omega
 ·rw [Nat.pow_succ];omega
theorem Fz.neg {a:Rat} {k:Nat} (h:Fz a k):Fz (-a) k:=by
 have:-a=mkRat (-a.num) a.den:=by rw [←Rat.neg_mkRat,Rat.mkRat_self]
 rw [this];exact .mk (by rw [Int.natAbs_neg];exact h.1) h.2 h.pos
theorem Fz.sub {a b:Rat} {j k:Nat} (h:Fz a j) (h':Fz b k):Fz (a-b) (j+k+1):=by
 rw [Rat.sub_eq_add_neg];exact h.add h'.neg
theorem Fz.int {n:Int} (h:n.natAbs<256^8):Fz (n:Rat) 8:=by
 unfold Fz;rw [Rat.num_intCast,Rat.den_intCast];exact ⟨h,by decide⟩
def sgi (neg:Bool) (n:Nat):Int:=if neg then -(n:Int) else n
theorem sgi_abs (neg:Bool) (n:Nat):(sgi neg n).natAbs=n:=by cases neg<;>simp [sgi]
theorem sgi_num (i:Int):sgi (decide (i<0)) i.natAbs=i:=by
 unfold sgi;by_cases h:i<0<;>simp [h]<;>omega
def rv (neg:Bool) (n d:ByteArray):Rat:=mkRat (sgi neg (vn n)) (vn d)
def agf (neg:Bool) (n d:ByteArray):Value:=.agg #[.bool neg,.string n,.string d]
def frv (q:Rat):Value:=agf (decide (q.num<0)) (ns q.num.natAbs) (ns q.den)
def Fr (v:Value) (q:Rat) (k:Nat):Prop:=∃neg n d,v=agf neg n d∧q=rv neg n d∧n.size≤k∧d.size≤k

theorem rv_frv (q:Rat):rv (decide (q.num<0)) (ns q.num.natAbs) (ns q.den)=q:=by
 unfold rv;rw [vn_ns,vn_ns,sgi_num,Rat.mkRat_self]
theorem Fz.fr {q:Rat} {k:Nat} (h:Fz q k):Fr (frv q) q k :=
 ⟨_,_,_,rfl,(rv_frv q).symm,by rw [ns_size];exact nb_length_lt h.1,by rw [ns_size];exact nb_length_lt h.2⟩
theorem Fr.fz {v:Value} {q:Rat} {k:Nat} (h:Fr v q k) (hk:1≤k):Fz q k:=by
 obtain ⟨neg,n,d,rfl,rfl,hn,hd⟩:=h
 exact .mk (by rw [sgi_abs];exact Nat.lt_of_lt_of_le (vn_lt n) (Nat.pow_le_pow_right (by omega) hn)) (Nat.lt_of_lt_of_le (vn_lt d) (Nat.pow_le_pow_right (by omega) hd)) hk
theorem rv_zero {neg:Bool} {n d:ByteArray} (h:vn n=0∨vn d=0):rv neg n d=0:=by
 unfold rv
 rcases h with h|h
 ·rw [h];cases neg<;>simp [sgi]
 ·rw [h];simp
end

section
open Go Go.RowKit
open Go.IntWalk (wrap64_in)

end

section
open Go Go.RowKit
open Go.IntWalk (wrap64_in)

def Gives (f:FuncId) (args:Array Value) (v:Value):Prop:=∀w,Calls Tryd.prog f args w fun e w'=>e=.returned v∧Below w.heap.size w w'
section
variable {w wx w' : World} {g : Bool} {n d : ByteArray} {g2 : Bool} {n2 d2 : ByteArray}
end

end

section
open Go Go.RowKit
open Go.IntWalk (wrap64_in)

end

section
open Go Go.RowKit
open Go.IntWalk (wrap64_in)

end

section
open Go Go.RowKit

def cg (q:Rat):Bool:=decide (q.num<0)
def cn (q:Rat):ByteArray:=ns q.num.natAbs
def cd (q:Rat):ByteArray:=ns q.den
theorem rv_c (q:Rat):rv (cg q) (cn q) (cd q)=q:=rv_frv q
def Is (g:Bool) (n d:ByteArray) (q:Rat) (k:Nat):Prop:=rv g n d=q∧n.size≤k∧d.size≤k
theorem Is.c {q:Rat} {k:Nat} (h:Fz q k):Is (cg q) (cn q) (cd q) q k :=
 ⟨rv_c q,by unfold cn;rw [ns_size];exact nb_length_lt h.1,by unfold cd;rw [ns_size];exact nb_length_lt h.2⟩
theorem Is.fz {g:Bool} {n d:ByteArray} {q:Rat} {k:Nat} (h:Is g n d q k) (hk:1≤k):Fz q k :=
 Fr.fz ⟨g,n,d,rfl,h.1.symm,h.2.1,h.2.2⟩ hk
theorem Is.up {g:Bool} {n d:ByteArray} {q:Rat} {j k:Nat} (h:Is g n d q j) (hk:j≤k):Is g n d q k:=⟨h.1,by have:=h.2.1;omega,by have:=h.2.2;omega⟩
theorem Is.zero:Is false ⟨#[]⟩ ⟨#[1]⟩ 0 1:=⟨rv_zero (.inl vn_nil),by decide,by decide⟩

theorem Gives.at {f:FuncId} {args:Array Value} {v:Value} (h:Gives f args v) (w:World):Calls Tryd.prog f args w fun e w'=>e=.returned v∧Below w.heap.size w w':=h w
theorem Gives.acc {w:World} {f:FuncId} {args:Array Value} {v:Value} (h:Gives f args v):Acc w f args v:=.of h

section
variable {g g2 : Bool} {n d n2 d2 : ByteArray} {x y r : Rat} {k : Nat}
end
end
end Go.Proofs.YtgjnbcfencallaaDoor
