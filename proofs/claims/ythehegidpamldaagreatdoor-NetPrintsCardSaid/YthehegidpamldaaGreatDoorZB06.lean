/- The abstract machine, fifteenth part: the moves of a walk. Conditions: none. -/
import Derived.Test.YthehegidpamldaaGreatDoorZAmM
set_option linter.unusedVariables false
set_option linter.unusedSimpArgs false
namespace Go.Proofs.YthehegidpamldaaGreatDoor
open Go Go.RowKit

def Kont (K A:AS→Prop):Prop:=∀s,A s→K s
theorem Kont.go {K A:AS→Prop} {s:AS} (h:Kont K A) (ha:A s):K s:=h s ha
section
variable {X : Cx} {P : Program} {Q : Exit → AS → Prop} {s s' : AS} {K : AS → Prop}
theorem W_seq {x y:Code} (h:∀K:AS→Prop,Kont K (fun s=>J X P y Q s)→J X P x (athen K Q) s):J X P (.seq x y) Q s:=J_seq h
theorem athen_normal {n:AS→Prop}:athen n Q .normal s=n s:=(rfl)
theorem athen_exit {n:AS→Prop} {i:Nat}:athen n Q (.exit i) s=Q (.exit i) s:=(rfl)
theorem athen_ret {n:AS→Prop}:athen n Q .ret s=Q .ret s:=(rfl)
theorem ablock_normal {i:Nat}:ablock i Q .normal s=Q .normal s:=(rfl)
theorem ablock_ret {i:Nat}:ablock i Q .ret s=Q .ret s:=(rfl)
theorem ablock_exit {i j:Nat}:ablock i Q (.exit j) s=if j=i then Q .normal s else Q (.exit j) s:=(rfl)
theorem W_cond {c:Operand} {x y:Code} (t:Bool) (hc:s.ev c=.f (.v (.bool t))) (h1:t=true→J X P x Q s) (h2:t=false→J X P y Q s):J X P (.cond c x y) Q s:=J_cond hc h1 h2
theorem W_true {c:Operand} {x y:Code} (hc:s.ev c=.f (.v (.bool true))) (h1:J X P x Q s):J X P (.cond c x y) Q s:=J_cond hc (fun _=>h1) (fun h=>by cases h)
theorem W_false {c:Operand} {x y:Code} (hc:s.ev c=.f (.v (.bool false))) (h1:J X P y Q s):J X P (.cond c x y) Q s:=J_cond hc (fun h=>by cases h) (fun _=>h1)
def Jc (v:AV) (X:Cx) (P:Program) (c:Operand) (x y:Code) (Q:Exit→AS→Prop) (s:AS):Prop:=s.ev c=v→J X P (.cond c x y) Q s
theorem J_c {c:Operand} {x y:Code} (h:Jc (s.ev c) X P c x y Q s):J X P (.cond c x y) Q s:=h rfl
theorem Jc_true {c:Operand} {x y:Code} (h:J X P x Q s):Jc (.f (.v (.bool true))) X P c x y Q s:=fun hc=>W_true hc h
theorem Jc_false {c:Operand} {x y:Code} (h:J X P y Q s):Jc (.f (.v (.bool false))) X P c x y Q s:=fun hc=>W_false hc h
theorem Jc_if {c:Operand} {x y:Code} {b:Bool} (h1:b=true→J X P x Q s) (h2:b=false→J X P y Q s):Jc (.f (.v (.bool b))) X P c x y Q s:=fun hc=>W_cond b hc h1 h2
def WeakL (N:Nat):List AV→List AV→Prop
 | [],[]=>True
 | a::l,b::m=>(b=.any∨(b=a∧b.lt0 N=true))∧WeakL N l m
 | _,_=>False
def objLt (N:Nat) (o:AO):Prop:=∀e∈o.es,e.lt0 N=true
def WeakH (N:Nat):AH→AH→Prop
 | _,[]=>True
 | a::l,b::m=>(match b with|none=>True|some o=>a=some o∧objLt N o)∧WeakH N l m
 | _,_=>False
theorem weakL {N:Nat} {l m:List AV} (h:WeakL N l m):m.length=l.length∧∀(j:Nat) x,m[j]?=some x→x=.any∨(l[j]?=some x∧x.lt0 N=true):=by
 induction l generalizing m with
 | nil=>cases m with
  | nil=>exact ⟨rfl,fun j x h=>by simp at h⟩
  | cons b m=>exact h.elim
 | cons a l ih=>cases m with
  | nil=>exact h.elim
  | cons b m =>
   obtain ⟨h1,h2⟩:=h
   obtain ⟨h3,h4⟩:=ih h2
   refine ⟨by simp [h3],fun j x hj=>?_⟩
   cases j with
   | zero =>
    simp at hj;subst hj
    rcases h1 with h1|⟨h1,h5⟩
    ·exact .inl h1
    ·exact .inr ⟨by simp [h1],h5⟩
   | succ j=>simpa using h4 j x (by simpa using hj)
theorem weakH {N:Nat} {l m:AH} (h:WeakH N l m):m.length≤l.length∧∀(r:Nat) o,m[r]?=some (some o)→l[r]?=some (some o)∧∀e∈o.es,e.lt0 N=true:=by
 induction m generalizing l with
 | nil=>exact ⟨Nat.zero_le _,fun j x h=>by simp at h⟩
 | cons b m ih=>cases l with
  | nil=>exact h.elim
  | cons a l =>
   obtain ⟨h1,h2⟩:=h
   obtain ⟨h3,h4⟩:=ih h2
   refine ⟨by simp;omega,fun j x hj=>?_⟩
   cases j with
   | zero =>
    simp at hj;subst hj
    exact ⟨by simpa using h1.1,h1.2⟩
   | succ j=>simpa using h4 j x (by simpa using hj)
theorem weak_of {t t':List AV} {H H':AH} (h1:WeakL H'.length t t') (h2:WeakH H'.length H H'):Weak ⟨t,H⟩ ⟨t',H'⟩:=by
 refine ⟨fun r=>r,(weakL h1).1,fun j x hj=>?_,fun r o hr=>?_,fun r r' _ _ h=>h⟩
 ·rw [ren_id];exact (weakL h1).2 j x hj
 ·have e:o.es.map (AV.ren fun r=>r)=o.es:=by
   rw [List.map_congr_left (fun x _=>ren_id),List.map_id'']
   exact fun _=>rfl
  rw [e];exact (weakH h2).2 r o hr
def WeakLr (g:Nat→Nat) (N:Nat):List AV→List AV→Prop
 | [],[]=>True
 | a::l,b::m=>(b=.any∨(b.ren g=a∧b.lt0 N=true))∧WeakLr g N l m
 | _,_=>False
def WeakHr (g:Nat→Nat) (N:Nat) (H:AH):Nat→AH→Prop
 | _,[]=>True
 | i,b::m=>(match b with|none=>True|some o=>H[g i]?=some (some ⟨o.e,o.sz,o.es.map (AV.ren g)⟩)∧objLt N o)∧WeakHr g N H (i+1) m
theorem weakLr {g:Nat→Nat} {N:Nat} {l m:List AV} (h:WeakLr g N l m):m.length=l.length∧∀(j:Nat) x,m[j]?=some x→x=.any∨(l[j]?=some (x.ren g)∧x.lt0 N=true):=by
 induction l generalizing m with
 | nil=>cases m with
  | nil=>exact ⟨rfl,fun j x h=>by simp at h⟩
  | cons b m=>exact h.elim
 | cons a l ih=>cases m with
  | nil=>exact h.elim
  | cons b m =>
   obtain ⟨h1,h2⟩:=h
   obtain ⟨h3,h4⟩:=ih h2
   refine ⟨by simp [h3],fun j x hj=>?_⟩
   cases j with
   | zero =>
    simp at hj;subst hj
    rcases h1 with h1|⟨h1,h5⟩
    ·exact .inl h1
    ·exact .inr ⟨by simp [h1],h5⟩
   | succ j=>simpa using h4 j x (by simpa using hj)
theorem weakHr {g:Nat→Nat} {N:Nat} {H m:AH} {i:Nat} (h:WeakHr g N H i m):∀(r:Nat) o,m[r]?=some (some o)→H[g (i+r)]?=some (some ⟨o.e,o.sz,o.es.map (AV.ren g)⟩)∧∀e∈o.es,e.lt0 N=true:=by
 induction m generalizing i with
 | nil=>exact fun j x h=>by simp at h
 | cons b m ih =>
  obtain ⟨h1,h2⟩:=h
  intro j x hj
  cases j with
  | zero =>
   simp at hj;subst hj
   exact ⟨h1.1,h1.2⟩
  | succ j =>
   have:=ih h2 j x (by simpa using hj)
   rwa [show i+(j+1)=i+1+j by omega]
def nth (σ:List Nat) (r:Nat):Nat:=σ.getD r 0
theorem weak_ren (σ:List Nat) {t t':List AV} {H H':AH} (h0:σ.Nodup∧H'.length≤σ.length) (h1:WeakLr (nth σ) H'.length t t') (h2:WeakHr (nth σ) H'.length H 0 H'):Weak ⟨t,H⟩ ⟨t',H'⟩:=by
 refine ⟨nth σ,(weakLr h1).1,(weakLr h1).2,fun r o hr=>?_,fun r r' hr hr' h=>?_⟩
 ·have:=weakHr h2 r o hr
  rwa [Nat.zero_add] at this
 ·have a1:r<σ.length:=Nat.lt_of_lt_of_le hr h0.2
  have a2:r'<σ.length:=Nat.lt_of_lt_of_le hr' h0.2
  unfold nth at h
  rw [List.getD_eq_getElem?_getD,List.getD_eq_getElem?_getD,List.getElem?_eq_getElem a1,List.getElem?_eq_getElem a2] at h
  exact (List.getElem_inj h0.1).1 h
theorem weakLr_nil (g:Nat→Nat) (N:Nat):WeakLr g N [] []=True:=(rfl)
theorem weakLr_any (g:Nat→Nat) (N:Nat) (a:AV) (l m:List AV):WeakLr g N (a::l) (.any::m)=WeakLr g N l m:=propext ⟨fun h=>h.2,fun h=>⟨.inl rfl,h⟩⟩
theorem weakLr_f (g:Nat→Nat) (N:Nat) (a:AV) (b:FV) (l m:List AV):WeakLr g N (a::l) (.f b::m)=(AV.f b=a∧WeakLr g N l m):=propext ⟨fun h=>⟨(h.1.resolve_left (by simp)).1,h.2⟩,fun h=>⟨.inr ⟨h.1,rfl⟩,h.2⟩⟩
theorem weakLr_own (g:Nat→Nat) (N r sz o k:Nat) (a:AV) (l m:List AV):WeakLr g N (a::l) (.own r sz o k::m)=(AV.own (g r) sz o k=a∧r<N∧WeakLr g N l m):=propext ⟨fun h=>⟨(h.1.resolve_left (by simp)).1,of_decide_eq_true (h.1.resolve_left (by simp)).2,h.2⟩,fun h=>⟨.inr ⟨h.1,decide_eq_true h.2.1⟩,h.2.2⟩⟩
theorem weakLr_ptr (g:Nat→Nat) (N r sz i j:Nat) (a:AV) (l m:List AV):WeakLr g N (a::l) (.ptr r sz i j::m)=(AV.ptr (g r) sz i j=a∧r<N∧WeakLr g N l m):=propext ⟨fun h=>⟨(h.1.resolve_left (by simp)).1,of_decide_eq_true (h.1.resolve_left (by simp)).2,h.2⟩,fun h=>⟨.inr ⟨h.1,decide_eq_true h.2.1⟩,h.2.2⟩⟩
theorem weakHr_nil (g:Nat→Nat) (N i:Nat) (H:AH):WeakHr g N H i []=True:=(rfl)
theorem weakHr_none (g:Nat→Nat) (N i:Nat) (H m:AH):WeakHr g N H i (none::m)=WeakHr g N H (i+1) m:=propext ⟨fun h=>h.2,fun h=>⟨trivial,h⟩⟩
theorem weakHr_some (g:Nat→Nat) (N i:Nat) (o:AO) (H m:AH):WeakHr g N H i (some o::m)=((H[g i]?=some (some ⟨o.e,o.sz,o.es.map (AV.ren g)⟩)∧objLt N o)∧WeakHr g N H (i+1) m):=(rfl)
theorem ren_f (g:Nat→Nat) (x:FV):(AV.f x).ren g=.f x:=(rfl)
theorem ren_own (g:Nat→Nat) (r sz o k:Nat):(AV.own r sz o k).ren g=.own (g r) sz o k:=(rfl)
theorem ren_ptr (g:Nat→Nat) (r sz i j:Nat):(AV.ptr r sz i j).ren g=.ptr (g r) sz i j:=(rfl)
theorem map_ren_f (g:Nat→Nat) (l:List FV):(l.map AV.f).map (AV.ren g)=l.map AV.f:=by rw [List.map_map];rfl
theorem nth_zero (a:Nat) (l:List Nat):nth (a::l) 0=a:=(rfl)
theorem nth_succ (a i:Nat) (l:List Nat):nth (a::l) (i+1)=nth l i:=(rfl)
theorem lt0_f (N:Nat) (x:FV):(AV.f x).lt0 N=true:=(rfl)
theorem weakL_nil (N:Nat):WeakL N [] []=True:=(rfl)
theorem weakL_any (N:Nat) (a:AV) (l m:List AV):WeakL N (a::l) (.any::m)=WeakL N l m:=propext ⟨fun h=>h.2,fun h=>⟨.inl rfl,h⟩⟩
theorem weakL_f (N:Nat) (a:AV) (b:FV) (l m:List AV):WeakL N (a::l) (.f b::m)=(AV.f b=a∧WeakL N l m):=propext ⟨fun h=>⟨(h.1.resolve_left (by simp)).1,h.2⟩,fun h=>⟨.inr ⟨h.1,rfl⟩,h.2⟩⟩
theorem weakL_own (N r sz o k:Nat) (a:AV) (l m:List AV):WeakL N (a::l) (.own r sz o k::m)=(AV.own r sz o k=a∧r<N∧WeakL N l m):=propext ⟨fun h=>⟨(h.1.resolve_left (by simp)).1,of_decide_eq_true (h.1.resolve_left (by simp)).2,h.2⟩,fun h=>⟨.inr ⟨h.1,decide_eq_true h.2.1⟩,h.2.2⟩⟩
theorem weakL_ptr (N r sz i j:Nat) (a:AV) (l m:List AV):WeakL N (a::l) (.ptr r sz i j::m)=(AV.ptr r sz i j=a∧r<N∧WeakL N l m):=propext ⟨fun h=>⟨(h.1.resolve_left (by simp)).1,of_decide_eq_true (h.1.resolve_left (by simp)).2,h.2⟩,fun h=>⟨.inr ⟨h.1,decide_eq_true h.2.1⟩,h.2.2⟩⟩
theorem weakL_sl (N r sz:Nat) (fs:List FV) (a:AV) (l m:List AV) (h:r<N):WeakL N (a::l) (sl r sz fs::m)=(sl r sz fs=a∧WeakL N l m):=by
 have e:(sl r sz fs).lt0 N=true:=by cases fs<;>first|rfl|exact decide_eq_true h
 refine propext ⟨fun h=>⟨?_,h.2⟩,fun h=>⟨.inr ⟨h.1,e⟩,h.2⟩⟩
 rcases h.1 with h|h
 ·cases fs<;>cases h
 ·exact h.1
theorem weakH_nil (N:Nat) (l:AH):WeakH N l []=True:=by unfold WeakH;rfl
theorem weakH_none (N:Nat) (a:Option AO) (l m:AH):WeakH N (a::l) (none::m)=WeakH N l m:=propext ⟨fun h=>h.2,fun h=>⟨trivial,h⟩⟩
theorem weakH_some (N:Nat) (a:Option AO) (o:AO) (l m:AH):WeakH N (a::l) (some o::m)=((a=some o∧objLt N o)∧WeakH N l m):=(rfl)
theorem weakH_ob (N:Nat) (e:TypeId) (sz:Nat) (fs:List FV) (a:Option AO) (l m:AH):WeakH N (a::l) (ob e sz fs::m)=((fs=[]∨a=ob e sz fs)∧WeakH N l m):=by
 cases fs with
 | nil=>exact propext ⟨fun h=>⟨.inl rfl,h.2⟩,fun h=>⟨trivial,h.2⟩⟩
 | cons b fs=>exact propext ⟨fun h=>⟨.inr h.1.1,h.2⟩,fun h=>⟨⟨h.1.resolve_left (by simp),fun x hx=>by obtain ⟨y,_,rfl⟩:=List.mem_map.1 (show x∈List.map AV.f (b::fs) from hx);rfl⟩,h.2⟩⟩
theorem objLt_f (N:Nat) (e:TypeId) (sz:Nat) (es:List FV):objLt N ⟨e,sz,es.map .f⟩=True:=propext ⟨fun _=>trivial,fun _ x hx=>by obtain ⟨y,_,rfl⟩:=List.mem_map.1 hx;rfl⟩
theorem objLt_nil (N:Nat) (e:TypeId) (sz:Nat):objLt N ⟨e,sz,[]⟩=True:=propext ⟨fun _=>trivial,fun _ x hx=>by cases hx⟩
theorem objLt_cons (N:Nat) (e:TypeId) (sz:Nat) (a:AV) (l:List AV):objLt N ⟨e,sz,a::l⟩=(a.lt0 N=true∧objLt N ⟨e,sz,l⟩):=propext ⟨fun h=>⟨h a (by simp),fun x hx=>h x (by simp [show x∈l from hx])⟩,fun h x hx=>by
 rcases List.mem_cons.1 (show x∈a::l from hx) with rfl|hx
 ·exact h.1
 ·exact h.2 x hx⟩
theorem objLt_rep (N:Nat) (e:TypeId) (sz n:Nat) (x:FV):objLt N ⟨e,sz,List.replicate n (.f x)⟩=True:=propext ⟨fun _=>trivial,fun _ y hy=>by rw [List.eq_of_mem_replicate hy];rfl⟩
theorem objLt_app (N:Nat) (e:TypeId) (sz:Nat) (a b:List AV):objLt N ⟨e,sz,a++b⟩=(objLt N ⟨e,sz,a⟩∧objLt N ⟨e,sz,b⟩):=propext ⟨fun h=>⟨fun x hx=>h x (List.mem_append.2 (.inl hx)),fun x hx=>h x (List.mem_append.2 (.inr hx))⟩,fun h x hx=>by
 rcases List.mem_append.1 (show x∈a++b from hx) with hx|hx
 ·exact h.1 x hx
 ·exact h.2 x hx⟩
theorem FrzL.fs {H:List (Option AO)} (ds:List FV):FrzL H (ds.map .f) ds:=⟨by simp,fun j x y hx hy=>by
 rw [List.getElem?_map,hy] at hx;cases hx;exact .f _⟩
def msk (ws:List Nat) (l:List AV):List AV:=ws.foldl (fun l i=>l.set i .any) l
def sets (up:List (Nat × AV)) (l:List AV):List AV:=up.foldl (fun l p=>l.set p.1 p.2) l
theorem msk_nil (l:List AV):msk [] l=l:=(rfl)
theorem msk_cons (i:Nat) (ws:List Nat) (l:List AV):msk (i::ws) l=msk ws (l.set i .any):=(rfl)
theorem sets_nil (l:List AV):sets [] l=l:=(rfl)
theorem sets_cons (p:Nat × AV) (up:List (Nat × AV)) (l:List AV):sets (p::up) l=sets up (l.set p.1 p.2):=(rfl)
theorem W_loop {c:Code} {γ:Type} {t:List AV} {H:AH} (ws:List Nat) (up:γ→List (Nat × AV)) (hp:γ→AH) (I:γ→Prop) (μ:γ→Nat) (x0:γ) (h0:I x0) (hw:Weak ⟨t,H⟩ ⟨sets (up x0) (msk ws t),hp x0⟩)
  (round:∀x,I x→J X P c (athen (fun s=>∃y,I y∧μ y<μ x∧Weak s ⟨sets (up y) (msk ws t),hp y⟩) Q) ⟨sets (up x) (msk ws t),hp x⟩):J X P (.loop c) Q ⟨t,H⟩ :=
 J_loop (fun x=>⟨sets (up x) (msk ws t),hp x⟩) I μ x0 h0 hw round
theorem J_mono {c:Code} {Q Q':Exit→AS→Prop} {s:AS} (h:J X P c Q s) (hq:∀e s,Q e s→Q' e s):J X P c Q' s:=fun hk a w R=>wpIn_mono (h hk a w R) fun e a w ⟨s,hs,hr⟩=>⟨s,hq e s hs,hr⟩
theorem call_f {f:FuncId} {xs:List AV} {d:Option Tmp} {zs:List FV} {r:FV} (hg:Good P f zs r) (hx:xs=zs.map .f) (hK:K (s.put d (.f r))):acall P f xs s d K:=by
 refine .inl ⟨zs,r,⟨by rw [hx];simp,fun j x y h1 h2=>?_⟩,hg,.inl fun x hxm=>?_,hK⟩
 ·rw [hx,List.getElem?_map,h2] at h1
  cases h1;exact .f y
 ·rw [hx] at hxm
  obtain ⟨y,_,rfl⟩:=List.mem_map.1 hxm
  exact ⟨y,rfl⟩
theorem call_fl {f:FuncId} {xs:List AV} {d:Option Tmp} {zs:List FV} {r:FV} (hg:Good P f zs r) (hf:FlatF r) (hz:FrzL s.H xs zs) (hK:K (s.put d (.f r))):acall P f xs s d K:=.inl ⟨zs,r,hz,hg,.inr (.inl hf),hK⟩
theorem call_ot {f:FuncId} {xs:List AV} {d:Option Tmp} {zs:List FV} {r:RV} {rs:List FV} (hg:GoodOT P f zs r rs) (hz:FrzL s.H xs zs) (hK:K (AS.put ⟨s.t,s.H++r.hp⟩ d (.tup (r.av s.H.length::rs.map .f)))):acall P f xs s d K:=.inr (.inr (.inl ⟨zs,r,rs,hz,hg,hK⟩))
theorem call_u {f:FuncId} {xs:List AV} {d:Option Tmp} {v:AV} {H':AH} (hu:CallU P f xs s.H (fun u G=>u=v∧G=H')) (hK:K (AS.put ⟨s.t,H'⟩ d v)):acall P f xs s d K:=.inr (.inr (.inr (.inr ⟨_,hu.t s.t,fun u s' ⟨H1,e,h⟩=>by rw [e,h.1,h.2];exact hK⟩)))
theorem callQ_f {f:FuncId} {xs:List AV} {H:AH} {k:AV→Prop} {zs:List FV} {r:FV} (hg:Good P f zs r) (hx:xs=zs.map .f) (hK:k (.f r)):acallQ P f xs H k:=by
 refine ⟨zs,r,⟨by rw [hx];simp,fun j x y h1 h2=>?_⟩,hg,.inl fun x hxm=>?_,hK⟩
 ·rw [hx,List.getElem?_map,h2] at h1
  cases h1;exact .f y
 ·rw [hx] at hxm
  obtain ⟨y,_,rfl⟩:=List.mem_map.1 hxm
  exact ⟨y,rfl⟩
theorem callQ_fl {f:FuncId} {xs:List AV} {H:AH} {k:AV→Prop} {zs:List FV} {r:FV} (hg:Good P f zs r) (hf:FlatF r) (hz:FrzL H xs zs) (hK:k (.f r)):acallQ P f xs H k:=⟨zs,r,hz,hg,.inr (.inl hf),hK⟩
end
theorem wrap_in {n:Int} (h0:-9223372036854775808≤n) (h1:n≤9223372036854775807):IntKind.i64.wrap n=n:=by rw [IntKind.wrap_i64];omega
theorem map_get {α:Type} (f:α→FV) (l:List α) {i:Nat} (h:i<l.length):(l.map f)[i]?=some (f l[i]):=by rw [List.getElem?_map,List.getElem?_eq_getElem h];rfl
attribute [go_sem] athen_normal athen_exit athen_ret ablock_normal ablock_ret ablock_exit wrap_in msk_nil msk_cons sets_nil sets_cons weakL_nil weakL_any weakL_f weakL_own weakL_ptr
attribute [go_sem] weakH_nil weakH_none weakH_ob weakH_some weakL_sl objLt_f objLt_nil objLt_cons objLt_rep objLt_app lt0_f weakLr_nil weakLr_any weakLr_f weakLr_own weakLr_ptr
attribute [go_sem] weakHr_nil weakHr_none weakHr_some ren_f ren_own ren_ptr map_ren_f nth_zero nth_succ
end Go.Proofs.YthehegidpamldaaGreatDoor
set_option linter.unusedVariables false
set_option linter.unusedSimpArgs false
namespace Go.Proofs.YthehegidpamldaaGreatDoor
open Go Go.RowKit
theorem idx_str {T:TI} {s:ByteArray} {kd:IntKind} {n:Int} {k:AV→Prop}:aIndex T (.f (.v (.string s))) (.f (.v (.int kd n))) k=(T.str=true∧(0≤n∧n<s.size)∧k (.f (.v (.int .u8 (s.data.toList.getD n.toNat 0).toNat)))):=rfl
attribute [go_sem] idx_str
end Go.Proofs.YthehegidpamldaaGreatDoor
