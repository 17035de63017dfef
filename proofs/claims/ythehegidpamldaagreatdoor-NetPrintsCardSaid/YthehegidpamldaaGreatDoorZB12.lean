/- The abstract machine, more: drawn regions in which what lays, appends or calls stands beside what reads: all orders that matter are looked at. Conditions: none. -/
import Derived.Test.YthehegidpamldaaGreatDoorZB11
set_option linter.unusedVariables false
set_option linter.unusedSimpArgs false
namespace Go.Proofs.YthehegidpamldaaGreatDoor
open Go Go.RowKit

def CallM (P:Program) (f:FuncId) (xs:List AV) (H:AH) (r:FV) (H':AH):Prop :=
 ∃(zs:List AV) (H0:List AO) (g:Nat→Nat),zs.map (AV.ren g)=xs∧(∀z∈zs,z.lt0 H0.length=true)∧GoodM P f zs H0 r∧(∀i i',i<H0.length→i'<H0.length→g i=g i'→i=i') ∧
  (∀(i:Nat) o,H0[i]?=some o→H[g i]?=some (some ⟨o.e,o.sz,o.es.map (AV.ren g)⟩)∧∀e∈o.es,e.lt0 H0.length=true)∧H'.length=H.length ∧
  (∀(q:Nat) o,H'[q]?=some (some o)→H[q]?=some (some o)∧∀i,i<H0.length→g i≠q)
def acallH (P:Program) (f:FuncId) (xs:List AV) (H:AH) (k:AV→AH→Prop):Prop :=
 (∃zs r,FrzL H xs zs∧Good P f zs r∧Hal P f xs zs r∧k (.f r) H) ∨
 (∃zs r,FrzL H xs zs∧GoodO P f zs r∧k (r.av H.length) (H++r.hp)) ∨
 (∃zs r rs,FrzL H xs zs∧GoodOT P f zs r rs∧k (.tup (r.av H.length::rs.map .f)) (H++r.hp)) ∨
 (∃r H',CallM P f xs H r H'∧k (.f r) H') ∨
 (∃v H',CallU P f xs H (fun u G=>u=v∧G=H')∧k v H')
def acallHV (P:Program) (f:AV) (xs:List AV) (H:AH) (k:AV→AH→Prop):Prop :=
 match f with
 | .f (.fn f a b)=>acallH P f (a.map .f++xs++b.map .f) H k
 | .fn f a b=>acallH P f (a++xs++b) H k
 | _=>False
def amem (P:Program) (op:Op) (ρ:Operand→AV) (H:AH) (k:AV→AH→Prop):Prop :=
 match op with
 | .makeSlice t n c=>match tS P t with|some T=>aMake T.1 T.2 H (ρ n) (ρ c) k|none=>False
 | .call { callee:=.builtin .append,args:=args,argTypes:=ts }=>match args.toList,ts.toList with
  | [x,y],[t,t']=>t=t'∧(match tS P t with|some T=>aAppend T.1 T.2 H (ρ x) (ρ y) k|none=>False)
  | _,_=>False
 | .call { callee:=.value f,args:=args,argTypes:=ts }=>acallHV P (ρ f) (args.toList.map ρ) H k
 | _=>False
section
variable {P : Program} {X : Cx} {w : World} {s : AS} {a : Act} {ops : Array Oper}
theorem acallH_lin {f:FuncId} {xs:List AV} {H:AH} {k:AV→AH→Prop} (h:acallH P f xs H k):∃v G,acallH P f xs H (fun u G'=>u=v∧G'=G)∧k v G:=by
 rcases h with ⟨zs,r,h1,h2,h3,h4⟩|⟨zs,r,h1,h2,h3⟩|⟨zs,r,rs,h1,h2,h3⟩|⟨r,H',h1,h2⟩|⟨v,H',h1,h2⟩
 ·exact ⟨_,_,.inl ⟨zs,r,h1,h2,h3,rfl,rfl⟩,h4⟩
 ·exact ⟨_,_,.inr (.inl ⟨zs,r,h1,h2,rfl,rfl⟩),h3⟩
 ·exact ⟨_,_,.inr (.inr (.inl ⟨zs,r,rs,h1,h2,rfl,rfl⟩)),h3⟩
 ·exact ⟨_,_,.inr (.inr (.inr (.inl ⟨r,H',h1,rfl,rfl⟩))),h2⟩
 ·exact ⟨_,_,.inr (.inr (.inr (.inr ⟨v,H',h1,rfl,rfl⟩))),h2⟩
theorem append_lin {e:TypeId} {T:TI} {H:AH} {x y:AV} {k:AV→AH→Prop} (h:aAppend e T H x y k):∃v G,aAppend e T H x y (fun u G'=>u=v∧G'=G)∧k v G:=by
 have inner:∀news,(match T.zero with
  | some z=>z.cells.length=T.size∧0<T.size∧0<T.bytes∧(match x with
   | .f (.v (.slice none 0 0))=>0<news.length∧news.length*T.bytes≤140737488355328∧k (.own H.length T.size 0 news.length) (H++[some ⟨e,T.size,news⟩])
   | .own r sz 0 n=>sz=T.size∧∃o,H[r]?=some (some o)∧o.e=e∧o.sz=sz∧n≤o.es.length∧(n+news.length)*T.bytes≤140737488355328∧k (.own H.length T.size 0 (n+news.length)) (H.set r none++[some ⟨e,T.size,o.es.take n++news⟩])
   | _=>False)
  | none=>False)→∃v G,(match T.zero with
  | some z=>z.cells.length=T.size∧0<T.size∧0<T.bytes∧(match x with
   | .f (.v (.slice none 0 0))=>0<news.length∧news.length*T.bytes≤140737488355328∧((fun u G'=>u=v∧G'=G) (.own H.length T.size 0 news.length) (H++[some ⟨e,T.size,news⟩]):Prop)
   | .own r sz 0 n=>sz=T.size∧∃o,H[r]?=some (some o)∧o.e=e∧o.sz=sz∧n≤o.es.length∧(n+news.length)*T.bytes≤140737488355328∧((fun u G'=>u=v∧G'=G) (.own H.length T.size 0 (n+news.length)) (H.set r none++[some ⟨e,T.size,o.es.take n++news⟩]):Prop)
   | _=>False)
  | none=>False)∧k v G:=by
  intro news h
  split at h
  ·rename_i z hz
   obtain ⟨h1,h2,h3,h4⟩:=h
   split at h4
   ·obtain ⟨h5,h6,h7⟩:=h4
    exact ⟨_,_,⟨h1,h2,h3,h5,h6,rfl,rfl⟩,h7⟩
   ·obtain ⟨h5,o,h6,h7,h8,h9,h10,h11⟩:=h4
    exact ⟨_,_,⟨h1,h2,h3,h5,o,h6,h7,h8,h9,h10,rfl,rfl⟩,h11⟩
   ·exact h4.elim
  ·exact h.elim
 unfold aAppend at h ⊢
 unfold newsOf at h ⊢
 split at h
 ·obtain ⟨h1,h2⟩:=h
  obtain ⟨v,G,h3,h4⟩:=inner _ h2
  exact ⟨v,G,⟨h1,h3⟩,h4⟩
 ·obtain ⟨h1,o,h2,h3,h4,h5⟩:=h
  obtain ⟨v,G,h6,h7⟩:=inner _ h5
  exact ⟨v,G,⟨h1,o,h2,h3,h4,h6⟩,h7⟩
 ·obtain ⟨v,G,h3,h4⟩:=inner _ h
  exact ⟨v,G,h3,h4⟩
 ·exact h.elim
theorem amem_lin {op:Op} {ρ:Operand→AV} {H:AH} {k:AV→AH→Prop} (h:amem P op ρ H k):∃v G,amem P op ρ H (fun u G'=>u=v∧G'=G)∧k v G:=by
 unfold amem at h ⊢
 split at h
 ·split at h
  ·rename_i T hT
   unfold aMake at h ⊢
   split at h
   ·obtain ⟨h1,h2,h3,h4,h5,h6⟩:=h
    exact ⟨_,_,⟨h1,h2,h3,h4,h5,rfl,rfl⟩,h6⟩
   ·exact h.elim
  ·exact h.elim
 ·split at h
  ·obtain ⟨h1,h2⟩:=h
   split at h2
   ·obtain ⟨v,G,h3,h4⟩:=append_lin h2
    exact ⟨v,G,⟨h1,h3⟩,h4⟩
   ·exact h2.elim
  ·exact h.elim
 ·unfold acallHV at h ⊢
  split at h
  ·exact acallH_lin h
  ·exact acallH_lin h
  ·exact h.elim
 ·exact h.elim
theorem amem_congr {op : Op} {ρ ρ' : Operand → AV} {H : AH} (hρ : ∀ x ∈ op.operands, ρ' x = ρ x) {k : AV → AH → Prop} (h : amem P op ρ H k) : amem P op ρ' H k := by
  unfold amem at h ⊢
  split at h
  · rename_i t n c
    rw [hρ n (by simp [Op.operands]), hρ c (by simp [Op.operands])]; exact h
  · rename_i args ts
    split at h
    · rename_i x y t t' hx ht
      have mx : ∀ z ∈ args, ρ' z = ρ z := fun z hz => hρ z (by simp [Op.operands, Call.operands]; exact hz)
      rw [mx x (by have : x ∈ args.toList := by rw [hx]; simp
                   simpa using this), mx y (by have : y ∈ args.toList := by rw [hx]; simp
                                               simpa using this)]
      exact h
    · exact h.elim
  · rename_i f args ts
    rw [hρ f (by simp [Op.operands, Call.operands]), List.map_congr_left (f := ρ') (g := ρ) (l := args.toList) fun x hx => hρ x (by simp [Op.operands, Call.operands]; exact .inr (by simpa using hx))]
    exact h
  · exact h.elim
theorem acallH_to {f:FuncId} {xs:List AV} {d:Option Tmp} {K:AS→Prop} (h:acallH P f xs s.H fun v H=>K (AS.put ⟨s.t,H⟩ d v)):acall P f xs s d K:=by
 rcases h with ⟨zs,r,h1,h2,h3,h4⟩|⟨zs,r,h1,h2,h3⟩|⟨zs,r,rs,h1,h2,h3⟩|⟨r,H',⟨zs,H0,g,a1,a2,a3,a4,a5,a6,a7⟩,h2⟩|⟨v,H',h1,h2⟩
 ·exact .inl ⟨zs,r,h1,h2,h3,h4⟩
 ·exact .inr (.inl ⟨zs,r,h1,h2,h3⟩)
 ·exact .inr (.inr (.inl ⟨zs,r,rs,h1,h2,h3⟩))
 ·exact .inr (.inr (.inr (.inl ⟨zs,H0,g,r,H',a1,a2,a3,a4,a5,a6,a7,h2⟩)))
 ·exact .inr (.inr (.inr (.inr ⟨_,h1.t s.t,fun u s1 ⟨H1,e,h⟩=>by rw [e,h.1,h.2];exact h2⟩)))
theorem amem_to {o:Oper} {K:AS→Prop} (h:amem P o.op s.ev s.H fun v H=>K (AS.put ⟨s.t,H⟩ o.dst v)):aop P o K s:=by
 unfold amem at h
 unfold aop
 split at h
 ·rename_i t n c hop
  rw [hop]
  exact h
 ·rename_i args ts hop
  rw [hop]
  simp only
  split at h
  ·rename_i x y t t' hx ht
   obtain ⟨h1,h2⟩:=h
   rw [hx,ht]
   refine ⟨h1,?_⟩
   split at h2
   ·rename_i T hT
    rw [hT]
    exact Or.inl h2
   ·exact h2.elim
  ·exact h.elim
 ·rename_i f args ts hop
  rw [hop]
  simp only
  unfold acallHV at h
  unfold acallV
  split at h
  ·rename_i e;rw [e];exact acallH_to h
  ·rename_i e;rw [e];exact acallH_to h
  ·exact h.elim
 ·exact h.elim
def GStepT (P:Program) (ops:Array Oper) (M:Bool) (o:Oper) (s s':AS):Prop :=
 awant ops o s (if M=true then amem P o.op s.ev s.H fun u H'=>s'=AS.put ⟨s.t,H'⟩ o.dst u else DStep P ops o s s') (s'=s.put o.dst (.f (.v undef)))
def EA (P:Program) (ops:Array Oper) (o:Oper) (s:AS) (v:AV) (H:AH):Prop:=awant ops o s (amem P o.op s.ev s.H fun u H'=>u=v∧H'=H) (v=.f (.v undef)∧H=s.H)
theorem amem_mono {op:Op} {ρ:Operand→AV} {H:AH} {k k':AV→AH→Prop} (h:amem P op ρ H k) (hk:∀v G,k v G→k' v G):amem P op ρ H k':=by
 obtain ⟨v,G,h1,h2⟩:=amem_lin h
 have key:∀(q:AV→AH→Prop),q v G→amem P op ρ H q:=fun q hq=>by
  unfold amem at h1 ⊢
  split at h1
  ·split at h1
   ·unfold aMake at h1 ⊢
    split at h1
    ·obtain ⟨h1,h2,h3,h4,h5,h6,h7⟩:=h1
     exact ⟨h1,h2,h3,h4,h5,by rw [h6,h7];exact hq⟩
    ·exact h1.elim
   ·exact h1.elim
  ·split at h1
   ·obtain ⟨h1,h2⟩:=h1
    refine ⟨h1,?_⟩
    split at h2
    ·unfold aAppend at h2 ⊢
     refine newsOf_mono h2 fun n hn=>?_
     split at hn
     ·obtain ⟨h1,h2,h3,h4⟩:=hn
      refine ⟨h1,h2,h3,?_⟩
      split at h4
      ·obtain ⟨h5,h6,h7,h8⟩:=h4
       exact ⟨h5,h6,by rw [h7,h8];exact hq⟩
      ·obtain ⟨h5,o,h6,h7,h8,h9,h10,h11,h12⟩:=h4
       exact ⟨h5,o,h6,h7,h8,h9,h10,by rw [h11,h12];exact hq⟩
      ·exact h4.elim
     ·exact hn.elim
    ·exact h2.elim
   ·exact h1.elim
  ·have ck:∀{f:FuncId} {xs:List AV},acallH P f xs H (fun u G'=>u=v∧G'=G)→acallH P f xs H q:=fun h=>by
    rcases h with ⟨zs,r,h1,h2,h3,h4,h5⟩|⟨zs,r,h1,h2,h3,h4⟩|⟨zs,r,rs,h1,h2,h3,h4⟩|⟨r,H',h1,h2,h3⟩|⟨u,H',h1,h2,h3⟩
    ·exact .inl ⟨zs,r,h1,h2,h3,by rw [h4];rw [←h5] at hq;exact hq⟩
    ·exact .inr (.inl ⟨zs,r,h1,h2,by rw [h3,h4];exact hq⟩)
    ·exact .inr (.inr (.inl ⟨zs,r,rs,h1,h2,by rw [h3,h4];exact hq⟩))
    ·exact .inr (.inr (.inr (.inl ⟨r,H',h1,by rw [h2,h3];exact hq⟩)))
    ·exact .inr (.inr (.inr (.inr ⟨u,H',h1,by rw [h2,h3];exact hq⟩)))
   unfold acallHV at h1 ⊢
   split at h1
   ·exact ck h1
   ·exact ck h1
   ·exact h1.elim
  ·exact h1.elim
 exact key k' (hk v G h2)
theorem EA_of {o:Oper} {s':AS} (h:GStepT P ops true o s s'):∃v H,s'=AS.put ⟨s.t,H⟩ o.dst v∧EA P ops o s v H:=by
 rcases awant_or h with ⟨h1,h2⟩|⟨h1,h2⟩
 ·rw [if_pos rfl] at h1
  obtain ⟨v,G,h3,h4⟩:=amem_lin h1
  exact ⟨v,G,h4,awant_mono (h2 False) (fun _=>h3) (fun h=>h.elim)⟩
 ·exact ⟨_,s.H,h1,awant_mono (h2 False) (fun h=>h.elim) (fun _=>⟨rfl,rfl⟩)⟩
theorem EA_to {o:Oper} {v:AV} {H:AH} (h:EA P ops o s v H):GStepT P ops true o s (AS.put ⟨s.t,H⟩ o.dst v):=by
 refine awant_mono h (fun h=>?_) (fun ⟨h1,h2⟩=>by subst h1;subst h2;rfl)
 rw [if_pos rfl]
 exact amem_mono h fun u G ⟨h1,h2⟩=>by rw [h1,h2]
theorem EA_congr {o:Oper} {s':AS} (hs:Same ops o s s') (hH:s'.H=s.H) {v:AV} {H:AH} (h:EA P ops o s v H):EA P ops o s' v H:=by
 refine want_congr hs (awant_mono h (fun h=>?_) (fun h=>by rw [hH];exact h))
 rw [hH]
 exact amem_congr hs.1 h
def confT (M:List Nat) (i j:Nat) (a b:Op):Bool :=
 memconf a b||(M.contains i&&(M.contains j||(isStore b||isRead b||isNew b)))||(M.contains j&&(isStore a||isRead a||isNew a))
theorem step_commT {M:List Nat} {i j:Nat} {oi oj:Oper} (hap:oi.apart ops oj=true) (hm:confT M i j oi.op oj.op=false) {s1 s2:AS} (h1:GStepT P ops (M.contains i) oi s s1) (h2:GStepT P ops (M.contains j) oj s1 s2) :
  ∃s1',GStepT P ops (M.contains j) oj s s1'∧GStepT P ops (M.contains i) oi s1' s2:=by
 unfold confT at hm
 rw [Bool.or_eq_false_iff,Bool.or_eq_false_iff] at hm
 obtain ⟨⟨m1,m2⟩,m3⟩:=hm
 obtain ⟨a1,a2,a3⟩:=Oper.apart_spec hap
 cases hi:M.contains i with
 | false =>
  rw [hi] at h1 m2
  cases hj:M.contains j with
  | false=>rw [hj] at h2;exact step_comm hap m1 h1 h2
  | true =>
   rw [hj] at h2 m3
   rw [Bool.true_and,Bool.or_eq_false_iff,Bool.or_eq_false_iff] at m3
   obtain ⟨v,H1,rfl,e1⟩:=E_of h1
   obtain ⟨u,H2,rfl,e2⟩:=EA_of h2
   have hH1:=E_keep m3.1.1 m3.2 e1
   subst hH1
   have back:Same ops oj (AS.put ⟨s.t,s.H⟩ oi.dst v) s:=by
    have:=put_same (ops:=ops) (o:=oj) (s:=s) v s.H a1
    exact ⟨fun x hx=>(this.1 x hx).symm,fun j b hg d hd=>(this.2 j b hg d hd).symm⟩
   have e2':EA P ops oj s u H2:=EA_congr back (AS.put_H _ _ _).symm e2
   refine ⟨AS.put ⟨s.t,H2⟩ oj.dst u,EA_to e2',?_⟩
   have e1':=E_free m3.1.1 m3.2 m3.1.2 (put_same (ops:=ops) (o:=oi) (s:=s) u H2 a3) e1
   rw [AS.put_H] at e1'
   have:=E_to e1'
   rw [put_t,put_comm _ _ _ (fun d hd=>fun h=>a2 d h hd)] at this
   rw [put_t];exact this
 | true =>
  rw [hi] at h1 m2
  rw [Bool.true_and,Bool.or_eq_false_iff,Bool.or_eq_false_iff,Bool.or_eq_false_iff] at m2
  obtain ⟨hj,⟨n1,n2⟩,n3⟩:=m2
  rw [hj] at h2 ⊢
  obtain ⟨v,H1,rfl,e1⟩:=EA_of h1
  obtain ⟨u,H2,rfl,e2⟩:=E_of h2
  have hH2:=E_keep n1 n3 e2
  rw [AS.put_H] at hH2
  subst hH2
  have back:Same ops oj (AS.put ⟨s.t,H2⟩ oi.dst v) s:=by
   have:=put_same (ops:=ops) (o:=oj) (s:=s) v H2 a1
   exact ⟨fun x hx=>(this.1 x hx).symm,fun j b hg d hd=>(this.2 j b hg d hd).symm⟩
  have e2':=E_free n1 n3 n2 back e2
  refine ⟨AS.put ⟨s.t,s.H⟩ oj.dst u,E_to e2',?_⟩
  have e1':EA P ops oi (AS.put ⟨s.t,s.H⟩ oj.dst u) v H2:=EA_congr (put_same (ops:=ops) (o:=oi) (s:=s) u s.H a3) (AS.put_H _ _ _) e1
  have:=EA_to e1'
  rw [put_t,put_comm _ _ _ (fun d hd=>fun h=>a2 d h hd)] at this
  rw [put_t];exact this
def aanyT (P:Program) (ops:Array Oper) (M:List Nat) (K:AS→Prop):Nat→Array Bool→AS→Prop
 | 0,listed,s=>Region.ready .any ops listed=[]∧K s
 | n+1,listed,s=>(Region.ready .any ops listed=[]→K s)∧∀i∈Region.ready .any ops listed,∀o,ops[i]?=some o→∃s',GStepT P ops (M.contains i) o s s'∧aanyT P ops M K n (listed.setIfInBounds i true) s'
theorem aanyT_first {M:List Nat} {K:AS→Prop} {i:Nat} {oi:Oper} (hi:ops[i]?=some oi) (hord:∀k o,ops[k]?=some o→∀e∈o.after,Region.binds .any e=true→e.on<k) :
  ∀(n:Nat) (listed:Array Bool) (s s':AS),listed.size=ops.size→Closed ops listed→(∀j oj,ops[j]?=some oj→j≠i→listed.getD j true=false→((waitBits ops.toList []).getD j 0).testBit i=false→oi.apart ops oj=true∧confT M i j oi.op oj.op=false) →
   i∈Region.ready .any ops listed→GStepT P ops (M.contains i) oi s s'→aanyT P ops M K n (listed.setIfInBounds i true) s'→aanyT P ops M K (n+1) listed s:=by
 intro n
 induction n with
 | zero =>
  intro listed s s' _ _ _ hr hst h
  refine ⟨fun e=>(by rw [e] at hr;cases hr),fun j hj oj hoj=>?_⟩
  by_cases hji:j=i
  ·subst hji;rw [hi] at hoj;cases hoj;exact ⟨s',hst,h⟩
  ·have:=ready_mono hj hji
   rw [h.1] at this;cases this
 | succ n ih =>
  intro listed s s' hsz hcl hfree hr hst h
  refine ⟨fun e=>(by rw [e] at hr;cases hr),fun j hj oj hoj=>?_⟩
  by_cases hji:j=i
  ·subst hji;rw [hi] at hoj;cases hoj;exact ⟨s',hst,h⟩
  ·obtain ⟨s2,g1,g2⟩:=h.2 j (ready_mono hj hji) oj hoj
   obtain ⟨hjun,oj',hoj',hall⟩:=mem_ready.1 hj
   rw [hoj] at hoj';cases hoj'
   have hiun:=(mem_ready.1 hr).1
   have hil:i<listed.size:=by
    rcases Nat.lt_or_ge i listed.size with h'|h'
    ·exact h'
    ·rw [Array.getD_eq_getD_getElem?,Array.getElem?_eq_none h'] at hiun;cases hiun
   have hnw:((waitBits ops.toList []).getD j 0).testBit i=false:=by
    cases hb:((waitBits ops.toList []).getD j 0).testBit i with
    | false=>rfl
    | true =>
     have:=waits_listed hcl hsz (j+1) j oj (by omega) hoj (fun e he hb=>⟨hall e he hb,hord j oj hoj e he hb⟩) hord hb
     have e2:listed.getD i true=listed.getD i false:=by simp [Array.getD_eq_getD_getElem?,hil]
     rw [e2,this] at hiun;cases hiun
   obtain ⟨hap,hmc⟩:=hfree j oj hoj hji hjun hnw
   obtain ⟨s1',c1,c2⟩:=step_commT hap hmc hst g1
   refine ⟨s1',c1,ih (listed.setIfInBounds j true) s1' s2 (by simpa using hsz) ?_ (fun k ok hk hki hun hno=>?_) (ready_mono hr (Ne.symm hji)) c2 ?_⟩
   ·intro k o hk hl e he hb
    by_cases hkj:k=j
    ·subst hkj
     rw [hoj] at hk;cases hk
     exact getD_set_true (hall e he hb)
    ·rw [getD_set_ne true (Ne.symm hkj)] at hl
     exact getD_set_true (hcl k o hk hl e he hb)
   ·refine hfree k ok hk hki ?_ hno
    by_cases hjk:j=k
    ·subst hjk;exact hjun
    ·rw [getD_set_ne true hjk] at hun;exact hun
   ·rw [Array.setIfInBounds_comm _ _ hji]
    exact g2
inductive Sch where
  | leaf
  | one (i : Nat) (t : Sch)
  | br (r : Sch)
  | alt (i : Nat) (t r : Sch)
  | fin
def astep (P:Program) (ops:Array Oper) (M:Bool) (o:Oper) (K:AS→Prop) (s:AS):Prop :=
 awant ops o s (if M=true then amem P o.op s.ev s.H fun v H=>K (AS.put ⟨s.t,H⟩ o.dst v) else aopD P o K s) (K (s.put o.dst (.f (.v undef))))
def atr (P:Program) (ops:Array Oper) (M:List Nat) (K:AS→Prop):Sch→AS→Prop
 | .leaf,s=>K s
 | .one i t,s=>∃o,ops[i]?=some o∧astep P ops (M.contains i) o (atr P ops M K t) s
 | .br r,s=>atr P ops M K r s
 | .alt i t r,s=>(∃o,ops[i]?=some o∧astep P ops (M.contains i) o (atr P ops M K t) s)∧atr P ops M K r s
 | .fin,s=>True
def covers:Sch→List Nat
 | .alt i _ r=>i::covers r
 | _=>[]
def Sch.main:Sch→Bool
 | .alt _ _ _|.fin=>false
 | _=>true
def nowOk (ops:Array Oper) (listed:Array Bool) (i:Nat):Bool:=(Region.ready .any ops listed).contains i
def freeOk (ops:Array Oper) (b:List Nat) (M:List Nat) (listed:Array Bool) (i:Nat):Bool :=
 match ops[i]? with
 | none=>false
 | some oi=>(List.range ops.size).all fun j=>decide (j=i)||listed.getD j true||(b.getD j 0).testBit i||(match ops[j]? with
  | none=>true
  | some oj=>oi.apart ops oj&&!confT M i j oi.op oj.op)
def trOk (ops:Array Oper) (b:List Nat) (M:List Nat):Nat→Array Bool→Sch→Bool
 | _,listed,.leaf=>(Region.ready .any ops listed).isEmpty
 | 0,_,.one _ _=>false
 | n+1,listed,.one i t=>nowOk ops listed i&&freeOk ops b M listed i&&t.main&&trOk ops b M n (listed.setIfInBounds i true) t
 | n,listed,.br r=>!(Region.ready .any ops listed).isEmpty&&((Region.ready .any ops listed).all fun i=>(covers r).contains i)&&!r.main&&trOk ops b M n listed r
 | 0,_,.alt _ _ _=>false
 | n+1,listed,.alt i t r=>nowOk ops listed i&&t.main&&!r.main&&trOk ops b M n (listed.setIfInBounds i true) t&&trOk ops b M (n+1) listed r
 | _,_,.fin=>true
def ordOk (ops:Array Oper):Bool:=(List.range ops.size).all fun k=>match ops[k]? with
 | none=>true
 | some o=>o.after.toList.all fun e=>!Region.binds .any e||decide (e.on<k)
theorem gstepT_of {M:Bool} {o:Oper} {K:AS→Prop} (h:astep P ops M o K s):∃s',GStepT P ops M o s s'∧K s':=by
 cases M with
 | false=>exact gstep_of h
 | true =>
  rcases awant_or h with ⟨h1,h2⟩|⟨h1,h2⟩
  ·rw [if_pos rfl] at h1
   obtain ⟨v,G,h3,h4⟩:=amem_lin h1
   exact ⟨_,awant_mono (h2 False) (fun _=>by rw [if_pos rfl];exact amem_mono h3 fun u G' ⟨e1,e2⟩=>by rw [e1,e2]) (fun h=>h.elim),h4⟩
  ·exact ⟨_,awant_mono (h2 False) (fun h=>h.elim) (fun _=>rfl),h1⟩
theorem closed_set {listed:Array Bool} (hc:Closed ops listed) {i:Nat} (hi:i∈Region.ready .any ops listed):Closed ops (listed.setIfInBounds i true):=by
 obtain ⟨_,o',ho',hall⟩:=mem_ready.1 hi
 intro k o hk hl e he hb
 by_cases hki:k=i
 ·subst hki
  rw [ho'] at hk;cases hk
  exact getD_set_true (hall e he hb)
 ·rw [getD_set_ne true (Ne.symm hki)] at hl
  exact getD_set_true (hc k o hk hl e he hb)
theorem atr_any {M:List Nat} {K:AS→Prop} (hord:∀k o,ops[k]?=some o→∀e∈o.after,Region.binds .any e=true→e.on<k):∀(T:Sch) (n:Nat) (listed:Array Bool) (s:AS),listed.size=ops.size→Closed ops listed →
  trOk ops (waitBits ops.toList []) M n listed T=true→atr P ops M K T s→(T.main=true→aanyT P ops M K n listed s) ∧
   (T.main=false→∀m,n=m+1→∀i∈covers T,∀o,ops[i]?=some o→∃s',GStepT P ops (M.contains i) o s s'∧aanyT P ops M K m (listed.setIfInBounds i true) s'):=by
 intro T
 induction T with
 | leaf =>
  intro n listed s hsz hc hok h
  refine ⟨fun _=>?_,fun h=>by cases h⟩
  have hr:Region.ready .any ops listed=[]:=by
   have:(Region.ready .any ops listed).isEmpty=true:=by cases n<;>exact hok
   exact List.isEmpty_iff.1 this
  cases n with
  | zero=>exact ⟨hr,h⟩
  | succ n=>exact ⟨fun _=>h,fun i hi=>by rw [hr] at hi;cases hi⟩
 | one i t ih =>
  intro n listed s hsz hc hok h
  refine ⟨fun _=>?_,fun h=>by cases h⟩
  cases n with
  | zero=>cases hok
  | succ n =>
   replace hok:(nowOk ops listed i&&freeOk ops (waitBits ops.toList []) M listed i&&t.main&&trOk ops (waitBits ops.toList []) M n (listed.setIfInBounds i true) t)=true:=hok
   rw [Bool.and_eq_true,Bool.and_eq_true,Bool.and_eq_true] at hok
   obtain ⟨⟨⟨h1,h2⟩,hm⟩,h3⟩:=hok
   have hi:i∈Region.ready .any ops listed:=List.contains_iff_mem.1 h1
   obtain ⟨o,ho,hst⟩:=h
   obtain ⟨s',g1,g2⟩:=gstepT_of hst
   have key:=(ih n _ s' (by simpa using hsz) (closed_set hc hi) h3 g2).1 hm
   refine aanyT_first ho hord n listed s s' hsz hc (fun j oj hj hji hun hw=>?_) hi g1 key
   unfold freeOk at h2
   rw [ho] at h2
   have:=List.all_eq_true.1 h2 j (List.mem_range.2 (Array.getElem?_eq_some_iff.1 hj).1)
   have hun2:listed.getD j true=false:=hun
   rw [hj,hun2,hw] at this
   simpa [hji] using this
 | br r ih =>
  intro n listed s hsz hc hok h
  refine ⟨fun _=>?_,fun h=>by cases h⟩
  have hok':(!(Region.ready .any ops listed).isEmpty&&((Region.ready .any ops listed).all fun i=>(covers r).contains i)&&!r.main&&trOk ops (waitBits ops.toList []) M n listed r)=true:=by cases n<;>exact hok
  rw [Bool.and_eq_true,Bool.and_eq_true,Bool.and_eq_true] at hok'
  obtain ⟨⟨⟨h1,h2⟩,hm⟩,h3⟩:=hok'
  have hne:Region.ready .any ops listed≠[]:=fun e=>by rw [e] at h1;cases h1
  have hr:=(ih n listed s hsz hc h3 h).2 (by simpa using hm)
  cases n with
  | zero =>
   exfalso
   cases r with
   | alt=>cases h3
   | fin =>
    obtain ⟨x,l,hx⟩:=List.exists_cons_of_ne_nil hne
    rw [hx] at h2
    have:=List.all_eq_true.1 h2 x (by simp)
    cases this
   | leaf=>cases hm
   | one=>cases hm
   | br=>cases hm
  | succ n=>exact ⟨fun e=>absurd e hne,fun i hi o ho=>hr n rfl i (List.contains_iff_mem.1 (List.all_eq_true.1 h2 i hi)) o ho⟩
 | alt i t r iht ihr =>
  intro n listed s hsz hc hok h
  refine ⟨fun h=>(by cases h),fun _ m hn=>?_⟩
  subst hn
  replace hok:(nowOk ops listed i&&t.main&&!r.main&&trOk ops (waitBits ops.toList []) M m (listed.setIfInBounds i true) t&&trOk ops (waitBits ops.toList []) M (m+1) listed r)=true:=hok
  rw [Bool.and_eq_true,Bool.and_eq_true,Bool.and_eq_true,Bool.and_eq_true] at hok
  obtain ⟨⟨⟨⟨h1,h2⟩,h3⟩,h4⟩,h5⟩:=hok
  have hi:i∈Region.ready .any ops listed:=List.contains_iff_mem.1 h1
  obtain ⟨⟨o,ho,hst⟩,hrest⟩:=h
  obtain ⟨s',g1,g2⟩:=gstepT_of hst
  have k1:=(iht m _ s' (by simpa using hsz) (closed_set hc hi) h4 g2).1 h2
  have k2:=(ihr (m+1) listed s hsz hc h5 hrest).2 (by simpa using h3) m rfl
  intro j hj oj hoj
  rcases List.mem_cons.1 (show j∈i::covers r from hj) with rfl|hj
  ·rw [ho] at hoj;cases hoj;exact ⟨s',g1,k1⟩
  ·exact k2 j hj oj hoj
 | fin =>
  intro n listed s hsz hc hok h
  exact ⟨fun h=>(by cases h),fun _ m hn i hi=>(by cases hi)⟩
def allOk (ops:Array Oper) (M:List Nat) (T:Sch):Bool:=ordOk ops&&T.main&&trOk ops (waitBits ops.toList []) M ops.size (Array.replicate ops.size false) T
def opAt:List Oper→Nat→(Oper→Prop)→Prop
 | [],_,_=>False
 | o::_,0,k=>k o
 | _::l,i+1,k=>opAt l i k
theorem opAt_zero (o:Oper) (l:List Oper) (k:Oper→Prop):opAt (o::l) 0 k=k o:=(rfl)
theorem opAt_succ (o:Oper) (l:List Oper) (i:Nat) (k:Oper→Prop):opAt (o::l) (i+1) k=opAt l i k:=(rfl)
theorem opAt_eq {k:Oper→Prop}:∀{l:List Oper} {i:Nat},(∃o,l[i]?=some o∧k o)=opAt l i k:=by
 intro l
 induction l with
 | nil=>intro i;exact propext ⟨fun ⟨o,h,_⟩=>by simp at h,fun h=>h.elim⟩
 | cons a l ih =>
  intro i
  cases i with
  | zero=>exact propext ⟨fun ⟨o,h,hk⟩=>by simp at h;subst h;exact hk,fun h=>⟨a,rfl,h⟩⟩
  | succ i=>rw [opAt_succ,←ih];simp
def hasN:List Nat→Nat→Bool
 | [],_=>false
 | a::l,i=>if i=a then true else hasN l i
theorem hasN_eq:∀{l:List Nat} {i:Nat},l.contains i=hasN l i:=by
 intro l
 induction l with
 | nil=>intro i;rfl
 | cons a l ih =>
  intro i
  unfold hasN
  rw [←ih,List.contains_cons]
  by_cases h:i=a<;>simp [h]
theorem hasN_nil (i:Nat):hasN [] i=false:=(rfl)
theorem hasN_cons (a i:Nat) (l:List Nat):hasN (a::l) i=if i=a then true else hasN l i:=(rfl)
def as1 (P:Program) (ops:Array Oper) (M:Bool) (o:Oper) (K:AS→Prop) (s:AS):Prop:=astep P ops M o K s
def as2 (P:Program) (M:Bool) (o:Oper) (K:AS→Prop) (s:AS):Prop:=if M=true then amem P o.op s.ev s.H fun v H=>K (AS.put ⟨s.t,H⟩ o.dst v) else aopD P o K s
def as3 (P:Program) (v:Option AV) (b:Bool) (M:Bool) (o:Oper) (K:AS→Prop) (s:AS):Prop:=awantV v b (as2 P M o K s) (K (s.put o.dst (.f (.v undef))))
section
variable {M : List Nat} {K : AS → Prop} {d : Option Tmp} {ty : TypeId} {pos : String} {af : Array Edge} {gd : Option (Nat × Bool)} {t t' : TypeId} {x y : Operand} {b m : Bool} {o : Oper}
theorem atr_leaf:atr P ops M K .leaf s=K s:=(rfl)
theorem atr_one (i:Nat) (T:Sch):atr P ops M K (.one i T) s=opAt ops.toList i fun o=>as1 P ops (hasN M i) o (atr P ops M K T) s:=by
 rw [←hasN_eq,←opAt_eq];show (∃o,ops[i]?=some o∧_)=_;simp only [Array.getElem?_toList];rfl
theorem atr_br (r:Sch):atr P ops M K (.br r) s=atr P ops M K r s:=(rfl)
theorem atr_alt (i:Nat) (T r:Sch):atr P ops M K (.alt i T r) s=(opAt ops.toList i (fun o=>as1 P ops (hasN M i) o (atr P ops M K T) s)∧atr P ops M K r s):=by
 rw [←hasN_eq,←opAt_eq];show ((∃o,ops[i]?=some o∧_)∧_)=_;simp only [Array.getElem?_toList];rfl
theorem atr_fin:atr P ops M K .fin s=True:=(rfl)
theorem as1_none (op:Op):as1 P ops m ⟨d,op,ty,pos,af,none⟩ K s=as2 P m ⟨d,op,ty,pos,af,none⟩ K s:=(rfl)
theorem as1_some (op:Op) (j:Nat):as1 P ops m ⟨d,op,ty,pos,af,some (j,b)⟩ K s=as3 P (((ops[j]?).bind (·.dst)).bind fun d=>s.t[d]?) b m ⟨d,op,ty,pos,af,some (j,b)⟩ K s:=by
 show awantG ((ops[j]?).bind (·.dst)) b s _ _=_
 cases (ops[j]?).bind (·.dst)<;>rfl
theorem as3_undef:as3 P (some (.f (.v undef))) b m o K s=K (s.put o.dst (.f (.v undef))):=by simp [as3,awantV,undef]
theorem as3_tt:as3 P (some (.f (.v (.bool true)))) true m o K s=as2 P m o K s:=by simp [as3,awantV]
theorem as3_tf:as3 P (some (.f (.v (.bool true)))) false m o K s=K (s.put o.dst (.f (.v undef))):=by simp [as3,awantV]
theorem as3_ft:as3 P (some (.f (.v (.bool false)))) true m o K s=K (s.put o.dst (.f (.v undef))):=by simp [as3,awantV]
theorem as3_ff:as3 P (some (.f (.v (.bool false)))) false m o K s=as2 P m o K s:=by simp [as3,awantV]
theorem as2_false:as2 P false o K s=aopD P o K s:=(rfl)
theorem as2_make:as2 P true ⟨d,.makeSlice t x y,ty,pos,af,gd⟩ K s=(match tS P t with|some T=>aMake T.1 T.2 s.H (s.ev x) (s.ev y) (fun v H=>K (AS.put ⟨s.t,H⟩ d v))|none=>False):=(rfl)
theorem as2_append:as2 P true ⟨d,.call { callee:=.builtin .append,args:=#[x,y],argTypes:=#[t,t'] },ty,pos,af,gd⟩ K s=(t=t'∧(match tS P t with|some T=>aAppend T.1 T.2 s.H (s.ev x) (s.ev y) (fun v H=>K (AS.put ⟨s.t,H⟩ d v))|none=>False)):=(rfl)
theorem as2_call0 (f:FuncId) (args:Array Operand) (ts:Array TypeId):as2 P true ⟨d,.call { callee:=.value (.func f),args:=args,argTypes:=ts },ty,pos,af,gd⟩ K s=acallH P f (args.toList.map s.ev) s.H (fun v H=>K (AS.put ⟨s.t,H⟩ d v)):=by
 unfold as2
 rw [if_pos rfl]
 have e:∀(xs:List AV) (k:AV→AH→Prop),acallHV P (.f (.fn f [] [])) xs s.H k=acallH P f xs s.H k:=fun xs k=>by
  show acallH P f (List.map AV.f []++xs++List.map AV.f []) s.H k=_
  simp
 exact e (args.toList.map s.ev) (fun v H=>K (AS.put ⟨s.t,H⟩ d v))
end
end
def acallHK (P:Program) (f:FuncId) (xs:List AV) (s:AS) (d:Option Tmp) (K:AS→Prop):Prop:=acallH P f xs s.H fun v H=>K (AS.put ⟨s.t,H⟩ d v)
theorem as2_call {P:Program} {s:AS} {K:AS→Prop} {d:Option Tmp} {ty:TypeId} {pos:String} {af:Array Edge} {gd:Option (Nat × Bool)} (f:FuncId) (args:Array Operand) (ts:Array TypeId):as2 P true ⟨d,.call { callee:=.value (.func f),args:=args,argTypes:=ts },ty,pos,af,gd⟩ K s=acallHK P f (args.toList.map s.ev) s d K:=as2_call0 f args ts
theorem callHK_f {P:Program} {f:FuncId} {xs:List AV} {s:AS} {d:Option Tmp} {K:AS→Prop} {zs:List FV} {r:FV} (hg:Good P f zs r) (hx:xs=zs.map .f) (hK:K (AS.put ⟨s.t,s.H⟩ d (.f r))):acallHK P f xs s d K:=by
 refine .inl ⟨zs,r,⟨by rw [hx];simp,fun j x y h1 h2=>?_⟩,hg,.inl fun x hxm=>?_,hK⟩
 ·rw [hx,List.getElem?_map,h2] at h1
  cases h1;exact .f y
 ·rw [hx] at hxm
  obtain ⟨y,_,rfl⟩:=List.mem_map.1 hxm
  exact ⟨y,rfl⟩
theorem callH_f {P:Program} {f:FuncId} {xs:List AV} {H:AH} {k:AV→AH→Prop} {zs:List FV} {r:FV} (hg:Good P f zs r) (hx:xs=zs.map .f) (hK:k (.f r) H):acallH P f xs H k:=by
 refine .inl ⟨zs,r,⟨by rw [hx];simp,fun j x y h1 h2=>?_⟩,hg,.inl fun x hxm=>?_,hK⟩
 ·rw [hx,List.getElem?_map,h2] at h1
  cases h1;exact .f y
 ·rw [hx] at hxm
  obtain ⟨y,_,rfl⟩:=List.mem_map.1 hxm
  exact ⟨y,rfl⟩
theorem callH_fl {P:Program} {f:FuncId} {xs:List AV} {H:AH} {k:AV→AH→Prop} {zs:List FV} {r:FV} (hg:Good P f zs r) (hf:FlatF r) (hz:FrzL H xs zs) (hK:k (.f r) H):acallH P f xs H k:=.inl ⟨zs,r,hz,hg,.inr (.inl hf),hK⟩
theorem objLt_sl {N r:Nat} {e:TypeId} {sz i z:Nat} {l fs:List FV} (h:r<N):objLt N ⟨e,sz,(l.map AV.f).set i (sl r z fs)⟩=True:=propext ⟨fun _=>trivial,fun _ x hx=>by
 rcases List.mem_or_eq_of_mem_set (show x∈(l.map AV.f).set i (sl r z fs) from hx) with hx|rfl
 ·obtain ⟨y,_,rfl⟩:=List.mem_map.1 hx;rfl
 ·cases fs with
  | nil=>rfl
  | cons a l=>exact decide_eq_true h⟩
theorem objLt_oset {N r:Nat} {e:TypeId} {sz i z o k:Nat} {l:List FV} (h:r<N):objLt N ⟨e,sz,(l.map AV.f).set i (.own r z o k)⟩=True:=propext ⟨fun _=>trivial,fun _ x hx=>by
 rcases List.mem_or_eq_of_mem_set (show x∈(l.map AV.f).set i (.own r z o k) from hx) with hx|rfl
 ·obtain ⟨y,_,rfl⟩:=List.mem_map.1 hx;rfl
 ·exact decide_eq_true h⟩
theorem ren_sl (g:Nat→Nat) (r sz:Nat) (l:List FV):(sl r sz l).ren g=sl (g r) sz l:=by cases l<;>rfl
theorem map_ren_set (g:Nat→Nat) (l:List AV) (i:Nat) (x:AV):(l.set i x).map (AV.ren g)=(l.map (AV.ren g)).set i (x.ren g):=by rw [List.map_set]
theorem weakHr_ob (g:Nat→Nat) (N i:Nat) (e:TypeId) (sz:Nat) (fs:List FV) (H m:AH):WeakHr g N H i (ob e sz fs::m)=((fs=[]∨H[g i]?=some (ob e sz fs))∧WeakHr g N H (i+1) m):=by
 cases fs with
 | nil=>exact propext ⟨fun h=>⟨.inl rfl,h.2⟩,fun h=>⟨trivial,h.2⟩⟩
 | cons b fs =>
  have e1:((b::fs).map AV.f).map (AV.ren g)=(b::fs).map AV.f:=map_ren_f g _
  refine propext ⟨fun h=>⟨.inr ?_,h.2⟩,fun h=>⟨⟨?_,fun x hx=>by obtain ⟨y,_,rfl⟩:=List.mem_map.1 (show x∈List.map AV.f (b::fs) from hx);rfl⟩,h.2⟩⟩
  ·have:=h.1.1
   rw [show (AO.mk e sz ((b::fs).map AV.f)).es=(b::fs).map AV.f from rfl,e1] at this
   exact this
  ·have:=h.1.resolve_left (by simp)
   show _=some (some (AO.mk e sz (((b::fs).map AV.f).map (AV.ren g))))
   rw [e1];exact this
theorem weakL_fn (N:Nat) (f:FuncId) (x y:List AV) (a:AV) (l m:List AV):WeakL N (a::l) (.fn f x y::m)=((AV.fn f x y=a∧(AV.fn f x y).lt0 N=true)∧WeakL N l m):=propext ⟨fun h=>⟨h.1.resolve_left (by simp),h.2⟩,fun h=>⟨.inr h.1,h.2⟩⟩
theorem weakLr_fn (g:Nat→Nat) (N:Nat) (f:FuncId) (x y:List AV) (a:AV) (l m:List AV):WeakLr g N (a::l) (.fn f x y::m)=(((AV.fn f x y).ren g=a∧(AV.fn f x y).lt0 N=true)∧WeakLr g N l m):=propext ⟨fun h=>⟨h.1.resolve_left (by simp),h.2⟩,fun h=>⟨.inr h.1,h.2⟩⟩
theorem weakLr_sl (g:Nat→Nat) (N r sz:Nat) (fs:List FV) (a:AV) (l m:List AV) (h:r<N):WeakLr g N (a::l) (sl r sz fs::m)=(sl (g r) sz fs=a∧WeakLr g N l m):=by
 have e:(sl r sz fs).lt0 N=true:=by cases fs<;>first|rfl|exact decide_eq_true h
 refine propext ⟨fun h=>⟨?_,h.2⟩,fun h=>⟨.inr ⟨by rw [ren_sl];exact h.1,e⟩,h.2⟩⟩
 rcases h.1 with h|h
 ·cases fs<;>cases h
 ·rw [←ren_sl];exact h.1
attribute [go_sem] false_and and_false objLt_sl objLt_oset ren_sl map_ren_set weakHr_ob weakLr_sl
attribute [go_sem] weakL_fn weakLr_fn opAt_zero opAt_succ hasN_nil hasN_cons atr_leaf atr_one atr_br atr_alt atr_fin as1_none as1_some as3_undef as3_tt as3_tf as3_ft as3_ff as2_false as2_make as2_append as2_call
end Go.Proofs.YthehegidpamldaaGreatDoor
set_option linter.unusedVariables false
set_option linter.unusedSimpArgs false
namespace Go.Proofs.YthehegidpamldaaGreatDoor
open Go Go.RowKit
section
variable {l : List Int} {n x : Nat}
theorem ris_nn (h:∀j,j<x→prevI l j<l.getD j 0∧l.getD j 0<(n:Int)):-1≤prevI l x∧∀j,j<x→0≤l.getD j 0:=by
 induction x with
 | zero=>exact ⟨by unfold prevI;simp,fun j h=>by omega⟩
 | succ x ih =>
  obtain ⟨h1,h2⟩:=ih fun j hj=>h j (by omega)
  have h3:=(h x (by omega)).1
  refine ⟨by rw [prevI_next];omega,fun j hj=>?_⟩
  by_cases e:j=x
  ·subst e;omega
  ·exact h2 j (by omega)
end
set_option maxRecDepth 100000 in
set_option maxHeartbeats 4000000 in
theorem rising_w (l:List Int) {n:Nat} (hn:n≤1000000) (hw:∀x∈l,-9223372036854775808≤x∧x≤9223372036854775807) (hl:l.length≤140737488355328) :
  Good Tryz.prog 64 [ints l,I (n:Int)] (Bo (risB n l)):=by
 refine good_of Tryz.func64 rfl (by kernel_rfl) fun X hO hrd=>?_;rw [Tryz.ntmps64,Tryz.results64];simp only [ast0,List.map_cons,List.map_nil,List.length_cons,List.length_nil,Nat.reduceAdd,Nat.reduceSub,List.replicate_succ,List.replicate_zero,List.cons_append,List.nil_append]
 (repeat (with_reducible first|refine W_seq fun K hK=>?_|refine J_block ?_|refine J_region ?_ |(refine Kont.go (by assumption) ?_)|(simp (config:={ maxSteps:=3000000 }) (disch:=omega) only [go_sem])))
 refine W_loop [4,5,6,7,8,9,10,11,12,13,14,15,16,17,18,19,20,21,22,23,24,25,26,27,28,29,30,31,32,33,34,35,36,37,38,39,40] (fun x:Nat=>[(5,.f (I x))]) (fun x:Nat=>[]) (fun x:Nat=>x≤l.length∧∀j,j<x→prevI l j<l.getD j 0∧l.getD j 0<(n:Int)) (fun x:Nat=>l.length-x) (0) (⟨Nat.zero_le _,fun j h=>by omega⟩) (by refine weak_of ?_ ?_<;>simp (disch:=omega) only [go_sem]<;>first|rfl|exact ⟨rfl,rfl⟩|exact Or.inl rfl|exact ⟨Or.inl rfl,Or.inl rfl⟩|trivial|assumption|omega|(symm;assumption)|((repeat' apply And.intro)<;>first|rfl|omega|trivial|exact .inl rfl|exact .inr ⟨rfl,rfl⟩|exact .inr rfl|(right;symm;assumption)|(symm;assumption)|assumption)) ?_
 rintro x ⟨hx,hp⟩
 simp only [go_sem]
 (repeat (with_reducible first|refine W_seq fun K hK=>?_|refine J_region ?_ |refine J_c ?_|(refine Kont.go (by assumption) ?_)|(simp (config:={ maxSteps:=3000000 }) (disch:=omega) only [go_sem,List.length_map])))
 refine Jc_if (fun hxl=>?_) (fun hxl=>?_)<;>try simp only [decide_eq_true_eq,decide_eq_false_iff_not] at hxl
 ·have g1:=map_get I l hxl
  have g3:l.getD x 0=l[x]:=lget_lt l 0 hxl
  have hm1:=(ris_nn hp).1
  have hno:¬(prevI l x<l[x]∧l[x]<(n:Int))→risB n l=false:=fun hh=>by
   cases hb:risB n l with
   | false=>rfl
   | true=>exact absurd (risB_iff.1 hb x hxl) (by rw [g3];exact hh)
  by_cases c0:l[x]<0
  ·have e:risB n l=false:=hno fun h=>by omega
   (repeat (with_reducible first|refine W_seq fun K hK=>?_|refine J_block ?_|refine J_skip ?_|refine J_ret ?_|refine J_region ?_ |refine J_drawn mixed (by kernel_rfl) ?_|refine J_c ?_|refine Jc_true ?_|(refine Kont.go (by assumption) ?_)|(simp (config:={ maxSteps:=3000000 }) (disch:=omega) only [go_sem,↓reduceIte,g1,c0,true_and])))
   rw [e]
   exact Frz.f _
  ·by_cases c2:(n:Int)≤l[x]
   ·have e:risB n l=false:=hno fun h=>by omega
    (repeat (with_reducible first|refine W_seq fun K hK=>?_|refine J_block ?_|refine J_skip ?_|refine J_ret ?_|refine J_region ?_ |refine J_drawn mixed (by kernel_rfl) ?_|refine J_c ?_|refine Jc_true ?_|(refine Kont.go (by assumption) ?_)|(simp (config:={ maxSteps:=3000000 }) (disch:=omega) only [go_sem,↓reduceIte,g1,c0,c2,true_and])))
    rw [e]
    exact Frz.f _
   ·by_cases x0:x=0
    ·have hpr:prevI l x=-1:=by unfold prevI;rw [if_pos x0]
     have c3:¬(0:Int)<(x:Int):=by omega
     (repeat (with_reducible first|refine W_seq fun K hK=>?_|refine J_block ?_|refine J_skip ?_|refine J_region ?_ |refine J_drawn mixed (by kernel_rfl) ?_|refine J_c ?_|refine Jc_false ?_|(refine Kont.go (by assumption) ?_)|(simp (config:={ maxSteps:=3000000 }) (disch:=omega) only [go_sem,↓reduceIte,g1,c0,c2,c3,true_and])))
     refine ⟨x+1,⟨by omega,upto_next (p:=fun j=>prevI l j<l.getD j 0∧l.getD j 0<(n:Int)) hp ⟨by rw [g3];omega,by rw [g3];omega⟩⟩,by omega,weak_of ?_ ?_⟩<;>(try simp (disch:=omega) only [go_sem])<;>(try first|done|omega|rfl|exact ⟨rfl,rfl⟩|trivial)
    ·have hpr:prevI l x=l.getD (x-1) 0:=by unfold prevI;rw [if_neg x0]
     have c3:(0:Int)<(x:Int):=by omega
     have hx1:x-1<l.length:=by omega
     have g4:l.getD (x-1) 0=l[x-1]:=lget_lt l 0 hx1
     have g5:=map_get I l hx1
     have g6:((x:Int)-1).toNat=x-1:=by omega
     rw [g4] at hpr
     by_cases c1:l[x]≤l[x-1]
     ·have e:risB n l=false:=hno fun h=>by omega
      (repeat (first|(with_reducible first|refine W_seq fun K hK=>?_|refine J_block ?_|refine J_skip ?_|refine J_ret ?_|refine J_region ?_ |refine J_drawn mixed (by kernel_rfl) ?_|refine J_c ?_|refine Jc_true ?_|(refine Kont.go (by assumption) ?_)|(simp (config:={ maxSteps:=3000000 }) (disch:=omega) only [go_sem,↓reduceIte,g1,g5,g6,c0,c2,c3,c1,true_and]))|refine And.intro (by omega) ?_))
      rw [e]
      exact Frz.f _
     ·(repeat (first|(with_reducible first|refine W_seq fun K hK=>?_|refine J_block ?_|refine J_skip ?_|refine J_region ?_ |refine J_drawn mixed (by kernel_rfl) ?_|refine J_c ?_|refine Jc_false ?_|(refine Kont.go (by assumption) ?_)|(simp (config:={ maxSteps:=3000000 }) (disch:=omega) only [go_sem,↓reduceIte,g1,g5,g6,c0,c2,c3,c1,true_and]))|refine And.intro (by omega) ?_))
      refine ⟨x+1,⟨by omega,upto_next (p:=fun j=>prevI l j<l.getD j 0∧l.getD j 0<(n:Int)) hp ⟨by rw [g3];omega,by rw [g3];omega⟩⟩,by omega,weak_of ?_ ?_⟩<;>(try simp (disch:=omega) only [go_sem])<;>(try first|done|omega|rfl|exact ⟨rfl,rfl⟩|trivial)
 ·have he:x=l.length:=by omega
  subst he
  have e:risB n l=true:=risB_iff.2 hp
  (repeat (with_reducible first|refine W_seq fun K hK=>?_|refine J_exit ?_|refine J_ret ?_|refine J_region ?_ |(refine Kont.go (by assumption) ?_)|(simp (config:={ maxSteps:=3000000 }) (disch:=omega) only [go_sem,↓reduceIte])))
  rw [e]
  exact Frz.f _
end Go.Proofs.YthehegidpamldaaGreatDoor
set_option linter.unusedVariables false
set_option linter.unusedSimpArgs false
namespace Go.Proofs.YthehegidpamldaaGreatDoor
open Go Go.RowKit
theorem nodT:∀{n:Nat} {l:List Nat},l.Nodup→(∀a∈l,a<n)→l.length≤n:=by
 intro n
 induction n with
 | zero =>
  intro l _ h
  cases l with
  | nil=>exact Nat.le_refl _
  | cons a l=>exact absurd (h a (by simp)) (by omega)
 | succ n ih =>
  intro l hd h
  by_cases hm:n∈l
  ·have h1:=ih (l:=l.erase n) (hd.erase n) fun a ha=>by
    obtain ⟨h2,h3⟩:=hd.mem_erase_iff.1 ha
    have:=h a h3
    omega
   rw [List.length_erase_of_mem hm] at h1
   omega
  ·have h1:=ih hd fun a ha=>by
    have:=h a ha
    have:a≠n:=fun e=>hm (e▸ha)
    omega
   omega
structure OkT (Z l : List Nat) : Prop where
  z1 : 1 ≤ Z.length
  z8 : Z.length ≤ 8
  zp : ∀ n ∈ Z, 1 ≤ n
  z4 : ∀ n ∈ Z, n ≤ 4
  ris : l.Pairwise (· < ·)
  lt : ∀ v ∈ l, v < Z.length
def szT (Z:List Nat) (v:Nat):Nat:=Z.getD v 0
def fitB (s:List Int):Bool:=decide (1≤s.length∧s.length≤8)&&s.all fun n=>decide (1≤n∧n≤4)
def okB (s l:List Int):Bool:=fitB s&&risB s.length l
section
variable {Z l m : List Nat} {v : Nat}
theorem OkT.sub (h:OkT Z l) (hr:m.Pairwise (·< ·)) (hm:∀v∈m,v<Z.length):OkT Z m:=⟨h.z1,h.z8,h.zp,h.z4,hr,hm⟩
theorem OkT.nd (h:OkT Z l):l.Nodup:=List.Pairwise.imp (fun h e=>by omega) h.ris
theorem OkT.len (h:OkT Z l):l.length≤8:=Nat.le_trans (nodT h.nd h.lt) h.z8
theorem OkT.szp (h:OkT Z l) (hv:v<Z.length):1≤szT Z v:=by
 unfold szT;rw [lget_lt Z 0 hv];exact h.zp _ (List.getElem_mem _)
theorem OkT.sz4 (h:OkT Z l) (hv:v<Z.length):szT Z v≤4:=by
 unfold szT;rw [lget_lt Z 0 hv];exact h.z4 _ (List.getElem_mem _)
theorem OkT.pos (h:OkT Z l):∀v∈l,1≤szT Z v:=fun v hv=>h.szp (h.lt v hv)
theorem OkT.cnt1 (h:OkT Z l):1≤cntS (szT Z) l:=cntS_pos h.pos
theorem OkT.cnt (h:OkT Z l):cntS (szT Z) l≤65536:=by
 have h1:=cntS_le (S:=szT Z) (l:=l) fun v hv=>h.sz4 (h.lt v hv)
 have h2:4^l.length≤4^8:=Nat.pow_le_pow_right (by decide) h.len
 have h3:(4:Nat)^8=65536:=by decide
 omega
theorem OkT.ztake (h:OkT Z l) (i:Nat):OkT Z (l.take i):=h.sub (h.ris.sublist (List.take_sublist _ _)) fun v hv=>h.lt v (List.mem_of_mem_take hv)
theorem OkT.zdrop (h:OkT Z l) (i:Nat):OkT Z (l.drop i):=h.sub (h.ris.sublist (List.drop_sublist _ _)) fun v hv=>h.lt v (List.mem_of_mem_drop hv)
theorem OkT.get (h:OkT Z l) {i:Nat} (hi:i<l.length):l.getD i 0<Z.length:=by rw [lget_lt l 0 hi];exact h.lt _ (List.getElem_mem _)
end
theorem pwT {n:Nat} {l:List Int}:risB n l=true↔l.Pairwise (·< ·)∧∀x∈l,0≤x∧x<(n:Int):=by
 rw [risB_iff]
 constructor
 ·intro h
  have hlt:∀i j,i<j→j<l.length→l.getD i 0<l.getD j 0:=by
   intro i j
   induction j with
   | zero=>intro h;omega
   | succ j ih =>
    intro hij hj
    have h1:=(h (j+1) hj).1
    rw [prevI_next] at h1
    by_cases e:i=j
    ·subst e;exact h1
    ·have:=ih (by omega) (by omega);omega
  have hnn:∀j,j<l.length→0≤l.getD j 0:=(ris_nn (x:=l.length) (n:=n) h).2
  refine ⟨List.pairwise_iff_getElem.2 fun i j hi hj hij=>?_,fun x hx=>?_⟩
  ·have:=hlt i j hij hj
   rwa [lget_lt l 0 hi,lget_lt l 0 hj] at this
  ·obtain ⟨j,hj,rfl⟩:=List.getElem_of_mem hx
   have h1:=hnn j hj
   have h2:=(h j hj).2
   rw [lget_lt l 0 hj] at h1 h2
   exact ⟨h1,h2⟩
 ·rintro ⟨hp,hm⟩ x hx
  have hxm:=hm _ (List.getElem_mem hx)
  rw [lget_lt l 0 hx]
  refine ⟨?_,hxm.2⟩
  unfold prevI
  by_cases e:x=0
  ·rw [if_pos e];omega
  ·rw [if_neg e,lget_lt l 0 (by omega)]
   exact List.pairwise_iff_getElem.1 hp (x-1) x (by omega) hx (by omega)
theorem natOf {l:List Int} (h:∀x∈l,0≤x):(l.map Int.toNat).map Int.ofNat=l:=by
 rw [List.map_map]
 conv=>rhs;rw [←List.map_id l]
 exact List.map_congr_left fun x hx=>by have:=h x hx;show ((x.toNat:Nat):Int)=x;omega
theorem okB_of {Z m:List Nat} (h:OkT Z m):okB (Z.map Int.ofNat) (m.map Int.ofNat)=true:=by
 unfold okB fitB
 rw [Bool.and_eq_true,Bool.and_eq_true,decide_eq_true_iff,List.all_eq_true,List.length_map]
 refine ⟨⟨⟨h.z1,h.z8⟩,fun x hx=>?_⟩,pwT.2 ⟨?_,fun x hx=>?_⟩⟩
 ·obtain ⟨n,hn,rfl⟩:=List.mem_map.1 hx
  have h1:=h.zp n hn
  have h4:=h.z4 n hn
  exact decide_eq_true ⟨by show (1:Int)≤(n:Int);omega,by show (n:Int)≤4;omega⟩
 ·rw [List.pairwise_map]
  exact List.Pairwise.imp (fun {a b} hab=>by show (a:Int)<(b:Int);omega) h.ris
 ·obtain ⟨n,hn,rfl⟩:=List.mem_map.1 hx
  have h1:=h.lt n hn
  exact ⟨by show (0:Int)≤(n:Int);omega,by show (n:Int)<_;omega⟩
theorem ints_Ns (l:List Nat):ints (l.map Int.ofNat)=.fz 1 (Ns l):=by unfold Ns;simp [ints]
theorem cnt_take {Z l:List Nat} {i:Nat} (hi:i<l.length):cntS (szT Z) (l.take (i+1))=cntS (szT Z) (l.take i)*szT Z (l.getD i 0):=by
 rw [List.take_add_one,List.getElem?_eq_getElem hi,cntS_app,lget_lt l 0 hi]
 show _*(szT Z l[i]*1)=_
 rw [Nat.mul_one]
def asgL (Z l:List Nat) (k:Nat):List Nat:=l.map fun v=>asgS (szT Z) l k v
theorem asgL_len {Z l:List Nat} {k:Nat}:(asgL Z l k).length=l.length:=by unfold asgL;rw [List.length_map]
theorem asgL_get {Z l:List Nat} {k i:Nat} (hi:i<l.length):(asgL Z l k).getD i 0=asgS (szT Z) l k (l.getD i 0):=by
 rw [lget_lt _ 0 (by rw [asgL_len];exact hi),lget_lt l 0 hi];unfold asgL;rw [List.getElem_map]
end Go.Proofs.YthehegidpamldaaGreatDoor
