/- The abstract machine, more: one map beside the call's objects, known whole. Conditions: the map is the call's own. -/
import Derived.Test.YtgjnbcfencallaaDoorZB06
import Derived.Test.YtgjnbcfencallaaDoorZB05
import Derived.Laws.StructEq
import Derived.MapKept
import Derived.WideKeyRuns
import Derived.Test.YtgjnbcfencallaaDoorZB12
set_option linter.unusedVariables false
set_option linter.unusedSimpArgs false
namespace Go.Proofs.YtgjnbcfencallaaDoor
open Go Go.RowKit
abbrev Hd:=Nat→Option Obj
def Cx.wh (X:Cx) (h:Hd):Cx:={ X with hold:=h }
def Hd.put (h:Hd) (b:Nat) (o:Obj):Hd:=fun k=>if k=b then some o else h k
def Hd.one (b:Nat) (o:Obj):Hd:=fun k=>if k=b then some o else none
theorem Hd.one_put {b:Nat} {o o':Obj}:(Hd.one b o).put b o'=Hd.one b o':=by
 funext k;unfold Hd.put Hd.one;split<;>rfl
theorem Hd.one_self {b:Nat} {o:Obj}:Hd.one b o b=some o:=if_pos rfl
section
variable {P : Program} {X : Cx} {w : World} {F : Nat → Prop} {loc : Nat → Nat × Nat} {s : AS} {a : Act} {h h' : Hd}
theorem RelF.unhold (R:RelF (X.wh h) F loc s a w) (hX:X.hold=fun _=>none):RelF X F loc s a w :=
 ⟨R.hF,R.hG,R.hN,R.below,⟨R.defers.1,R.defers.2.1,R.defers.2.2.1,R.defers.2.2.2.1,fun b o hb=>by rw [hX] at hb;cases hb⟩,R.len,R.tmps,R.obj,R.new,R.nF,R.inj⟩
theorem wh_none (hX:X.hold=fun _=>none):X.wh (fun _=>none)=X:=by unfold Cx.wh;rw [←hX]
theorem RelF.newMap (R:RelF (X.wh h) F loc s a w) (o:Obj) (ho:∃es c,o=.map es c) :
  RelF (X.wh (h.put w.heap.size o)) (fun b=>F b∨b=w.heap.size) loc s a (w.alloc o):=by
 have R1:=R.allocO o
 have hsz:(w.alloc o).heap.size=w.heap.size+1:=by simp
 have T:Tr F loc s.H.length (w.alloc o) (fun b=>F b∨b=w.heap.size) loc s.H.length (w.alloc o):=Tr.old (fun _ _=>rfl) (fun _ h=>.inl h) (by simp) (fun _ _=>rfl)
 have hX:X.w0.heap.size≤w.heap.size:=R.below.size
 refine ⟨fun b hb=>?_,fun b hb=>.inl (R1.hG b hb),fun b hb=>?_,R1.below,⟨R1.defers.1.mono (fun _ h=>.inl h) fun _ _=>rfl,R1.defers.2.1,R1.defers.2.2.1,R1.defers.2.2.2.1,fun b o' hb=>?_⟩,R1.len,fun j x hx=>(R1.tmps j x hx).tr T,fun r p hr=>(R1.obj r p hr).tr T (hlt hr) rfl,R1.new,fun r p hr hf=>?_,R1.inj⟩
 ·rcases hb with hb|rfl
  ·exact R1.hF b hb
  ·rw [hsz];omega
 ·rcases hb with hb|rfl
  ·exact R1.hN b hb
  ·exact .inr (.inr hX)
 ·have hb:(if b=w.heap.size then some o else h b)=some o':=hb
  split at hb
  ·rename_i e;cases hb;subst e;exact ⟨ho,.inr rfl,by have:=World.alloc_heap_new w o;exact this⟩
  ·obtain ⟨h1,h2,h3⟩:=R1.defers.2.2.2.2 b o' hb
   exact ⟨h1,.inl h2,h3⟩
 ·rcases hf with hf|hf
  ·exact R1.nF r p hr hf
  ·obtain ⟨vs,hv⟩:=own_cells R hr
   have:=(Array.getElem?_eq_some_iff.1 hv).1
   omega
theorem RelF.setMap (R:RelF (X.wh h) F loc s a w) {b:Nat} {o o':Obj} (hb:h b=some o) (hb0:X.w0.heap.size≤b) (ho:∃es c,o'=.map es c):RelF (X.wh (h.put b o')) F loc s a (w.putObj b o'):=by
 obtain ⟨⟨es,c,rfl⟩,hbF,hbw⟩:=R.defers.2.2.2.2 b o hb
 have hoth:∀k,k≠b→(w.putObj b o').heap[k]?=w.heap[k]?:=fun k hk=>World.putObj_heap_other hk
 have hcell:∀k q u,w.cell? ⟨k,q,none⟩=some u→k≠b:=fun k q u hc e=>by
  subst e
  unfold World.cell? at hc
  rw [hbw] at hc
  cases hc
 have T:Tr F loc s.H.length w F loc s.H.length (w.putObj b o'):=⟨fun _ h=>h,fun k q u _ hc=>by rw [cell_of_block (hoth k (hcell k q u hc))];exact hc,Nat.le_refl _,fun _ _=>rfl⟩
 refine ⟨fun k hk=>by rw [World.putObj_size];exact R.hF k hk,R.hG,R.hN,R.below.trans ⟨rfl,rfl,rfl,by rw [World.putObj_size];exact Nat.le_refl _,fun k _ hno=>hoth k fun e=>hno (.inr (by rw [e];exact hb0))⟩,⟨⟨fun d hd=>?_,R.defers.1.2⟩,R.defers.2.1,R.defers.2.2.1,R.defers.2.2.2.1,fun k p hk=>?_⟩,R.len,fun j x hj=>(R.tmps j x hj).tr T,fun r q hr=>?_,R.new,R.nF,R.inj⟩
 ·obtain ⟨D,e,hf,hB,hD⟩:=R.defers.1.1 d hd
  exact ⟨D,e,hf,hB,(hoth D fun e=>by rw [e,hbw] at hD;cases hD).trans hD⟩
 ·have hk:(if k=b then some o' else h k)=some p:=hk
  split at hk
  ·rename_i e;cases hk;subst e;exact ⟨ho,hbF,World.putObj_heap_same (R.hF _ hbF)⟩
  ·rename_i e
   obtain ⟨h1,h2,h3⟩:=R.defers.2.2.2.2 k p hk
   exact ⟨h1,h2,(hoth k e).trans h3⟩
 ·obtain ⟨vs,hv⟩:=own_cells R hr
  exact (R.obj r q hr).tr T (hlt hr) (hoth _ fun e=>by rw [e,hbw] at hv;cases hv)
def aopX (X:Cx) (P:Program) (o:Oper) (K:Hd→AS→Prop) (h:Hd) (s:AS):Prop :=
 match o.op with
 | .makeMap t none=>∀b,X.w0.heap.size≤b→K (h.put b (.map #[] 0)) (s.put o.dst (.f (.v (.map (some b)))))
 | .lookup t m k false=>∃(b:Nat) (ob:Obj) (x:FV) (kv r:Value),s.ev m=.f (.v (.map (some b)))∧h b=some ob∧s.ev k=.f x∧x.val=some kv∧(∀w:World,w.heap[b]?=some ob→(Instr.lookup t (.map (some b)) kv false).run P w=.ok r w)∧K h (s.put o.dst (.f (.v r)))
 | .mapUpdate t m k x=>∃(b:Nat) (ob ob':Obj) (y z:FV) (kv xv:Value),s.ev m=.f (.v (.map (some b)))∧h b=some ob∧X.w0.heap.size≤b∧s.ev k=.f y∧y.val=some kv∧s.ev x=.f z∧z.val=some xv ∧
   (∀w:World,w.heap[b]?=some ob→(Instr.mapUpdate t (.map (some b)) kv xv).run P w=.ok () (w.putObj b ob'))∧(∃es c,ob'=.map es c)∧K (h.put b ob') (s.put o.dst (.f (.v undef)))
 | _=>aop P o (K h) s
def aopsX (X:Cx) (P:Program) (ops:Array Oper):List Oper→(Hd→AS→Prop)→Hd→AS→Prop
 | [],K,h,s=>K h s
 | o::rest,K,h,s=>awant ops o s (aopX X P o (aopsX X P ops rest K) h s) (aopsX X P ops rest K h (s.put o.dst (.f (.v undef))))
theorem aopX_sound {n:Nat} (R:RelF (X.wh h) F loc s a w) {o:Oper} (hd:∀j,o.dst=some j→X.kp j=false) {K:Hd→AS→Prop} (hK:aopX X P o K h s) {Q:Exit→Act→World→Prop} :
  o.wpIn (fen X.rd) n P a w (fun a' w'=>∃h' s',K h' s'∧Rel (X.wh h') s' a' w') Q:=by
 unfold aopX at hK
 split at hK
 ·rename_i t hop
  have hb0:X.w0.heap.size≤w.heap.size:=R.below.size
  have hk:=hK w.heap.size hb0
  have hrun:(execOp a.eval o).run P w=.ok (.value (.map (some w.heap.size))) (w.alloc (.map #[] 0)):=by
   simp [execOp,hop,Instr.makeMap]
  refine in_of hrun (nd hop) ?_
  exact ⟨_,_,hk,_,loc,(R.newMap (.map #[] 0) ⟨_,_,rfl⟩).put o.dst (.f _ _ (.v _)) hd⟩
 ·rename_i t m k hop
  obtain ⟨b,ob,x,kv,r,hm,hb,hk,hx,hrun,hK⟩:=hK
  obtain ⟨_,_,hbw⟩:=R.defers.2.2.2.2 b ob hb
  have e1:=R.ev m
  rw [hm] at e1
  have e2:=R.ev k
  rw [hk] at e2
  have e1:=v_rep e1
  have e3:a.eval k=kv:=by cases e2 with|f _ _ h=>exact val_rep hx h
  have hr:=hrun w hbw
  have:(execOp a.eval o).run P w=.ok (.value r) w:=by simp [execOp,hop,e1,e3,hr]
  refine in_of this (nd hop) ?_
  exact ⟨_,_,hK,_,loc,R.put o.dst (.f _ _ (.v _)) hd⟩
 ·rename_i t m k x hop
  obtain ⟨b,ob,ob',y,z,kv,xv,hm,hb,hb0,hk,hy,hx,hz,hrun,ho,hK⟩:=hK
  obtain ⟨_,_,hbw⟩:=R.defers.2.2.2.2 b ob hb
  have e1:=R.ev m
  rw [hm] at e1
  have e2:=R.ev k
  rw [hk] at e2
  have e4:=R.ev x
  rw [hx] at e4
  have e1:=v_rep e1
  have e3:a.eval k=kv:=by cases e2 with|f _ _ h=>exact val_rep hy h
  have e5:a.eval x=xv:=by cases e4 with|f _ _ h=>exact val_rep hz h
  have hr:=hrun w hbw
  have:(execOp a.eval o).run P w=.ok .skip (w.putObj b ob'):=by simp [execOp,hop,e1,e3,e5,hr]
  refine in_of this (nd hop) ?_
  exact ⟨_,_,hK,_,loc,(R.setMap hb hb0 ho).put o.dst (.f _ _ (.v _)) hd⟩
 ·exact Oper.wpIn_mono (fun a' w' ⟨s',h1,h2⟩=>⟨h,s',h1,h2⟩) (aop_sound (X:=X.wh h) R hd hK)
theorem aopsX_sound {m:Nat} {ops:Array Oper} (hk:∀(i:Nat) o,ops[i]?=some o→∀j,o.dst=some j→X.kp j=false):∀(n i:Nat) (K:Hd→AS→Prop) (h:Hd) (s:AS) (a:Act) (w:World),i+n=ops.size→aopsX X P ops (ops.toList.drop i) K h s→Rel (X.wh h) s a w→∀{Q:Exit→Act→World→Prop},(∀h s a w,K h s→Rel (X.wh h) s a w→Q .normal a w) →
  wpOpsIn (fen X.rd) m P ops Q (List.range' i n) a w:=by
 intro n
 induction n with
 | zero =>
  intro i K h s a w hi hh hR Q hQ
  rw [List.drop_of_length_le (by rw [Array.length_toList];omega)] at hh
  exact hQ h s a w hh hR
 | succ n ih =>
  intro i K h s a w hi hh hR Q hQ
  have hil:i<ops.size:=by omega
  rw [List.drop_eq_getElem_cons (by rw [Array.length_toList];exact hil)] at hh
  rw [List.range'_succ]
  have ho:ops[i]?=some ops.toList[i]:=by simp [hil]
  simp only [wpOpsIn,ho]
  obtain ⟨F,loc,R⟩:=hR
  rcases awant_sound R hh with ⟨hw,hh⟩|⟨hw,hh⟩
  ·rw [if_pos hw]
   refine Oper.wpIn_mono ?_ (aopX_sound R (hk i _ ho) hh)
   rintro a' w' ⟨h',s',hk,hR'⟩
   exact ih (i+1) K h' s' a' w' (by omega) hk hR' hQ
  ·rw [if_neg (by rw [hw];simp)]
   exact ⟨fun _ _=>trivial,ih (i+1) K h _ _ w (by omega) hh ⟨F,loc,R.put _ (.f _ _ (.v _)) (hk i _ ho)⟩ hQ⟩
def JH (X:Cx) (P:Program) (c:Code) (Q:Exit→Hd→AS→Prop) (h:Hd) (s:AS):Prop :=
 okC X.kp c=true→∀a w,Rel (X.wh h) s a w→c.wpIn (fen X.rd) 9 P (fun e a w=>∃h' s',Q e h' s'∧Rel (X.wh h') s' a w) a w
variable {Q : Exit → Hd → AS → Prop}
theorem JH_J {c:Code} (hJ:J (X.wh h) P c (fun e s'=>Q e h s') s):JH X P c Q h s:=fun hk a w R =>
 wpIn_mono (hJ hk a w R) fun e a w ⟨s',hq,hR⟩=>⟨h,s',hq,hR⟩
theorem J_JH {c:Code} {Q:Exit→AS→Prop} (hX:X.hold=fun _=>none) (hJ:JH X P c (fun e _ s'=>Q e s') (fun _=>none) s):J X P c Q s:=fun hk a w R=>by
 rw [←wh_none hX] at R
 exact wpIn_mono (hJ hk a w R) fun e a w ⟨h',s',hq,F,loc,hR⟩=>⟨s',hq,F,loc,hR.unhold hX⟩
theorem JH_mono {c:Code} {Q':Exit→Hd→AS→Prop} (hJ:JH X P c Q h s) (hq:∀e h s,Q e h s→Q' e h s):JH X P c Q' h s:=fun hk a w R=>wpIn_mono (hJ hk a w R) fun e a w ⟨h',s',h1,h2⟩=>⟨h',s',hq e h' s' h1,h2⟩
theorem JH_seq {x y:Code} (hJ:JH X P x (fun e h' s'=>match e with|.normal=>JH X P y Q h' s'|e=>Q e h' s') h s):JH X P (.seq x y) Q h s:=fun hk a w R=>by
 obtain ⟨hk1,hk2⟩:=Bool.and_eq_true_iff.1 (show (okC X.kp x&&okC X.kp y)=true from hk)
 refine wpIn_seq (wpIn_mono (hJ hk1 a w R) ?_)
 rintro e a' w' ⟨h',s',hq,hR⟩
 cases e with
 | normal=>exact hq hk2 a' w' hR
 | _=>exact ⟨h',s',hq,hR⟩
def KontH (K A:Hd→AS→Prop):Prop:=∀h s,A h s→K h s
theorem KontH.go {K A:Hd→AS→Prop} {h:Hd} {s:AS} (hk:KontH K A) (ha:A h s):K h s:=hk h s ha
def hthen (K:Hd→AS→Prop) (Q:Exit→Hd→AS→Prop):Exit→Hd→AS→Prop
 | .normal,h,s=>K h s
 | e,h,s=>Q e h s
def hblock (id:Nat) (Q:Exit→Hd→AS→Prop):Exit→Hd→AS→Prop
 | .exit id',h,s=>if id'=id then Q .normal h s else Q (.exit id') h s
 | e,h,s=>Q e h s
theorem hthen_n {K:Hd→AS→Prop} {Q:Exit→Hd→AS→Prop} {h:Hd} {s:AS}:hthen K Q .normal h s=K h s:=rfl
theorem hthen_x {K:Hd→AS→Prop} {Q:Exit→Hd→AS→Prop} {h:Hd} {s:AS} {i:Nat}:hthen K Q (.exit i) h s=Q (.exit i) h s:=rfl
theorem hthen_r {K:Hd→AS→Prop} {Q:Exit→Hd→AS→Prop} {h:Hd} {s:AS}:hthen K Q .ret h s=Q .ret h s:=rfl
theorem hblock_n {j:Nat} {Q:Exit→Hd→AS→Prop} {h:Hd} {s:AS}:hblock j Q .normal h s=Q .normal h s:=rfl
theorem hblock_x {j i:Nat} {Q:Exit→Hd→AS→Prop} {h:Hd} {s:AS}:hblock j Q (.exit i) h s=if i=j then Q .normal h s else Q (.exit i) h s:=rfl
theorem hblock_r {j:Nat} {Q:Exit→Hd→AS→Prop} {h:Hd} {s:AS}:hblock j Q .ret h s=Q .ret h s:=rfl
theorem HW_seq {x y:Code} (hJ:∀K:Hd→AS→Prop,KontH K (fun h s=>JH X P y Q h s)→JH X P x (hthen K Q) h s):JH X P (.seq x y) Q h s :=
 JH_seq (JH_mono (hJ (fun h s=>JH X P y Q h s) fun _ _ h=>h) fun e h s hq=>by cases e<;>exact hq)
theorem JH_block {id:Nat} {c:Code} (hJ:JH X P c (fun e h' s'=>match e with|.exit id'=>if id'=id then Q .normal h' s' else Q (.exit id') h' s'|e=>Q e h' s') h s):JH X P (.block id c) Q h s:=fun hk a w R=>by
 refine wpIn_block (wpIn_mono (hJ hk a w R) ?_)
 rintro e a' w' ⟨h',s',hq,hR⟩
 cases e with
 | exit id' =>
  unfold Exit.inBlock
  simp only at hq ⊢
  split
  ·rename_i e;rw [if_pos e] at hq;exact ⟨h',s',hq,hR⟩
  ·rename_i e;rw [if_neg e] at hq;exact ⟨h',s',hq,hR⟩
 | _=>exact ⟨h',s',hq,hR⟩
theorem HW_block {id:Nat} {c:Code} (hJ:JH X P c (hblock id Q) h s):JH X P (.block id c) Q h s:=JH_block (JH_mono hJ fun e h s hq=>by cases e<;>exact hq)
theorem JH_cond {c:Operand} {x y:Code} {t:Bool} (hc:s.ev c=.f (.v (.bool t))) (h1:t=true→JH X P x Q h s) (h2:t=false→JH X P y Q h s):JH X P (.cond c x y) Q h s:=fun hk a w R=>by
 obtain ⟨hk1,hk2⟩:=Bool.and_eq_true_iff.1 (show (okC X.kp x&&okC X.kp y)=true from hk)
 obtain ⟨F,loc,R'⟩:=R
 have hv:=R'.ev c
 rw [hc] at hv
 exact wpIn_cond_split (v_rep hv) (fun ht=>h1 ht hk1 a w ⟨F,loc,R'⟩) (fun ht=>h2 ht hk2 a w ⟨F,loc,R'⟩)
theorem JH_skip (hq:Q .normal h s):JH X P .skip Q h s:=fun _ a w R=>wpIn_skip ⟨h,s,hq,R⟩
theorem JH_exit {id:Nat} (hq:Q (.exit id) h s):JH X P (.exit id) Q h s:=fun _ a w R=>wpIn_exit ⟨h,s,hq,R⟩
theorem JH_ret (hq:Q .ret h s):JH X P .ret Q h s:=fun _ a w R=>wpIn_ret ⟨h,s,hq,R⟩
theorem JH_weak {s':AS} (hw:Weak s s') {c:Code} (hJ:JH X P c Q h s'):JH X P c Q h s:=fun hk a w ⟨F,loc,R⟩=>hJ hk a w ((R.weak hw).elim fun loc' R'=>⟨F,loc',R'⟩)
theorem JH_region {id:Nat} {ops:Array Oper} (hh:aopsX X P ops ops.toList (Q .normal) h s):JH X P (.region id ops false) Q h s:=fun hk a w R=>by
 refine wpIn_region ?_
 rw [List.range_eq_range']
 exact aopsX_sound (okOps_at hk) ops.size 0 (Q .normal) h s a w (by omega) (by simpa using hh) R fun h s a w hk hR=>⟨h,s,hk,hR⟩
theorem JH_loop {c:Code} {γ:Type} (hd:γ→Hd) (st:γ→AS) (I:γ→Prop) (μ:γ→Nat) (x0:γ) (h0:I x0) (hh:h=hd x0) (hw:Weak s (st x0))
  (round:∀x,I x→JH X P c (fun e h' s'=>match e with|.normal=>∃y,I y∧μ y<μ x∧h'=hd y∧Weak s' (st y)|e=>Q e h' s') (hd x) (st x)):JH X P (.loop c) Q h s:=fun hk a w ⟨F,loc,R⟩=>by
 refine wpIn_loop_n (P:=P) (fun n a w=>∃x,μ x=n∧I x∧Rel (X.wh (hd x)) (st x) a w) ?_ (μ x0) a w ⟨x0,rfl,h0,(R.weak hw).elim fun loc' R'=>⟨F,loc',by rw [←hh];exact R'⟩⟩
 rintro n a w ⟨x,rfl,hI,hR⟩
 refine wpIn_mono (round x hI hk a w hR) ?_
 rintro e a' w' ⟨h',s',hq,hR'⟩
 cases e with
 | normal =>
  obtain ⟨y,hy,hlt,rfl,hwk⟩:=hq
  obtain ⟨F',loc',R'⟩:=hR'
  exact ⟨μ y,hlt,y,rfl,hy,(R'.weak hwk).elim fun loc' R'=>⟨F',loc',R'⟩⟩
 | _=>exact ⟨h',s',hq,hR'⟩
theorem HW_mask (ws:List Nat) {c:Code} {t:List AV} {H:AH} (hw:Weak ⟨t,H⟩ ⟨msk ws t,H⟩) (hJ:JH X P c Q h ⟨msk ws t,H⟩):JH X P c Q h ⟨t,H⟩:=JH_weak hw hJ
theorem ren_fn1 {g:Nat→Nat} {f:FuncId} {y:FV}:AV.ren g (.fn f [.f y] [])=.fn f [.f y] []:=rfl
theorem lt0_fn1 {n:Nat} {f:FuncId} {y:FV}:(AV.lt0 n (.fn f [.f y] [])=true)=True:=eq_self true
theorem HW_join {x r:Code} {γ:Type} {t:List AV} {H:AH} {K:Hd→AS→Prop} {Q':Exit→Hd→AS→Prop} (hK:KontH K (fun h s=>JH X P r Q' h s)) (ws:List Nat) (up:γ→List (Nat × AV)) (hp:γ→AH) (I:γ→Prop)
  (arm:JH X P x (hthen (fun h' s'=>∃y,I y∧h'=h∧Weak s' ⟨sets (up y) (msk ws t),hp y⟩) Q) h ⟨t,H⟩) (rest:∀y,I y→JH X P r Q' h ⟨sets (up y) (msk ws t),hp y⟩):JH X P x (hthen K Q) h ⟨t,H⟩ :=
 JH_mono arm fun e h' s' hq=>by
  cases e with
  | normal=>obtain ⟨y,hy,rfl,hw⟩:=hq;exact hK _ _ (JH_weak hw (rest y hy))
  | _=>exact hq
theorem HW_loop {c:Code} {γ:Type} {t:List AV} {H:AH} (ws:List Nat) (hd:γ→Hd) (up:γ→List (Nat × AV)) (hp:γ→AH) (I:γ→Prop) (μ:γ→Nat) (x0:γ) (h0:I x0) (hh:h=hd x0) (hw:Weak ⟨t,H⟩ ⟨sets (up x0) (msk ws t),hp x0⟩)
  (round:∀x,I x→JH X P c (hthen (fun h' s'=>∃y,I y∧μ y<μ x∧h'=hd y∧Weak s' ⟨sets (up y) (msk ws t),hp y⟩) Q) (hd x) ⟨sets (up x) (msk ws t),hp x⟩):JH X P (.loop c) Q h ⟨t,H⟩ :=
 JH_loop hd (fun x=>⟨sets (up x) (msk ws t),hp x⟩) I μ x0 h0 hh hw fun x hx=>JH_mono (round x hx) fun e h s hq=>by cases e<;>exact hq
end
section
variable {P : Program} {X : Cx} {ops : Array Oper} {rest : List Oper} {K : Hd → AS → Prop} {h : Hd} {s : AS} {d : Option Tmp} {t ty : TypeId} {pos : String} {af : Array Edge} {m k x : Operand}
theorem aopsX_nil:aopsX X P ops [] K h s=K h s:=rfl
theorem aopsX_go {o:Oper} (hh:aop P o (aopsX X P ops rest K h) s) (hg:o.guard=none) (hm:(match o.op with|.makeMap ..|.lookup ..|.mapUpdate ..=>false|_=>true)=true):aopsX X P ops (o::rest) K h s:=by
 unfold aopsX awant
 rw [hg]
 show aopX X P o _ h s
 unfold aopX
 split<;>first|exact hh|(rename_i e;rw [e] at hm;cases hm)
theorem aopsX_make (hh:∀b,X.w0.heap.size≤b→aopsX X P ops rest K (h.put b (.map #[] 0)) (s.put d (.f (.v (.map (some b)))))):aopsX X P ops (⟨d,.makeMap t none,ty,pos,af,none⟩::rest) K h s:=hh
theorem aopsX_look {b:Nat} {ob:Obj} {y:FV} {kv r:Value} (hm:s.ev m=.f (.v (.map (some b)))) (hb:h b=some ob) (hk:s.ev k=.f y) (hv:y.val=some kv) (hr:∀w:World,w.heap[b]?=some ob→(Instr.lookup t (.map (some b)) kv false).run P w=.ok r w)
  (hh:aopsX X P ops rest K h (s.put d (.f (.v r)))):aopsX X P ops (⟨d,.lookup t m k false,ty,pos,af,none⟩::rest) K h s:=⟨b,ob,y,kv,r,hm,hb,hk,hv,hr,hh⟩
theorem aopsX_upd {b:Nat} {ob ob':Obj} {y z:FV} {kv xv:Value} (hm:s.ev m=.f (.v (.map (some b)))) (hb:h b=some ob) (hb0:X.w0.heap.size≤b) (hk:s.ev k=.f y) (hv:y.val=some kv) (hx:s.ev x=.f z) (hz:z.val=some xv)
  (hr:∀w:World,w.heap[b]?=some ob→(Instr.mapUpdate t (.map (some b)) kv xv).run P w=.ok () (w.putObj b ob')) (ho:∃es c,ob'=.map es c)
  (hh:aopsX X P ops rest K (h.put b ob') (s.put d (.f (.v undef)))):aopsX X P ops (⟨d,.mapUpdate t m k x,ty,pos,af,none⟩::rest) K h s:=⟨b,ob,ob',y,z,kv,xv,hm,hb,hb0,hk,hv,hx,hz,hr,ho,hh⟩
end
attribute [go_sem] ren_fn1 lt0_fn1 hthen_n hthen_x hthen_r hblock_n hblock_x hblock_r aopsX_nil
section
variable {P : Program} {X : Cx} {w : World} {F : Nat → Prop} {loc : Nat → Nat × Nat} {s : AS} {a : Act}
theorem goodX_of {f:FuncId} {fn:Func} {c:Code} (hf:P.funcs[f]?=some fn) (hb:fn.body=some c) (hok:enterOk P f=true) {xs:List FV} {r:FV}
  (h:∀X:Cx,(∀b,¬X.O b)→X.rd=none→(X.hold=fun _=>none)→J X P c (aend P fn.results.toList r) (ast0 xs fn.ntmps)):Good P f xs r:=by
 refine ⟨hok,fun w G ys hTab hG hrep=>?_⟩
 refine calls_of_J (X:=⟨w,G,fun _=>False,none,fun _=>false,#[],fun _=>none⟩) rfl hf hb (h ⟨w,G,fun _=>False,none,fun _=>false,#[],fun _=>none⟩ (fun _ h=>h) rfl rfl (okC_none (fun _=>rfl) _) _ w (rel0 hTab hG hrep)) ?_
 rintro e a w' s F loc hq R
 have fin:(aresults P fn.results.toList s fun vs=>match vs with|[v]=>Frz s.H v r|vs=>∃rs,r=.tup rs∧FrzL s.H vs rs)→∃v,(results fn a.tmps).run P w'=.ok v w'∧∃v',Ending.returned v=.returned v'∧Beyond (fun _=>False) w w'∧RepF w' (fun b=>G b∨(w.heap.size≤b∧b<w'.heap.size)) r v':=by
  intro hq
  obtain ⟨vs,us,hk,hl,hrs,hrun,hlen⟩:=aresults_sound R _ hq
  have hsub:∀b,(F b∨Live s loc b)→G b∨(w.heap.size≤b∧b<w'.heap.size):=fun b hb=>by
   rcases hb with hb|⟨i,o,ho,rfl⟩
   ·rcases R.hN b hb with h'|h'|h'
    ·exact .inl h'
    ·exact h'.elim
    ·exact .inr ⟨h',R.hF b hb⟩
   ·obtain ⟨_,vs,hv,_⟩:=R.obj i o ho
    rcases R.new i o ho with h'|h'
    ·exact .inr ⟨h',(Array.getElem?_eq_some_iff.1 hv).1⟩
    ·exact h'.elim
  refine ⟨_,results_run fn a.tmps us hrun,_,rfl,R.below,?_⟩
  split at hk
  ·rename_i v
   obtain ⟨u,rfl⟩:∃u,us=[u]:=by
    match us,hl with
    | [u],_=>exact ⟨u,rfl⟩
   exact ((hk.rep R).1 u (hrs 0 v u rfl rfl)).mono hsub (fun _ _ _ _ h=>h)
  ·rename_i hne
   obtain ⟨rs,rfl,hfl⟩:=hk
   have h1:us.length≠1:=fun e=>by
    rw [←hl] at e
    match vs,e with
    | [v],_=>exact hne v rfl
   rw [dif_neg h1]
   refine .tup rs us.toArray (by simp;rw [←hl];exact hfl.1.symm) fun j c hj=>?_
   have hjl:=glt hj
   have hv:=List.getElem?_eq_getElem (l:=vs) (i:=j) (by rw [hfl.1];exact hjl)
   have hu:=List.getElem?_eq_getElem (l:=us) (i:=j) (by rw [←hl,hfl.1];exact hjl)
   have e:us.toArray.getD j undef=us[j]'(by rw [←hl,hfl.1];exact hjl):=by simp [Array.getD_eq_getD_getElem?,hu]
   rw [e]
   exact (((hfl.2 j _ c hv hj).rep R).1 _ (hrs j _ _ hv hu)).mono hsub (fun _ _ _ _ h=>h)
 cases e with
 | normal=>exact fin hq
 | ret=>exact fin hq
 | _=>exact hq.elim
end
end Go.Proofs.YtgjnbcfencallaaDoor
set_option linter.unusedVariables false
set_option linter.unusedSimpArgs false
namespace Go.Proofs.YtgjnbcfencallaaDoor
open Go Go.RowKit
def kyV (p:Nat × Bool):Value:=.agg #[.int .i64 (p.1:Int),.bool p.2]
def mesF (k:Nat) (L:List (Nat × Bool)):List MapEntry:=(L.zipIdx k).map fun q=>⟨kyV q.1,.int .i64 1,q.2⟩
def mobj (L:List (Nat × Bool)):Obj:=.map (mesF 0 L).toArray L.length
section
variable {w : World} {p q : Nat × Bool} {L : List (Nat × Bool)}
set_option maxRecDepth 100000 in
theorem run_keq (w:World) (p q:Nat × Bool):(Op.equal 90 (kyV p) (kyV q)).run Tryd.prog w=.ok (decide (p=q)) w:=by
 obtain ⟨n,d⟩:=p
 obtain ⟨m,e⟩:=q
 show (Op.equalIn 10000 90 _ _).run Tryd.prog w=_
 unfold kyV
 rw [run_equalIn_agg w 9999 _ _ _ (by kernel_rfl) (by kernel_rfl)]
 unfold Program.fieldsOf
 rw [Tryd.underlying90]
 have p0:∀(a b:Value),(part 3 #[a,b] 0).run Tryd.prog w=.ok a w:=fun a b=>by kernel_rfl
 have p1:∀(a b:Value),(part 4 #[a,b] 1).run Tryd.prog w=.ok b w:=fun a b=>by kernel_rfl
 have q0:=run_equalIn_int w 9998 3 .i64 .i64 (n:Int) (m:Int) Tryd.underlying3
 have q1:=run_equalIn_bool' w 9998 4 d e Tryd.underlying4
 rw [show (9998+1:Nat)=9999 from rfl] at q0 q1
 have h1 : ("node" : String) ≠ "_" := by decide
 have h2 : ("up" : String) ≠ "_" := by decide
 show (Op.eqFields 9999 _ _ [_,_]).run _ _=_
 simp only [Op.eqFields,h1,h2,ne_eq,not_false_eq_true,if_true,Sem.run_bind,p0,Result.andThen_ok,q0]
 by_cases hn:n=m
 ·subst hn
  have hb:((n:Int)==(n:Int))=true:=by simp
  by_cases hd:d=e
  ·subst hd;simp [p1,q1]
  ·have hd2:(d==e)=false:=by simpa using hd
   simp [hd,p1,q1]
 ·have hb:((n:Int)==(m:Int))=false:=by simp;omega
  simp [hb,hn]
theorem find_no (w:World):∀(L:List (Nat × Bool)) (k i:Nat),p∉L→(Instr.findAsking 90 (kyV p) (mesF k L) i).run Tryd.prog w=.ok none w:=by
 intro L
 induction L with
 | nil=>intro k i _;rfl
 | cons q L ih =>
  intro k i h
  have h1:p≠q:=fun e=>h (by simp [e])
  have h2:p∉L:=fun e=>h (by simp [e])
  have hq:=run_keq w p q
  rw [decide_eq_false h1] at hq
  show (do if ←Op.equal 90 (kyV p) (kyV q) then pure (some (i,Value.int .i64 1)) else Instr.findAsking 90 (kyV p) (mesF (k+1) L) (i+1):Sem _).run Tryd.prog w=_
  rw [Sem.run_bind,hq]
  exact ih (k+1) (i+1) h2
theorem find_yes (w:World):∀(L:List (Nat × Bool)) (k i:Nat),p∈L→∃j,(Instr.findAsking 90 (kyV p) (mesF k L) i).run Tryd.prog w=.ok (some (j,.int .i64 1)) w:=by
 intro L
 induction L with
 | nil=>intro k i h;simp at h
 | cons q L ih =>
  intro k i h
  have hq:=run_keq w p q
  by_cases e:p=q
  ·rw [decide_eq_true e] at hq
   refine ⟨i,?_⟩
   show (do if ←Op.equal 90 (kyV p) (kyV q) then pure (some (i,Value.int .i64 1)) else Instr.findAsking 90 (kyV p) (mesF (k+1) L) (i+1):Sem _).run Tryd.prog w=_
   rw [Sem.run_bind,hq];rfl
  ·rw [decide_eq_false e] at hq
   obtain ⟨j,hj⟩:=ih (k+1) (i+1) ((List.mem_cons.1 h).resolve_left e)
   refine ⟨j,?_⟩
   show (do if ←Op.equal 90 (kyV p) (kyV q) then pure (some (i,Value.int .i64 1)) else Instr.findAsking 90 (kyV p) (mesF (k+1) L) (i+1):Sem _).run Tryd.prog w=_
   rw [Sem.run_bind,hq]
   exact hj
theorem run_fk (w:World) (x:Value) (es:List MapEntry):(Instr.findKey 90 x es).run Tryd.prog w=(Instr.findAsking 90 x es).run Tryd.prog w:=run_findKey_eq w (by kernel_rfl) x es
theorem run_ck (w:World) (b:Bool) (p:Nat × Bool):(Instr.checkKey b 10000 90 (kyV p)).run Tryd.prog w=.ok () w:=by
 unfold kyV
 kernel_rfl
theorem mes_snoc:(mesF 0 L).toArray.push ⟨kyV p,.int .i64 1,L.length⟩=(mesF 0 (L++[p])).toArray:=by
 unfold mesF
 rw [List.zipIdx_append,List.map_append]
 simp
theorem look_no {b:Nat} (h:p∉L) (w:World) (hw:w.heap[b]?=some (mobj L)):(Instr.lookup 87 (.map (some b)) (kyV p) false).run Tryd.prog w=.ok (.int .i64 0) w:=by
 have hf:=find_no (p:=p) w L 0 0 h
 have hu:Tryd.prog.underlying 87=some (.map 90 3):=Tryd.underlying87
 have hg:(getObj b).run Tryd.prog w=.ok (mobj L) w:=by simp [getObj,Sem.run,hw];rfl
 have hz:(zeroValue 3).run Tryd.prog w=.ok (.int .i64 0) w:=by kernel_rfl
 unfold Instr.lookup
 simp only [Sem.run_bind,run_underlying hu,Result.andThen_ok]
 rw [hg]
 simp only [mobj,Result.andThen_ok,Sem.run_pure,Sem.run_bind,run_ck,run_fk,hf,hz,Bool.false_eq_true,if_false]
theorem look_yes {b:Nat} (h:p∈L) (w:World) (hw:w.heap[b]?=some (mobj L)):(Instr.lookup 87 (.map (some b)) (kyV p) false).run Tryd.prog w=.ok (.int .i64 1) w:=by
 obtain ⟨j,hf⟩:=find_yes (p:=p) w L 0 0 h
 have hu:Tryd.prog.underlying 87=some (.map 90 3):=Tryd.underlying87
 have hg:(getObj b).run Tryd.prog w=.ok (mobj L) w:=by simp [getObj,Sem.run,hw];rfl
 unfold Instr.lookup
 simp only [Sem.run_bind,run_underlying hu,Result.andThen_ok]
 rw [hg]
 simp only [mobj,Result.andThen_ok,Sem.run_pure,Sem.run_bind,run_ck,run_fk,hf,Bool.false_eq_true,if_false]
theorem upd_no {b:Nat} (h:p∉L) (w:World) (hw:w.heap[b]?=some (mobj L)):(Instr.mapUpdate 87 (.map (some b)) (kyV p) (.int .i64 1)).run Tryd.prog w=.ok () (w.putObj b (mobj (L++[p]))):=by
 have hf:=find_no (p:=p) w L 0 0 h
 have hu:Tryd.prog.underlying 87=some (.map 90 3):=Tryd.underlying87
 have hg:(getObj b).run Tryd.prog w=.ok (mobj L) w:=by simp [getObj,Sem.run,hw];rfl
 unfold Instr.mapUpdate
 simp only [Sem.run_bind,run_underlying hu,Result.andThen_ok]
 rw [hg]
 simp only [mobj,Result.andThen_ok,Sem.run_bind,run_ck,run_fk,hf]
 rw [mes_snoc]
 have hs:∀o,(setObj b o).run Tryd.prog w=.ok () { w with heap:=w.heap.setIfInBounds b o }:=fun o=>by simp [setObj,Sem.run,hw,mobj]
 rw [hs]
 simp [World.putObj]
end
end Go.Proofs.YtgjnbcfencallaaDoor
set_option linter.unusedVariables false
set_option linter.unusedSimpArgs false
namespace Go.Proofs.YtgjnbcfencallaaDoor
open Go Go.RowKit
def kdB (P:List Nat) (v i u w:Nat):Bool:=(decide (w<v)&&paO P u w)||(decide (w=v)&&decide (u∈(els (P.getD v 0)).take i))
def kdS (P:List Nat) (n v i u:Nat):Nat:=setB n (kdB P v i u)
def kdL (P:List Nat) (n v i:Nat):List Nat:=(List.range n).map (kdS P n v i)
section
variable {P : List Nat} {n v i u w : Nat}
theorem kdL_len:(kdL P n v i).length=n:=by simp [kdL]
theorem kdL_get (h:u<n):(kdL P n v i).getD u 0=kdS P n v i u:=by
 rw [lget_lt _ 0 (by rw [kdL_len];exact h)];simp [kdL]
theorem kdL_zero:kdL P n 0 0=List.replicate n 0:=by
 unfold kdL
 apply List.ext_getElem?
 intro j
 by_cases hj:j<n
 ·simp [hj]
  refine ext_bits' fun w=>?_
  unfold kdS
  rw [setB_bit,Nat.zero_testBit]
  simp [kdB]
 ·rw [List.getElem?_eq_none (by simp;omega),List.getElem?_eq_none (by simp;omega)]
theorem kdS_lt (hn:n≤8):kdS P n v i u<256:=setB_lt hn
theorem kdS_step (hv:v<n) (hu:(els (P.getD v 0))[i]?=some u):kdS P n v i u|||bit v=kdS P n v (i+1) u:=ext_bits' fun w=>by
 unfold kdS
 rw [Nat.testBit_or,bit_bit,setB_bit,setB_bit]
 have h2:decide (u∈(els (P.getD v 0)).take (i+1))=true:=decide_eq_true (by rw [List.take_add_one,hu];simp)
 unfold kdB
 rw [h2]
 by_cases e:v=w
 ·subst e;simp [hv]
 ·have e':¬w=v:=fun h=>e h.symm
  simp [e,e']
theorem kdS_other (hu:(els (P.getD v 0))[i]?=some u) (hw:w≠u):kdS P n v (i+1) w=kdS P n v i w:=ext_bits' fun x=>by
 unfold kdS
 rw [setB_bit,setB_bit]
 unfold kdB
 have:decide (w∈(els (P.getD v 0)).take (i+1))=decide (w∈(els (P.getD v 0)).take i):=by
  rw [List.take_add_one,hu];simp [hw]
 rw [this]
theorem kdL_step (hv:v<n) (hu:(els (P.getD v 0))[i]?=some u) (hun:u<n):(((kdL P n v i).map U).map AV.f).set u (.f (U (kdS P n v (i+1) u)))=((kdL P n v (i+1)).map U).map .f:=by
 rw [←List.map_set,←List.map_set]
 congr 2
 unfold kdL
 rw [range_set hun]
 refine List.map_congr_left fun k hk=>?_
 by_cases e:k=u
 ·rw [if_pos e,e]
 ·rw [if_neg e,kdS_other hu e]
theorem kdL_all (hg:GP n P):kdL P n v (els (P.getD v 0)).length=kdL P n (v+1) 0:=by
 unfold kdL
 refine List.map_congr_left fun u hu=>ext_bits' fun w=>?_
 unfold kdS
 rw [setB_bit,setB_bit]
 congr 1
 unfold kdB
 rw [List.take_length,List.take_zero,mem_els hg]
 by_cases e:w=v
 ·subst e;simp
 ·have:(w<v+1)=(w<v):=propext ⟨fun h=>by omega,fun h=>by omega⟩
  simp [e,this]
theorem kd_bit (hg:GP n P) (hu:u<n):((kdL P n n 0).getD u 0).testBit w=paO P u w:=by
 rw [kdL_get hu]
 unfold kdS
 rw [setB_bit]
 unfold kdB
 rw [List.take_zero]
 rw [Bool.eq_iff_iff]
 simp only [Bool.and_eq_true,Bool.or_eq_true,decide_eq_true_eq,List.not_mem_nil,and_false,or_false]
 exact ⟨fun h=>h.2.2,fun h=>⟨(hg.pa u w h).2,(hg.pa u w h).2,h⟩⟩
end
abbrev Nd:=Nat × Bool
structure Srch (P : List Nat) (n x z : Nat) (L T : List Nd) (got : Nat) : Prop where
  nd : L.Nodup
  ball : ∀ p, p ∈ L ∨ p ∈ T → p.1 < n ∧ Ball (paO P) (anO P n z) z.testBit x.testBit p.1 p.2
  start : ∀ v, x.testBit v = true → (v, true) ∈ L ∨ (v, true) ∈ T
  down : ∀ p, p ∈ L → z.testBit p.1 = false → ∀ k, paO P p.1 k = true → (k, false) ∈ L ∨ (k, false) ∈ T
  up : ∀ p, p ∈ L → (p.2 = true ∧ z.testBit p.1 = false) ∨ (p.2 = false ∧ anO P n z p.1 = true) → ∀ u, paO P u p.1 = true → (u, true) ∈ L ∨ (u, true) ∈ T
  got : ∀ v, got.testBit v = true ↔ z.testBit v = false ∧ ∃ d, (v, d) ∈ L
  tl : T.length ≤ 8 + 16 * L.length
def IsGot (P:List Nat) (n x z g:Nat):Prop:=∀v,g.testBit v=true↔z.testBit v=false∧∃d,Ball (paO P) (anO P n z) z.testBit x.testBit v d
section
variable {P : List Nat} {n x z got g : Nat} {L T : List Nd}
theorem Srch.len (h:Srch P n x z L T got) (hn:n≤8):L.length≤16:=by
 have hsub:∀p∈L,p∈(List.range 8).flatMap fun v=>[(v,false),(v,true)]:=fun p hp=>by
  have:=(h.ball p (.inl hp)).1
  refine List.mem_flatMap.2 ⟨p.1,List.mem_range.2 (by omega),?_⟩
  obtain ⟨v,d⟩:=p
  cases d<;>simp
 have:=List.Nodup.length_le_of_subset h.nd hsub
 have e:((List.range 8).flatMap fun v=>[(v,false),(v,true)]).length=16:=by decide
 omega
theorem Srch.done (h:Srch P n x z L [] got):IsGot P n x z got:=fun v=>by
 rw [h.got v]
 have hcl:∀t d,Ball (paO P) (anO P n z) z.testBit x.testBit t d→(t,d)∈L:=by
  intro t d hb
  induction hb with
  | start hx=>exact (h.start _ hx).resolve_right (by simp)
  | down hb hz hp ih=>exact (h.down _ ih hz _ hp).resolve_right (by simp)
  | up hb hc hp ih=>exact (h.up _ ih hc _ hp).resolve_right (by simp)
 exact ⟨fun ⟨h1,d,h2⟩=>⟨h1,d,(h.ball _ (.inl h2)).2⟩,fun ⟨h1,d,h2⟩=>⟨h1,d,hcl _ _ h2⟩⟩
theorem Srch.skip {p:Nd} (h:Srch P n x z L (T++[p]) got) (hp:p∈L):Srch P n x z L T got:=by
 have hm:∀q,q∈L∨q∈T++[p]→q∈L∨q∈T:=fun q hq=>by
  rcases hq with hq|hq
  ·exact .inl hq
  ·rcases List.mem_append.1 hq with hq|hq
   ·exact .inr hq
   ·rw [List.mem_singleton.1 hq];exact .inl hp
 refine ⟨h.nd,fun q hq=>h.ball q (hq.imp id fun h=>List.mem_append_left _ h),fun v hv=>hm _ (h.start v hv),fun q hq hz k hk=>hm _ (h.down q hq hz k hk),fun q hq hc u hu=>hm _ (h.up q hq hc u hu),h.got,?_⟩
 have:=h.tl
 rw [List.length_append] at this
 omega
def nxD (P:List Nat) (n z:Nat) (p:Nd):List Nd:=if z.testBit p.1=true then [] else (els ((kdL P n n 0).getD p.1 0)).map fun k=>(k,false)
def nxU (P:List Nat) (n z:Nat) (p:Nd):List Nd:=if (p.2&&!z.testBit p.1||(!p.2&&anO P n z p.1))=true then (els (P.getD p.1 0)).map fun k=>(k,true) else []
theorem Srch.next {p:Nd} (hg:GP n P) (h:Srch P n x z L (T++[p]) got) (hp:p∉L):Srch P n x z (L++[p]) (T++(nxD P n z p++nxU P n z p)) (if z.testBit p.1=true then got else got|||bit p.1):=by
 obtain ⟨hpn,hpb⟩:=h.ball p (.inr (by simp))
 have hm:∀q,q∈L∨q∈T++[p]→q∈L++[p]∨q∈T++(nxD P n z p++nxU P n z p):=fun q hq=>by
  rcases hq with hq|hq
  ·exact .inl (List.mem_append_left _ hq)
  ·rcases List.mem_append.1 hq with hq|hq
   ·exact .inr (List.mem_append_left _ hq)
   ·exact .inl (List.mem_append_right _ hq)
 have hD:∀q,q∈nxD P n z p↔z.testBit p.1=false∧q.2=false∧paO P p.1 q.1=true:=fun q=>by
  unfold nxD
  obtain ⟨k,d⟩:=q
  cases hz:z.testBit p.1 with
  | true=>simp
  | false =>
   rw [if_neg (by decide)]
   simp only [List.mem_map,els_mem,kd_bit hg hpn,Prod.mk.injEq,true_and]
   constructor
   ·rintro ⟨a,⟨_,h1⟩,rfl,rfl⟩;exact ⟨rfl,h1⟩
   ·rintro ⟨rfl,h1⟩;exact ⟨k,⟨by have:=(hg.pa _ _ h1).2;have:=hg.n8;omega,h1⟩,rfl,rfl⟩
 have hU:∀q,q∈nxU P n z p↔((p.2=true∧z.testBit p.1=false)∨(p.2=false∧anO P n z p.1=true))∧q.2=true∧paO P q.1 p.1=true:=fun q=>by
  unfold nxU
  obtain ⟨k,d⟩:=q
  by_cases hc:(p.2&&!z.testBit p.1||(!p.2&&anO P n z p.1))=true
  ·rw [if_pos hc]
   have hc':(p.2=true∧z.testBit p.1=false)∨(p.2=false∧anO P n z p.1=true):=by simpa using hc
   simp only [List.mem_map,els_mem,Prod.mk.injEq]
   constructor
   ·rintro ⟨a,⟨_,h1⟩,rfl,rfl⟩;exact ⟨hc',rfl,h1⟩
   ·rintro ⟨_,rfl,h1⟩;exact ⟨k,⟨by have:=(hg.pa _ _ h1).1;have:=hg.n8;omega,h1⟩,rfl,rfl⟩
  ·rw [if_neg hc]
   have hc':¬((p.2=true∧z.testBit p.1=false)∨(p.2=false∧anO P n z p.1=true)):=fun h=>hc (by simpa using h)
   simp only [List.not_mem_nil,false_iff]
   exact fun h=>hc' h.1
 refine ⟨?_,fun q hq=>?_,fun v hv=>hm _ (h.start v hv),fun q hq hz k hk=>?_,fun q hq hc u hu=>?_,fun v=>?_,?_⟩
 ·exact List.nodup_append.2 ⟨h.nd,by simp,fun a ha b hb=>by rw [List.mem_singleton.1 hb];exact fun e=>hp (e▸ha)⟩
 ·rcases hq with hq|hq
  ·rcases List.mem_append.1 hq with hq|hq
   ·exact h.ball q (.inl hq)
   ·rw [List.mem_singleton.1 hq];exact ⟨hpn,hpb⟩
  ·rcases List.mem_append.1 hq with hq|hq
   ·exact h.ball q (.inr (List.mem_append_left _ hq))
   ·rcases List.mem_append.1 hq with hq|hq
    ·obtain ⟨h1,h2,h3⟩:=(hD q).1 hq
     obtain ⟨k,d⟩:=q
     subst h2
     exact ⟨(hg.pa _ _ h3).2,.down hpb h1 h3⟩
    ·obtain ⟨h1,h2,h3⟩:=(hU q).1 hq
     obtain ⟨k,d⟩:=q
     subst h2
     exact ⟨(hg.pa _ _ h3).1,.up hpb h1 h3⟩
 ·rcases List.mem_append.1 hq with hq|hq
  ·exact hm _ (h.down q hq hz k hk)
  ·rw [List.mem_singleton.1 hq] at hz hk
   exact .inr (List.mem_append_right _ (List.mem_append_left _ ((hD (k,false)).2 ⟨hz,rfl,hk⟩)))
 ·rcases List.mem_append.1 hq with hq|hq
  ·exact hm _ (h.up q hq hc u hu)
  ·rw [List.mem_singleton.1 hq] at hc hu
   exact .inr (List.mem_append_right _ (List.mem_append_right _ ((hU (u,true)).2 ⟨hc,rfl,hu⟩)))
 ·have hex:(∃d,(v,d)∈L++[p])↔(∃d,(v,d)∈L)∨v=p.1:=by
   constructor
   ·rintro ⟨d,hd⟩
    rcases List.mem_append.1 hd with hd|hd
    ·exact .inl ⟨d,hd⟩
    ·exact .inr (by rw [←List.mem_singleton.1 hd])
   ·rintro (⟨d,hd⟩|rfl)
    ·exact ⟨d,List.mem_append_left _ hd⟩
    ·exact ⟨p.2,by simp⟩
  rw [hex]
  cases hz:z.testBit p.1 with
  | true =>
   rw [if_pos rfl,h.got v]
   constructor
   ·rintro ⟨h1,h2⟩;exact ⟨h1,.inl h2⟩
   ·rintro ⟨h1,h2|h2⟩
    ·exact ⟨h1,h2⟩
    ·rw [h2,hz] at h1;cases h1
  | false =>
   rw [if_neg (by decide),Nat.testBit_or,Bool.or_eq_true,h.got v,bit_bit,decide_eq_true_eq]
   constructor
   ·rintro (⟨h1,h2⟩|h1)
    ·exact ⟨h1,.inl h2⟩
    ·exact ⟨by rw [←h1];exact hz,.inr h1.symm⟩
   ·rintro ⟨h1,h2|h2⟩
    ·exact .inl ⟨h1,h2⟩
    ·exact .inr h2.symm
 ·have h1:=h.tl
  have h2:(nxD P n z p).length≤8:=by
   unfold nxD
   split
   ·simp
   ·rw [List.length_map];exact els_len
  have h3:(nxU P n z p).length≤8:=by
   unfold nxU
   split
   ·rw [List.length_map];exact els_len
   ·simp
  simp only [List.length_append,List.length_cons,List.length_nil] at h1 ⊢
  omega
theorem IsGot.uniq (h:IsGot P n x z g) (h':IsGot P n x z got):g=got:=ext_bits' fun v=>by
 rw [Bool.eq_iff_iff,h v,h' v]
theorem Srch.init (hx:∀v,x.testBit v=true→v<n) (hn:n≤8):Srch P n x z [] ((els x).map fun v=>(v,true)) 0:=by
 refine ⟨List.nodup_nil,fun p hp=>?_,fun v hv=>.inr ?_,fun p hp=>by simp at hp,fun p hp=>by simp at hp,fun v=>by simp,?_⟩
 ·rcases hp with hp|hp
  ·simp at hp
  ·obtain ⟨v,hv,rfl⟩:=List.mem_map.1 hp
   have:=(els_mem.1 hv).2
   exact ⟨hx v this,.start this⟩
 ·exact List.mem_map.2 ⟨v,els_mem.2 ⟨by have:=hx v hv;omega,hv⟩,rfl⟩
 ·rw [List.length_map];have:=els_len (s:=x);simp;omega
theorem Srch.glt (h:Srch P n x z L T got) (hn:n≤8):got<256:=lt256 fun v hv=>by
 obtain ⟨_,d,hd⟩:=(h.got v).1 hv
 have:=(h.ball _ (.inl hd)).1
 simp only at this
 omega
theorem IsGot.lt (h:IsGot P n x z g) (hg:GP n P) (hx:∀v,x.testBit v=true→v<n):g<256:=lt256 fun v hv=>by
 obtain ⟨_,d,hb⟩:=(h v).1 hv
 have:v<n:=by
  cases hb with
  | start hx'=>exact hx v hx'
  | down _ _ hp=>exact (hg.pa _ _ hp).2
  | up _ _ hp=>exact (hg.pa _ _ hp).1
 have:=hg.n8
 omega
end
end Go.Proofs.YtgjnbcfencallaaDoor
