/- The abstract machine, thirteenth part: what each operation does, as equations for a walk. Conditions: none. -/
import Derived.Test.YthehegidpamldaaGreatDoorZAmTri
set_option linter.unusedVariables false
set_option linter.unusedSimpArgs false
namespace Go.Proofs.YthehegidpamldaaGreatDoor
open Go Go.RowKit

section
variable {P : Program} {K : AS → Prop} {k : AV → Prop} {s : AS} {d : Option Tmp} {ty : TypeId} {pos : String} {af : Array Edge} {gd : Option (Nat × Bool)} {t e : TypeId} {x y z : Operand} {ops : Array Oper} {T : TI} {H : AH}
theorem put_some (l:List AV) (H:AH) (d:Tmp) (v:AV):AS.put ⟨l,H⟩ (some d) v=⟨l.set d v,H⟩:=(rfl)
theorem put_none (s:AS) (v:AV):AS.put s none v=s:=(rfl)
theorem ev_tmp (l:List AV) (H:AH) (n:Tmp):AS.ev ⟨l,H⟩ (.tmp n)=l.getD n .any:=(rfl)
theorem ev_const (s:AS) (v:Value):AS.ev s (.const v)=.f (.ofV v):=(rfl)
theorem ev_func (s:AS) (f:FuncId):AS.ev s (.func f)=.f (.fn f [] []):=(rfl)
theorem ofV_int (k:IntKind) (n:Int):FV.ofV (.int k n)=.v (.int k n):=(rfl)
theorem ofV_bool (b:Bool):FV.ofV (.bool b)=.v (.bool b):=(rfl)
theorem ofV_str (b:ByteArray):FV.ofV (.string b)=.v (.string b):=(rfl)
theorem ofV_slice (a:Option Addr) (n c:Nat):FV.ofV (.slice a n c)=.v (.slice a n c):=(rfl)
theorem ofV_agg (vs:Array Value):FV.ofV (.agg vs)=.agg (vs.toList.map .v):=(rfl)
theorem lset_zero (a v:AV) (l:List AV):(a::l).set 0 v=v::l:=(rfl)
theorem lset_succ (a v:AV) (l:List AV) (n:Nat):(a::l).set (n+1) v=a::l.set n v:=(rfl)
theorem lget_zero (a v:AV) (l:List AV):(a::l).getD 0 v=a:=(rfl)
theorem lget_succ (a v:AV) (l:List AV) (n:Nat):(a::l).getD (n+1) v=l.getD n v:=(rfl)
theorem st_f (x:FV):(AV.f x).st=x.st:=(rfl)
theorem st_agg (cs:List AV):(AV.agg cs).st=cs.all AV.oc:=(rfl)
theorem st_own (r sz o n:Nat):(AV.own r sz o n).st=true:=(rfl)
theorem st_ptr (r sz i j:Nat):(AV.ptr r sz i j).st=true:=(rfl)
theorem st_fn (f:FuncId) (a b:List AV):(AV.fn f a b).st=true:=(rfl)
theorem oc_f (x:FV):(AV.f x).oc=x.oc:=(rfl)
theorem oc_own (r sz o n:Nat):(AV.own r sz o n).oc=true:=(rfl)
theorem oc_ptr (r sz i j:Nat):(AV.ptr r sz i j).oc=true:=(rfl)
theorem fst_int (k:IntKind) (n:Int):(FV.v (.int k n)).st=true:=(rfl)
theorem fst_bool (b:Bool):(FV.v (.bool b)).st=true:=(rfl)
theorem fst_str (b:ByteArray):(FV.v (.string b)).st=true:=(rfl)
theorem fst_slice (a:Option Addr) (n c:Nat):(FV.v (.slice a n c)).st=true:=(rfl)
theorem fst_agg (cs:List FV):(FV.agg cs).st=cs.all FV.oc:=(rfl)
theorem fst_fz (sz:Nat) (es:List FV):(FV.fz sz es).st=true:=(rfl)
theorem fst_fp (x:FV) (j:Nat):(FV.fp x j).st=true:=(rfl)
theorem fst_fn (f:FuncId) (a b:List FV):(FV.fn f a b).st=true:=(rfl)
theorem foc_int (k:IntKind) (n:Int):(FV.v (.int k n)).oc=true:=(rfl)
theorem foc_bool (b:Bool):(FV.v (.bool b)).oc=true:=(rfl)
theorem foc_str (b:ByteArray):(FV.v (.string b)).oc=true:=(rfl)
theorem foc_slice (a:Option Addr) (n c:Nat):(FV.v (.slice a n c)).oc=true:=(rfl)
theorem foc_fz (sz:Nat) (es:List FV):(FV.fz sz es).oc=true:=(rfl)
theorem acells_f (x:FV):(AV.f x).cells=x.cells.map .f:=(rfl)
theorem acells_agg (cs:List AV):(AV.agg cs).cells=cs:=(rfl)
theorem acells_own (r sz o n:Nat):(AV.own r sz o n).cells=[.own r sz o n]:=(rfl)
theorem acells_ptr (r sz i j:Nat):(AV.ptr r sz i j).cells=[.ptr r sz i j]:=(rfl)
theorem acells_fn (f:FuncId) (a b:List AV):(AV.fn f a b).cells=[.fn f a b]:=(rfl)
theorem fcells_v (x:Value):(FV.v x).cells=[.v x]:=(rfl)
theorem fcells_agg (cs:List FV):(FV.agg cs).cells=cs:=(rfl)
theorem fcells_fz (sz:Nat) (es:List FV):(FV.fz sz es).cells=[.fz sz es]:=(rfl)
theorem fcells_fp (x:FV) (j:Nat):(FV.fp x j).cells=[.fp x j]:=(rfl)
theorem fcells_fn (f:FuncId) (a b:List FV):(FV.fn f a b).cells=[.fn f a b]:=(rfl)
theorem isA_f (x:FV):(AV.f x).isA=x.isA:=(rfl)
theorem isA_agg (cs:List AV):(AV.agg cs).isA=true:=(rfl)
theorem isA_own (r sz o n:Nat):(AV.own r sz o n).isA=false:=(rfl)
theorem fisA_agg (cs:List FV):(FV.agg cs).isA=true:=(rfl)
theorem fisA_v (x:Value):(FV.v x).isA=false:=(rfl)
theorem fisA_fz (sz:Nat) (es:List FV):(FV.fz sz es).isA=false:=(rfl)
theorem aend_ret {rvs:List ResultVar} {r:FV}:aend P rvs r .ret s=aresults P rvs s fun vs=>match vs with
  | [v]=>Frz s.H v r
  | vs=>∃rs,r=.tup rs∧FrzL s.H vs rs:=rfl
theorem aend_normal {rvs:List ResultVar} {r:FV}:aend P rvs r .normal s=aresults P rvs s fun vs=>match vs with
  | [v]=>Frz s.H v r
  | vs=>∃rs,r=.tup rs∧FrzL s.H vs rs:=rfl
theorem aendO_ret {rvs:List ResultVar} {r:RV}:aendO P rvs r .ret s=aresults P rvs s fun vs=>∃v,vs=[v]∧ownR s.H v r:=(rfl)
theorem aendO_normal {rvs:List ResultVar} {r:RV}:aendO P rvs r .normal s=aresults P rvs s fun vs=>∃v,vs=[v]∧ownR s.H v r:=(rfl)
theorem aendOT_ret {rvs:List ResultVar} {r:RV} {rs:List FV}:aendOT P rvs r rs .ret s=aresults P rvs s fun vs=>∃v,vs=v::rs.map .f∧rs≠[]∧ownR s.H v r∧∀x∈rs,FlatF x:=(rfl)
theorem ares_nil {k:List AV→Prop}:aresults P [] s k=k []:=(rfl)
theorem ares_cons {rv:ResultVar} {rs:List ResultVar} {k:List AV→Prop}:aresults P (rv::rs) s k=aresult P rv s fun v=>aresults P rs s fun vs=>k (v::vs):=(rfl)
theorem ares_tmp {l:List AV} {H:AH} {n:Tmp} {k:AV→Prop}:aresult P (.tmp n) ⟨l,H⟩ k=k (l.getD n .any):=(rfl)
theorem ares_cell {l:List AV} {H:AH} {n:Tmp} {k:AV→Prop}:aresult P (.cell n t) ⟨l,H⟩ k=(match tI P t with|some T=>aload T H (l.getD n .any) k|none=>False):=(rfl)
theorem ogd_zero (a d:Option Nat) (l:List (Option Nat)):(a::l).getD 0 d=a:=(rfl)
theorem ogd_succ (a d:Option Nat) (l:List (Option Nat)) (n:Nat):(a::l).getD (n+1) d=l.getD n d:=(rfl)
theorem ngd_zero (a d:Nat) (l:List Nat):(a::l).getD 0 d=a:=(rfl)
theorem ngd_succ (a d:Nat) (l:List Nat) (n:Nat):(a::l).getD (n+1) d=l.getD n d:=(rfl)
theorem setR_def (cs:List AV) (o:Nat) (ds:List AV):setR cs o ds=cs.take o++(ds++cs.drop (o+ds.length)):=(rfl)
theorem vtake_zero (l:List AV):l.take 0=[]:=(rfl)
theorem vtake_succ (a:AV) (l:List AV) (n:Nat):(a::l).take (n+1)=a::l.take n:=(rfl)
theorem vdrop_zero (l:List AV):l.drop 0=l:=(rfl)
theorem vdrop_succ (a:AV) (l:List AV) (n:Nat):(a::l).drop (n+1)=l.drop n:=(rfl)
def faO (x:Option Nat) (k:Nat→Prop):Prop:=match x with|some o=>k o|none=>False
theorem faO_some (o:Nat) (k:Nat→Prop):faO (some o) k=k o:=(rfl)
theorem rep_one (x:AV):List.replicate 1 x=[x]:=(rfl)
theorem fillA_nil (T:TI) (cs:List AV):fillA T cs []=some cs:=(rfl)
theorem fillA_cons (T:TI) (cs:List AV) (i:Nat) (x:AV) (l:List (Nat × AV)):fillA T cs ((i,x)::l)=match T.offs.getD i none with
  | some o=>if x.st=true∧x.cells.length=T.fsz.getD i 0∧o+x.cells.length≤cs.length then fillA T (setR cs o x.cells) l else none
  | none=>none:=rfl
theorem mkA_cons (a:AV) (cs:List AV):mkA (a::cs)=match allF (a::cs) with|some ds=>.f (.agg ds)|none=>.agg (a::cs):=(rfl)
theorem allF_nil:allF []=some []:=(rfl)
theorem allF_f (x:FV) (l:List AV):allF (.f x::l)=(allF l).map (x::·):=(rfl)
theorem allF_own (r sz o k:Nat) (l:List AV):allF (.own r sz o k::l)=none:=(rfl)
theorem allF_ptr (r sz i j:Nat) (l:List AV):allF (.ptr r sz i j::l)=none:=(rfl)
theorem allF_agg (cs l:List AV):allF (.agg cs::l)=none:=(rfl)
def awantG (dd:Option Tmp) (b:Bool) (s:AS) (yes no:Prop):Prop :=
 match dd with
 | some d=>match s.t[d]? with
  | some (.f (.v (.bool t)))=>if t=b then yes else no
  | some (.f (.v (.tuple _)))=>no
  | _=>False
 | none=>False
def awantV (o:Option AV) (b:Bool) (yes no:Prop):Prop :=
 match o with
  | some (.f (.v (.bool t)))=>if t=b then yes else no
  | some (.f (.v (.tuple _)))=>no
  | _=>False
def awantK (P:Program) (ops:Array Oper) (v:Option AV) (b:Bool) (o:Oper) (rest:List Oper) (K:AS→Prop) (s:AS):Prop:=awantV v b (aop P o (aops P ops rest K) s) (aops P ops rest K (s.put o.dst (.f (.v undef))))
def awantKD (P:Program) (ops:Array Oper) (v:Option AV) (b:Bool) (o:Oper) (rest:List Oper) (K:AS→Prop) (s:AS):Prop:=awantV v b (aopD P o (aopsD P ops rest K) s) (aopsD P ops rest K (s.put o.dst (.f (.v undef))))
section
variable {ops : Array Oper} {o : Oper} {rest : List Oper}
theorem awantK_undef (b:Bool):awantK P ops (some (.f (.v undef))) b o rest K s=aops P ops rest K (s.put o.dst (.f (.v undef))):=by simp [awantK,awantV,undef]
theorem awantK_tt:awantK P ops (some (.f (.v (.bool true)))) true o rest K s=aop P o (aops P ops rest K) s:=by simp [awantK,awantV]
theorem awantK_tf:awantK P ops (some (.f (.v (.bool true)))) false o rest K s=aops P ops rest K (s.put o.dst (.f (.v undef))):=by simp [awantK,awantV]
theorem awantK_ft:awantK P ops (some (.f (.v (.bool false)))) true o rest K s=aops P ops rest K (s.put o.dst (.f (.v undef))):=by simp [awantK,awantV]
theorem awantK_ff:awantK P ops (some (.f (.v (.bool false)))) false o rest K s=aop P o (aops P ops rest K) s:=by simp [awantK,awantV]
theorem awantKD_undef (b:Bool):awantKD P ops (some (.f (.v undef))) b o rest K s=aopsD P ops rest K (s.put o.dst (.f (.v undef))):=by simp [awantKD,awantV,undef]
theorem awantKD_tt:awantKD P ops (some (.f (.v (.bool true)))) true o rest K s=aopD P o (aopsD P ops rest K) s:=by simp [awantKD,awantV]
theorem awantKD_tf:awantKD P ops (some (.f (.v (.bool true)))) false o rest K s=aopsD P ops rest K (s.put o.dst (.f (.v undef))):=by simp [awantKD,awantV]
theorem awantKD_ft:awantKD P ops (some (.f (.v (.bool false)))) true o rest K s=aopsD P ops rest K (s.put o.dst (.f (.v undef))):=by simp [awantKD,awantV]
theorem awantKD_ff:awantKD P ops (some (.f (.v (.bool false)))) false o rest K s=aopD P o (aopsD P ops rest K) s:=by simp [awantKD,awantV]
end
theorem aops_nil:aops P ops [] K s=K s:=(rfl)
theorem aops_cons (op:Op) (rest:List Oper):aops P ops (⟨d,op,ty,pos,af,none⟩::rest) K s=aop P ⟨d,op,ty,pos,af,none⟩ (aops P ops rest K) s:=(rfl)
theorem aops_guard (op:Op) (rest:List Oper) (j:Nat) (b:Bool):aops P ops (⟨d,op,ty,pos,af,some (j,b)⟩::rest) K s=awantK P ops (((ops[j]?).bind (·.dst)).bind fun d=>s.t[d]?) b ⟨d,op,ty,pos,af,some (j,b)⟩ rest K s:=by
 show awantG ((ops[j]?).bind (·.dst)) b s _ _=_
 cases (ops[j]?).bind (·.dst)<;>rfl
theorem aopsD_nil:aopsD P ops [] K s=K s:=(rfl)
theorem aopsD_cons (op:Op) (rest:List Oper):aopsD P ops (⟨d,op,ty,pos,af,none⟩::rest) K s=aopD P ⟨d,op,ty,pos,af,none⟩ (aopsD P ops rest K) s:=(rfl)
theorem aopsD_guard (op:Op) (rest:List Oper) (j:Nat) (b:Bool):aopsD P ops (⟨d,op,ty,pos,af,some (j,b)⟩::rest) K s=awantKD P ops (((ops[j]?).bind (·.dst)).bind fun d=>s.t[d]?) b ⟨d,op,ty,pos,af,some (j,b)⟩ rest K s:=by
 show awantG ((ops[j]?).bind (·.dst)) b s _ _=_
 cases (ops[j]?).bind (·.dst)<;>rfl
section
variable (P K s d ty pos af gd t x y)
theorem aop_move:aop P ⟨d,.move x,ty,pos,af,gd⟩ K s=K (s.put d (s.ev x)):=(rfl)
theorem aop_assign:aop P ⟨d,.assign x,ty,pos,af,gd⟩ K s=K (s.put d (s.ev x)):=(rfl)
theorem aop_load:aop P ⟨d,.load t x,ty,pos,af,gd⟩ K s=(match tI P t with|some T=>aload T s.H (s.ev x) (fun v=>K (s.put d v))|none=>False):=(rfl)
theorem aop_box:aop P ⟨d,.box t x,ty,pos,af,gd⟩ K s=(match tI P t with|some T=>aBox t T s.H (s.ev x) (fun v H=>K (AS.put ⟨s.t,H⟩ d v))|none=>False):=(rfl)
theorem aop_alloc:aop P ⟨d,.alloc t,ty,pos,af,gd⟩ K s=(match tI P t with|some T=>aAlloc t T s.H (fun v H=>K (AS.put ⟨s.t,H⟩ d v))|none=>False):=(rfl)
theorem aop_store:aop P ⟨d,.store t x y,ty,pos,af,gd⟩ K s=(match tI P t with|some T=>aStore T s.H (s.ev x) (s.ev y) (fun H=>K (AS.put ⟨s.t,H⟩ d (.f (.v undef))))|none=>False):=(rfl)
theorem aop_make:aop P ⟨d,.makeSlice t x y,ty,pos,af,gd⟩ K s=(match tS P t with|some T=>aMake T.1 T.2 s.H (s.ev x) (s.ev y) (fun v H=>K (AS.put ⟨s.t,H⟩ d v))|none=>False):=(rfl)
theorem aop_bslice (n:Nat) (ps:Array (Nat × Operand)):aop P ⟨d,.buildSlice t n ps,ty,pos,af,gd⟩ K s=(match tS P t with|some T=>aBuildSlice T.1 T.2 s.H n (ps.toList.map fun p=>(p.1,s.ev p.2)) (fun v H=>K (AS.put ⟨s.t,H⟩ d v))|none=>False):=(rfl)
theorem aop_append (t':TypeId):aop P ⟨d,.call { callee:=.builtin .append,args:=#[x,y],argTypes:=#[t,t'] },ty,pos,af,gd⟩ K s=(t=t'∧(match tS P t with|some T=>aApp T.1 T.2 s (s.ev x) (s.ev y) (fun v s'=>K (s'.put d v))|none=>False)):=(rfl)
theorem aop_clear:aop P ⟨d,.call { callee:=.builtin .clear,args:=#[x],argTypes:=#[t] },ty,pos,af,gd⟩ K s=(match tS P t with|some T=>aClear T.2 s.H (s.ev x) (fun H=>K (AS.put ⟨s.t,H⟩ d (.f (.v (.tuple #[])))))|none=>False):=(rfl)
theorem aop_len:aop P ⟨d,.call { callee:=.builtin .len,args:=#[x],argTypes:=#[t] },ty,pos,af,gd⟩ K s=(lenOk P t (s.ev x)=true∧aLenS (s.ev x) (fun v=>K (s.put d v))):=(rfl)
theorem aop_call (f:FuncId) (args:Array Operand) (ts:Array TypeId):aop P ⟨d,.call { callee:=.value (.func f),args:=args,argTypes:=ts },ty,pos,af,gd⟩ K s=acall P f (args.toList.map s.ev) s d K:=by
 show acall P f (List.map AV.f []++args.toList.map s.ev++List.map AV.f []) s d K=_
 simp
theorem aop_callV (f:Tmp) (args:Array Operand) (ts:Array TypeId):aop P ⟨d,.call { callee:=.value (.tmp f),args:=args,argTypes:=ts },ty,pos,af,gd⟩ K s=acallV P (s.ev (.tmp f)) (args.toList.map s.ev) s d K:=(rfl)
theorem aop_bin (op:BinOp) (u:TypeId):aop P ⟨d,.binOp op t x y u,ty,pos,af,gd⟩ K s=aBin P op t x y (s.ev x) (s.ev y) (fun v=>K (s.put d v)):=(rfl)
theorem aop_un (op:UnOp):aop P ⟨d,.unOp op t x,ty,pos,af,gd⟩ K s=aUn op (s.ev x) (fun v=>K (s.put d v)):=(rfl)
theorem aop_conv (u:TypeId):aop P ⟨d,.convert t u x,ty,pos,af,gd⟩ K s=aConv P t u (s.ev x) (fun v=>K (s.put d v)):=(rfl)
theorem aop_pick (c:Operand):aop P ⟨d,.pick c x y,ty,pos,af,gd⟩ K s=(match s.ev c with|.f (.v (.bool t))=>aPick t (s.ev x) (s.ev y) (fun v=>K (s.put d v))|_=>False):=(rfl)
theorem aop_fieldAddr (f:Nat):aop P ⟨d,.fieldAddr t x f,ty,pos,af,gd⟩ K s=(match tI P t with|some T=>aFieldAddr T (s.ev x) f (fun v=>K (s.put d v))|none=>False):=(rfl)
theorem aop_indexAddr:aop P ⟨d,.indexAddr t x y,ty,pos,af,gd⟩ K s=(match tS P t with|some T=>aIndexAddr T.2 (s.ev x) (s.ev y) (fun v=>K (s.put d v))|none=>False):=(rfl)
theorem aop_index:aop P ⟨d,.index t x y,ty,pos,af,gd⟩ K s=(match tI P t with|some T=>aIndex T (s.ev x) (s.ev y) (fun v=>K (s.put d v))|none=>False):=(rfl)
theorem aop_slice (lo hi:Option Operand):aop P ⟨d,.slice t x lo hi none,ty,pos,af,gd⟩ K s=(match tS P t with|some T=>aSlice T.2 (s.ev x) (lo.map s.ev) (hi.map s.ev) (fun v=>K (s.put d v))|none=>(tI P t).any (·.str)=true∧aSliceS (s.ev x) (lo.map s.ev) (hi.map s.ev) (fun v=>K (s.put d v))):=(rfl)
theorem aop_extract (i:Nat):aop P ⟨d,.extract x i,ty,pos,af,gd⟩ K s=aExtract (s.ev x) i (fun v=>K (s.put d v)):=(rfl)
theorem aop_makeFunc (f:FuncId) (a b:Array Operand):aop P ⟨d,.makeFunc (.func f) a b,ty,pos,af,gd⟩ K s=K (s.put d (.fn f (a.toList.map s.ev) (b.toList.map s.ev))):=(rfl)
theorem aop_build (ps:Array (Nat × Operand)):aop P ⟨d,.build t ps,ty,pos,af,gd⟩ K s=(match tI P t with
  | some T=>match T.zero with
   | some z=>T.agg=true∧fieldsOk P t=true∧z.isA=true∧(if ps.size=0 then K (s.put d (.f z)) else ∃cs,fillA T (z.cells.map .f) (ps.toList.map fun p=>(p.1,s.ev p.2))=some cs∧K (s.put d (mkA cs)))
   | none=>False
  | none=>False):=rfl
theorem aop_nilCheck:aop P ⟨d,.nilCheck x,ty,pos,af,gd⟩ K s=(match s.ev x with|.ptr r sz i j=>K (s.put d (.ptr r sz i j))|.f (.fp x j)=>K (s.put d (.f (.fp x j)))|_=>False):=(rfl)
theorem aopD_move:aopD P ⟨d,.move x,ty,pos,af,gd⟩ K s=K (s.put d (s.ev x)):=(rfl)
theorem aopD_assign:aopD P ⟨d,.assign x,ty,pos,af,gd⟩ K s=K (s.put d (s.ev x)):=(rfl)
theorem aopD_load:aopD P ⟨d,.load t x,ty,pos,af,gd⟩ K s=(match tI P t with|some T=>aload T s.H (s.ev x) (fun v=>K (s.put d v))|none=>False):=(rfl)
theorem aopD_alloc:aopD P ⟨d,.alloc t,ty,pos,af,gd⟩ K s=(match tI P t with|some T=>aAlloc t T s.H (fun v H=>K (AS.put ⟨s.t,H⟩ d v))|none=>False):=(rfl)
theorem aopD_box:aopD P ⟨d,.box t x,ty,pos,af,gd⟩ K s=(match tI P t with|some T=>aBox t T s.H (s.ev x) (fun v H=>K (AS.put ⟨s.t,H⟩ d v))|none=>False):=(rfl)
theorem aopD_bslice (n:Nat) (ps:Array (Nat × Operand)):aopD P ⟨d,.buildSlice t n ps,ty,pos,af,gd⟩ K s=(match tS P t with|some T=>aBuildSlice T.1 T.2 s.H n (ps.toList.map fun p=>(p.1,s.ev p.2)) (fun v H=>K (AS.put ⟨s.t,H⟩ d v))|none=>False):=(rfl)
theorem aopD_store:aopD P ⟨d,.store t x y,ty,pos,af,gd⟩ K s=(match tI P t with|some T=>aStore T s.H (s.ev x) (s.ev y) (fun H=>K (AS.put ⟨s.t,H⟩ d (.f (.v undef))))|none=>False):=(rfl)
theorem aopD_len:aopD P ⟨d,.call { callee:=.builtin .len,args:=#[x],argTypes:=#[t] },ty,pos,af,gd⟩ K s=(lenOk P t (s.ev x)=true∧aLenS (s.ev x) (fun v=>K (s.put d v))):=(rfl)
theorem aopD_call (f:FuncId) (args:Array Operand) (ts:Array TypeId):aopD P ⟨d,.call { callee:=.value (.func f),args:=args,argTypes:=ts },ty,pos,af,gd⟩ K s=acallQ P f (args.toList.map s.ev) s.H (fun v=>K (s.put d v)):=by
 show acallQ P f (List.map AV.f []++args.toList.map s.ev++List.map AV.f []) s.H (fun v=>K (s.put d v))=_
 simp
theorem aopD_callV (f:Tmp) (args:Array Operand) (ts:Array TypeId):aopD P ⟨d,.call { callee:=.value (.tmp f),args:=args,argTypes:=ts },ty,pos,af,gd⟩ K s=acallQV P (s.ev (.tmp f)) (args.toList.map s.ev) s.H (fun v=>K (s.put d v)):=(rfl)
theorem aopD_bin (op:BinOp) (u:TypeId):aopD P ⟨d,.binOp op t x y u,ty,pos,af,gd⟩ K s=aBin P op t x y (s.ev x) (s.ev y) (fun v=>K (s.put d v)):=(rfl)
theorem aopD_un (op:UnOp):aopD P ⟨d,.unOp op t x,ty,pos,af,gd⟩ K s=aUn op (s.ev x) (fun v=>K (s.put d v)):=(rfl)
theorem aopD_conv (u:TypeId):aopD P ⟨d,.convert t u x,ty,pos,af,gd⟩ K s=aConv P t u (s.ev x) (fun v=>K (s.put d v)):=(rfl)
theorem aopD_pick (c:Operand):aopD P ⟨d,.pick c x y,ty,pos,af,gd⟩ K s=(match s.ev c with|.f (.v (.bool t))=>aPick t (s.ev x) (s.ev y) (fun v=>K (s.put d v))|_=>False):=(rfl)
theorem aopD_fieldAddr (f:Nat):aopD P ⟨d,.fieldAddr t x f,ty,pos,af,gd⟩ K s=(match tI P t with|some T=>aFieldAddr T (s.ev x) f (fun v=>K (s.put d v))|none=>False):=(rfl)
theorem aopD_indexAddr:aopD P ⟨d,.indexAddr t x y,ty,pos,af,gd⟩ K s=(match tS P t with|some T=>aIndexAddr T.2 (s.ev x) (s.ev y) (fun v=>K (s.put d v))|none=>False):=(rfl)
theorem aopD_index:aopD P ⟨d,.index t x y,ty,pos,af,gd⟩ K s=(match tI P t with|some T=>aIndex T (s.ev x) (s.ev y) (fun v=>K (s.put d v))|none=>False):=(rfl)
theorem aopD_slice (lo hi:Option Operand):aopD P ⟨d,.slice t x lo hi none,ty,pos,af,gd⟩ K s=(match tS P t with|some T=>aSlice T.2 (s.ev x) (lo.map s.ev) (hi.map s.ev) (fun v=>K (s.put d v))|none=>(tI P t).any (·.str)=true∧aSliceS (s.ev x) (lo.map s.ev) (hi.map s.ev) (fun v=>K (s.put d v))):=(rfl)
theorem aopD_extract (i:Nat):aopD P ⟨d,.extract x i,ty,pos,af,gd⟩ K s=aExtract (s.ev x) i (fun v=>K (s.put d v)):=(rfl)
theorem aopD_makeFunc (f:FuncId) (a b:Array Operand):aopD P ⟨d,.makeFunc (.func f) a b,ty,pos,af,gd⟩ K s=K (s.put d (.fn f (a.toList.map s.ev) (b.toList.map s.ev))):=(rfl)
theorem aopD_build (ps:Array (Nat × Operand)):aopD P ⟨d,.build t ps,ty,pos,af,gd⟩ K s=(match tI P t with
  | some T=>match T.zero with
   | some z=>T.agg=true∧fieldsOk P t=true∧z.isA=true∧(if ps.size=0 then K (s.put d (.f z)) else ∃cs,fillA T (z.cells.map .f) (ps.toList.map fun p=>(p.1,s.ev p.2))=some cs∧K (s.put d (mkA cs)))
   | none=>False
  | none=>False):=rfl
theorem aopD_nilCheck:aopD P ⟨d,.nilCheck x,ty,pos,af,gd⟩ K s=(match s.ev x with|.ptr r sz i j=>K (s.put d (.ptr r sz i j))|.f (.fp x j)=>K (s.put d (.f (.fp x j)))|_=>False):=(rfl)
end
section
variable {X Y : Operand} {i : IntKind} {a b : Int}
theorem bin_add:aBin P .add t X Y (.f (.v (.int i a))) (.f (.v (.int i b))) k=k (.f (.v (.int i (i.wrap (a+b))))):=by simp [aBin,abin]
theorem bin_sub:aBin P .sub t X Y (.f (.v (.int i a))) (.f (.v (.int i b))) k=k (.f (.v (.int i (i.wrap (a-b))))):=by simp [aBin,abin]
theorem bin_mul:aBin P .mul t X Y (.f (.v (.int i a))) (.f (.v (.int i b))) k=k (.f (.v (.int i (i.wrap (a*b))))):=by simp [aBin,abin]
theorem bin_eql:aBin P .eql t X Y (.f (.v (.int i a))) (.f (.v (.int i b))) k=k (.f (.v (.bool (decide (a=b))))):=by simp [aBin,abin]
theorem bin_neq:aBin P .neq t X Y (.f (.v (.int i a))) (.f (.v (.int i b))) k=k (.f (.v (.bool (!decide (a=b))))):=by simp [aBin,abin]
theorem bin_lss:aBin P .lss t X Y (.f (.v (.int i a))) (.f (.v (.int i b))) k=k (.f (.v (.bool (decide (a<b))))):=by simp [aBin,abin]
theorem bin_leq:aBin P .leq t X Y (.f (.v (.int i a))) (.f (.v (.int i b))) k=k (.f (.v (.bool (decide (a≤b))))):=by simp [aBin,abin]
theorem bin_gtr:aBin P .gtr t X Y (.f (.v (.int i a))) (.f (.v (.int i b))) k=k (.f (.v (.bool (decide (b<a))))):=by simp [aBin,abin]
theorem bin_geq:aBin P .geq t X Y (.f (.v (.int i a))) (.f (.v (.int i b))) k=k (.f (.v (.bool (decide (b≤a))))):=by simp [aBin,abin]
theorem bin_quo:aBin P .quo t X Y (.f (.v (.int i a))) (.f (.v (.int i b))) k=(b≠0∧k (.f (.v (.int i (i.wrap (a.tdiv b)))))):=by simp [aBin,aDiv]
theorem bin_rem:aBin P .rem t X Y (.f (.v (.int i a))) (.f (.v (.int i b))) k=(b≠0∧k (.f (.v (.int i (a.tmod b))))):=by simp [aBin,aDiv]
theorem bin_and:aBin P .and t X Y (.f (.v (.int i a))) (.f (.v (.int i b))) k=k (.f (.v (.int i (bits .and i a b)))):=by simp [aBin]
theorem bin_or:aBin P .or t X Y (.f (.v (.int i a))) (.f (.v (.int i b))) k=k (.f (.v (.int i (bits .or i a b)))):=by simp [aBin]
theorem bin_xor:aBin P .xor t X Y (.f (.v (.int i a))) (.f (.v (.int i b))) k=k (.f (.v (.int i (bits .xor i a b)))):=by simp [aBin]
theorem bin_andNot:aBin P .andNot t X Y (.f (.v (.int i a))) (.f (.v (.int i b))) k=k (.f (.v (.int i (bits .andNot i a b)))):=by simp [aBin]
theorem bin_shl {j:IntKind}:aBin P .shl t X Y (.f (.v (.int i a))) (.f (.v (.int j b))) k=(0≤b∧k (.f (.v (.int i (i.wrap (a*2^min b.toNat i.bits)))))):=(rfl)
theorem bin_shr {j:IntKind}:aBin P .shr t X Y (.f (.v (.int i a))) (.f (.v (.int j b))) k=(0≤b∧k (.f (.v (.int i (a.fdiv (2^min b.toNat i.bits)))))):=(rfl)
theorem bin_eqs {a b:ByteArray}:aBin P .eql t X Y (.f (.v (.string a))) (.f (.v (.string b))) k=k (.f (.v (.bool (decide (a=b))))):=(rfl)
theorem bin_nes {a b:ByteArray}:aBin P .neq t X Y (.f (.v (.string a))) (.f (.v (.string b))) k=k (.f (.v (.bool (!decide (a=b))))):=(rfl)
theorem bin_cat {a b:ByteArray}:aBin P .add t X Y (.f (.v (.string a))) (.f (.v (.string b))) k=(a.size+b.size≤9223372036854775807∧k (.f (.v (.string (a++b))))):=(rfl)
theorem bin_run {u v:FV} {U V:Value} {r:Bool} {op:BinOp} (hu:u.val=some U) (hv:v.val=some V) (hi:∀k a,u≠.v (.int k a)) (hs:∀a,u≠.v (.string a)) (h:∀w:World,(do eqGuard op t X Y U V;binOp op t U V:Sem Value).run P w=.ok (.bool r) w) :
  aBin P op t X Y (.f u) (.f v) k=k (.f (.v (.bool r))):=by
 have e:aBin P op t X Y (.f u) (.f v) k=∃U V r,u.val=some U∧v.val=some V∧(∀w:World,(do eqGuard op t X Y U V;binOp op t U V:Sem Value).run P w=.ok (.bool r) w)∧k (.f (.v (.bool r))):=by
  unfold aBin
  split
  ·rename_i e _;injection e with e;exact (hi _ _ e).elim
  ·rename_i e _;injection e with e;exact (hs _ e).elim
  ·rename_i e _;injection e with e;rw [e] at hu;cases hu
  ·rename_i e _;cases e
  ·rename_i e1 e2;injection e1 with e1;injection e2 with e2;subst e1;subst e2;rfl
  ·rename_i h1;exact (h1 _ _ rfl rfl).elim
 rw [e]
 refine propext ⟨fun ⟨U',V',r',h1,h2,h3,h4⟩=>?_,fun hk=>⟨U,V,r,hu,hv,h,hk⟩⟩
 rw [hu] at h1;rw [hv] at h2
 cases h1;cases h2
 have:=h3 default
 rw [h default] at this
 cases this;exact h4
theorem bin_eqb (hB:P.underlying t=some .bool) {a b:Bool}:aBin P .eql t X Y (.f (.v (.bool a))) (.f (.v (.bool b))) k=k (.f (.v (.bool (a==b)))) :=
 bin_run rfl rfl (fun _ _ h=>by cases h) (fun _ h=>by cases h) fun w=>by
  have:(eqGuard .eql t X Y (.bool a) (.bool b)).run P w=.ok () w:=rfl
  rw [Sem.run_bind,this,Result.andThen_ok,run_eql_bool w t a b hB]
theorem bin_eqn {sz:Nat} {x:FV} {l:List FV}:aBin P .eql t X Y (.f (.fz sz (x::l))) (.f (.v (.slice none 0 0))) k=((tS P t).isSome=true∧k (.f (.v (.bool false)))):=(rfl)
theorem bin_nen {sz:Nat} {x:FV} {l:List FV}:aBin P .neq t X Y (.f (.fz sz (x::l))) (.f (.v (.slice none 0 0))) k=((tS P t).isSome=true∧k (.f (.v (.bool true)))):=(rfl)
theorem bin_eqo {r sz o n:Nat}:aBin P .eql t X Y (.own r sz o n) (.f (.v (.slice none 0 0))) k=((tS P t).isSome=true∧k (.f (.v (.bool false)))):=(rfl)
theorem bin_neo {r sz o n:Nat}:aBin P .neq t X Y (.own r sz o n) (.f (.v (.slice none 0 0))) k=((tS P t).isSome=true∧k (.f (.v (.bool true)))):=(rfl)
theorem un_not {b:Bool}:aUn .not (.f (.v (.bool b))) k=k (.f (.v (.bool (!b)))):=(rfl)
theorem un_neg:aUn .neg (.f (.v (.int i a))) k=k (.f (.v (.int i (i.wrap (0-a))))):=(rfl)
theorem conv_str {s:ByteArray} {u:TypeId}:aConv P t u (.f (.v (.string s))) k=((tI P u).any (·.str)=true∧(tI P t).any (·.str)=true∧k (.f (.v (.string s)))):=(rfl)
theorem pick_bool {c a b:Bool}:aPick c (.f (.v (.bool a))) (.f (.v (.bool b))) k=k (.f (.v (.bool (bif c then a else b)))):=(rfl)
theorem pick_true {a b:AV}:aPick true a b k=k a:=by
 unfold aPick
 split
 ·rfl
 ·rfl
theorem pick_false {a b:AV}:aPick false a b k=k b:=by
 unfold aPick
 split
 ·rfl
 ·rfl
theorem len_own {r sz o n:Nat}:aLenS (.own r sz o n) k=k (.f (.v (.int .i64 n))):=(rfl)
theorem len_fz {sz:Nat} {es:List FV}:aLenS (.f (.fz sz es)) k=k (.f (.v (.int .i64 es.length))):=(rfl)
theorem len_str {b:ByteArray}:aLenS (.f (.v (.string b))) k=k (.f (.v (.int .i64 b.size))):=(rfl)
theorem len_nil {a:Option Addr} {n c:Nat}:aLenS (.f (.v (.slice a n c))) k=k (.f (.v (.int .i64 n))):=(rfl)
theorem lenOk_own {r sz o n:Nat}:lenOk P t (.own r sz o n)=(tS P t).isSome:=(rfl)
theorem lenOk_fz {sz:Nat} {es:List FV}:lenOk P t (.f (.fz sz es))=(tS P t).isSome:=(rfl)
theorem lenOk_str {b:ByteArray}:lenOk P t (.f (.v (.string b)))=(tI P t).any (·.str):=(rfl)
theorem lenOk_nil {a:Option Addr} {n c:Nat}:lenOk P t (.f (.v (.slice a n c)))=(tS P t).isSome:=(rfl)
theorem ix_own {r sz o n:Nat}:aIndexAddr T (.own r sz o n) (.f (.v (.int i a))) k=(T.size=sz∧(0≤a∧a<n)∧k (.ptr r sz (o+a.toNat) 0)):=(rfl)
theorem ix_fz {sz:Nat} {es:List FV}:aIndexAddr T (.f (.fz sz es)) (.f (.v (.int i a))) k=(T.size=sz∧0≤a∧∃x,es[a.toNat]?=some x∧k (.f (.fp x 0))):=(rfl)
theorem ext_tup {cs:List AV} {n:Nat}:aExtract (.tup cs) n k=∃c,cs[n]?=some c∧k c:=(rfl)
theorem ext_ftup {cs:List FV} {n:Nat}:aExtract (.f (.tup cs)) n k=∃c,cs[n]?=some c∧k (.f c):=(rfl)
theorem fa_ptrO {r sz i j f:Nat}:aFieldAddr T (.ptr r sz i j) f k=faO (T.offs.getD f none) fun o=>k (.ptr r sz i (j+o)):=by unfold aFieldAddr;cases T.offs.getD f none<;>rfl
theorem fa_fpO {x:FV} {j f:Nat}:aFieldAddr T (.f (.fp x j)) f k=faO (T.offs.getD f none) fun o=>k (.f (.fp x (j+o))):=by unfold aFieldAddr;cases T.offs.getD f none<;>rfl
theorem load_ptr {r sz i j:Nat} {H:AH}:aload T H (.ptr r sz i j) k=∃o,H[r]?=some (some o)∧o.sz=sz∧∃e,o.es[i]?=some e∧ld T e j k:=(rfl)
theorem load_fp {x:FV} {j:Nat} {H:AH}:aload T H (.f (.fp x j)) k=ldF T x j fun v=>k (.f v):=(rfl)
theorem store_ptr {r sz i j:Nat} {y:AV} {k:AH→Prop}:aStore T H (.ptr r sz i j) y k=∃o,H[r]?=some (some o)∧o.sz=sz∧y.st=true∧y.cells.length=T.size∧∃e,o.es[i]?=some e ∧
   (if j=0∧T.size=sz then k (H.set r (some ⟨o.e,sz,o.es.set i y⟩)) else j+T.size≤sz∧k (H.set r (some ⟨o.e,sz,o.es.set i (mkA (setR e.cells j y.cells))⟩))):=(rfl)
theorem ix_sl {r sz:Nat} {l:List FV}:aIndexAddr T (sl r sz l) (.f (.v (.int i a))) k=(T.size=sz∧(0≤a∧a<l.length)∧k (.ptr r sz a.toNat 0)):=by
 cases l with
 | nil=>exact propext ⟨fun h=>h.elim,fun h=>by have:=h.2.1;simp at this;omega⟩
 | cons b l=>show (T.size=sz∧(0≤a∧a<((l.length+1:Nat):Int))∧k (.ptr r sz (0+a.toNat) 0))=_;rw [Nat.zero_add];rfl
theorem len_sl {r sz:Nat} {l:List FV}:aLenS (sl r sz l) k=k (.f (.v (.int .i64 l.length))):=by cases l<;>rfl
theorem lenOk_sl {r sz:Nat} {l:List FV}:lenOk P t (sl r sz l)=(tS P t).isSome:=by cases l<;>rfl
theorem ob_some {e:TypeId} {sz:Nat} {l:List FV} {p:AO→Prop}:(∃o,ob e sz l=some o∧p o)=(0<l.length∧p ⟨e,sz,l.map .f⟩):=by
 cases l with
 | nil=>exact propext ⟨fun ⟨o,h,_⟩=>(by cases h),fun h=>absurd h.1 (by simp)⟩
 | cons b l=>exact propext ⟨fun ⟨o,h,hp⟩=>by cases h;exact ⟨by simp,hp⟩,fun h=>⟨_,rfl,h.2⟩⟩
theorem kill_f {r:Nat} {x:FV}:(AV.f x).kill r=.f x:=(rfl)
theorem kill_any {r:Nat}:AV.any.kill r=.any:=(rfl)
theorem kill_own {r q sz o n:Nat}:(AV.own q sz o n).kill r=if q=r then .any else .own q sz o n:=by
 unfold AV.kill AV.has AV.has1
 by_cases h:q=r<;>simp [h]
theorem kill_ptr {r q sz i j:Nat}:(AV.ptr q sz i j).kill r=if q=r then .any else .ptr q sz i j:=by
 unfold AV.kill AV.has AV.has1
 by_cases h:q=r<;>simp [h]
theorem kill_agg {r:Nat} {cs:List AV}:(AV.agg cs).kill r=if cs.any (AV.has1 r)=true then .any else .agg cs:=(rfl)
theorem kill_tup {r:Nat} {cs:List AV}:(AV.tup cs).kill r=if cs.any (AV.has1 r)=true then .any else .tup cs:=(rfl)
theorem kill_fn {r:Nat} {f:FuncId} {p q:List AV}:(AV.fn f p q).kill r=if (p.any (AV.has1 r)||q.any (AV.has1 r))=true then .any else .fn f p q:=(rfl)
theorem kill_sl {r q sz:Nat} {l:List FV} (h:q≠r):(sl q sz l).kill r=sl q sz l:=by
 cases l with
 | nil=>rfl
 | cons a l=>show (AV.own q sz 0 (l.length+1)).kill r=_;rw [kill_own,if_neg h];rfl
theorem has1_f {r:Nat} {x:FV}:(AV.f x).has1 r=false:=(rfl)
theorem has1_own {r q sz o n:Nat}:(AV.own q sz o n).has1 r=decide (q=r):=(rfl)
theorem has1_ptr {r q sz i j:Nat}:(AV.ptr q sz i j).has1 r=decide (q=r):=(rfl)
theorem has_f {r:Nat} {x:FV}:(AV.f x).has r=false:=(rfl)
theorem has_own {r q sz o n:Nat}:(AV.own q sz o n).has r=decide (q=r):=(rfl)
theorem has_ptr {r q sz i j:Nat}:(AV.ptr q sz i j).has r=decide (q=r):=(rfl)
theorem has_agg {r:Nat} {cs:List AV}:(AV.agg cs).has r=cs.any (AV.has1 r):=(rfl)
theorem has_fn {r:Nat} {f:FuncId} {p q:List AV}:(AV.fn f p q).has r=(p.any (AV.has1 r)||q.any (AV.has1 r)):=(rfl)
theorem any_f {r:Nat} {l:List FV}:(l.map AV.f).any (AV.has r)=false:=by simp [AV.has,AV.has1]
theorem any_repf {r n:Nat} {x:FV}:(List.replicate n (AV.f x)).any (AV.has r)=false:=by simp [AV.has,AV.has1]
theorem killO_none {r:Nat}:killO r none=none:=(rfl)
theorem map_kill1_f {r:Nat} {l:List FV}:(l.map AV.f).map (AV.kill1 r)=l.map AV.f:=by rw [List.map_map];exact List.map_congr_left fun c _=>rfl
theorem map_kill1_set {r i:Nat} {l:List AV} {x:AV}:(l.set i x).map (AV.kill1 r)=(l.map (AV.kill1 r)).set i (x.kill1 r):=by rw [List.map_set]
theorem map_kill1_app {r:Nat} {l m:List AV}:(l++m).map (AV.kill1 r)=l.map (AV.kill1 r)++m.map (AV.kill1 r):=List.map_append
theorem kill1_f {r:Nat} {x:FV}:(AV.f x).kill1 r=.f x:=(rfl)
theorem kill1_one {r:Nat}:AV.one.kill1 r=.one:=(rfl)
theorem kill1_own {r q sz o n:Nat}:(AV.own q sz o n).kill1 r=if q=r then .one else .own q sz o n:=by
 unfold AV.kill1 AV.killc AV.has AV.has1
 by_cases h:q=r<;>simp [h]
theorem kill1_ptr {r q sz i j:Nat}:(AV.ptr q sz i j).kill1 r=if q=r then .one else .ptr q sz i j:=by
 unfold AV.kill1 AV.killc AV.has AV.has1
 by_cases h:q=r<;>simp [h]
theorem kill1_fn {r:Nat} {f:FuncId} {p q:List AV}:(AV.fn f p q).kill1 r=if (p.any (AV.has1 r)||q.any (AV.has1 r))=true then .one else .fn f p q:=(rfl)
theorem kill1_agg {r:Nat} {cs:List AV}:(AV.agg cs).kill1 r=.agg (cs.map (AV.killc r)):=(rfl)
theorem killc_f {r:Nat} {x:FV}:(AV.f x).killc r=.f x:=(rfl)
theorem killc_one {r:Nat}:AV.one.killc r=.one:=(rfl)
theorem killc_own {r q sz o n:Nat}:(AV.own q sz o n).killc r=if q=r then .one else .own q sz o n:=kill1_own
theorem killc_ptr {r q sz i j:Nat}:(AV.ptr q sz i j).killc r=if q=r then .one else .ptr q sz i j:=kill1_ptr
theorem kill_one {r:Nat}:AV.one.kill r=.one:=(rfl)
theorem kill1_sl {r q sz:Nat} {l:List FV} (h:q≠r):(sl q sz l).kill1 r=sl q sz l:=by
 cases l with
 | nil=>rfl
 | cons a l=>show (AV.own q sz 0 (l.length+1)).kill1 r=_;rw [kill1_own,if_neg h];rfl
theorem killO_ob {r:Nat} {e:TypeId} {sz:Nat} {l:List FV}:killO r (ob e sz l)=ob e sz l:=by
 cases l with
 | nil=>rfl
 | cons a l=>show some (AO.mk e sz (((a::l).map AV.f).map (AV.kill1 r)))=_;rw [map_kill1_f];rfl
theorem killO_def {r:Nat} {e:TypeId} {sz:Nat} {es:List AV}:killO r (some ⟨e,sz,es⟩)=some ⟨e,sz,es.map (AV.kill1 r)⟩:=(rfl)
theorem map_fzr_f {r sz:Nat} {m:List FV} {l:List FV}:(l.map AV.f).map (AV.fzr r sz m)=l.map AV.f:=by rw [List.map_map];exact List.map_congr_left fun c _=>rfl
theorem map_fzr_set {r sz i:Nat} {m:List FV} {l:List AV} {x:AV}:(l.set i x).map (AV.fzr r sz m)=(l.map (AV.fzr r sz m)).set i (x.fzr r sz m):=by rw [List.map_set]
theorem map_fzr_app {r sz:Nat} {m:List FV} {l k:List AV}:(l++k).map (AV.fzr r sz m)=l.map (AV.fzr r sz m)++k.map (AV.fzr r sz m):=List.map_append
theorem fzr_f {r sz:Nat} {m:List FV} {x:FV}:(AV.f x).fzr r sz m=.f x:=(rfl)
theorem fzr_any {r sz:Nat} {m:List FV}:AV.any.fzr r sz m=.any:=(rfl)
theorem fzr_one {r sz:Nat} {m:List FV}:AV.one.fzr r sz m=.one:=(rfl)
theorem fzr_own {r sz q z o k:Nat} {m:List FV}:(AV.own q z o k).fzr r sz m=if q=r∧z=sz∧o=0∧k=m.length then .f (.fz sz m) else .own q z o k:=(rfl)
theorem fzr_ptr {r sz q z i j:Nat} {m:List FV}:(AV.ptr q z i j).fzr r sz m=.ptr q z i j:=(rfl)
theorem fzr_agg {r sz:Nat} {m:List FV} {cs:List AV}:(AV.agg cs).fzr r sz m=.agg (cs.map (AV.fz1 r sz m)):=(rfl)
theorem fzr_tup {r sz:Nat} {m:List FV} {cs:List AV}:(AV.tup cs).fzr r sz m=.tup cs:=(rfl)
theorem fzr_fn {r sz:Nat} {m:List FV} {f:FuncId} {p q:List AV}:(AV.fn f p q).fzr r sz m=.fn f p q:=(rfl)
theorem fz1_f {r sz:Nat} {m:List FV} {x:FV}:(AV.f x).fz1 r sz m=.f x:=(rfl)
theorem fz1_own {r sz q z o k:Nat} {m:List FV}:(AV.own q z o k).fz1 r sz m=if q=r∧z=sz∧o=0∧k=m.length then .f (.fz sz m) else .own q z o k:=(rfl)
theorem fz1_ptr {r sz q z i j:Nat} {m:List FV}:(AV.ptr q z i j).fz1 r sz m=.ptr q z i j:=(rfl)
theorem fzr_sl {r sz q z:Nat} {m l:List FV} (h:q≠r):(sl q z l).fzr r sz m=sl q z l:=by
 cases l with
 | nil=>rfl
 | cons a l=>show (AV.own q z 0 (l.length+1)).fzr r sz m=_;rw [fzr_own,if_neg (fun e=>h e.1)];rfl
theorem fzO_none {r sz:Nat} {m:List FV}:fzO r sz m none=none:=(rfl)
theorem fzO_def {r sz z:Nat} {m:List FV} {e:TypeId} {es:List AV}:fzO r sz m (some ⟨e,z,es⟩)=some ⟨e,z,es.map (AV.fzr r sz m)⟩:=(rfl)
theorem fzO_ob {r sz z:Nat} {m l:List FV} {e:TypeId}:fzO r sz m (ob e z l)=ob e z l:=by
 cases l with
 | nil=>rfl
 | cons a l=>show some (AO.mk e z (((a::l).map AV.f).map (AV.fzr r sz m)))=_;rw [map_fzr_f];rfl
theorem exN_cons {x:FV} {m:List AV} {p:List FV→Prop}:(∃news:List FV,AV.f x::m=news.map .f∧p news)=∃news:List FV,m=news.map .f∧p (x::news):=by
 refine propext ⟨?_,?_⟩
 ·rintro ⟨n,h,hp⟩
  cases n with
  | nil=>cases h
  | cons y n =>
   simp only [List.map_cons,List.cons.injEq,AV.f.injEq] at h
   obtain ⟨rfl,h⟩:=h
   exact ⟨n,h,hp⟩
 ·rintro ⟨n,h,hp⟩
  exact ⟨x::n,by rw [h];rfl,hp⟩
theorem exN_nil {p:List FV→Prop}:(∃news:List FV,([]:List AV)=news.map .f∧p news)=p []:=by
 refine propext ⟨?_,fun h=>⟨[],rfl,h⟩⟩
 rintro ⟨n,h,hp⟩
 cases n with
 | nil=>exact hp
 | cons y n=>cases h
theorem exN_map {l:List FV} {p:List FV→Prop}:(∃news:List FV,l.map AV.f=news.map .f∧p news)=p l:=propext ⟨fun ⟨n,h,hp⟩=>by
 have:l=n:=(List.map_inj_right (fun _ _ h=>by cases h;rfl)).1 h
 rw [this];exact hp,fun h=>⟨l,rfl,h⟩⟩
theorem take_all {l:List FV}:(l.map AV.f).take l.length=l.map AV.f:=List.take_of_length_le (by simp)
theorem Frz.sl {H:List (Option AO)} {r sz:Nat} {e:TypeId} {l:List FV} (ho:H[r]?=some (ob e sz l)):Frz H (sl r sz l) (.fz sz l):=by
 by_cases hl:l=[]
 ·subst hl;exact .nil sz
 ·rw [sl_pos hl];rw [ob_pos hl] at ho;exact .own0 ho rfl
end
end
attribute [go_sem] aopD_alloc aopD_box aopD_bslice put_some put_none ev_tmp ev_const ev_func ofV_int ofV_bool ofV_str ofV_slice ofV_agg lset_zero lset_succ lget_zero lget_succ st_f st_agg st_own st_ptr st_fn oc_f
attribute [go_sem] oc_own oc_ptr fst_int fst_bool fst_str fst_slice fst_agg fst_fz fst_fp fst_fn foc_int foc_bool foc_str foc_slice foc_fz acells_f acells_agg acells_own acells_ptr
attribute [go_sem] acells_fn fcells_v fcells_agg fcells_fz fcells_fp fcells_fn isA_f isA_agg isA_own fisA_agg fisA_v fisA_fz aend_ret aend_normal aendO_ret aendO_normal aendOT_ret
attribute [go_sem] ares_nil ares_cons ares_tmp ares_cell ogd_zero ogd_succ ngd_zero ngd_succ setR_def vtake_zero vtake_succ vdrop_zero vdrop_succ faO_some rep_one fillA_nil
attribute [go_sem] fillA_cons mkA_cons allF_nil allF_f allF_own allF_ptr allF_agg awantK_undef awantK_tt awantK_tf awantK_ft awantK_ff awantKD_undef awantKD_tt awantKD_tf awantKD_ft
attribute [go_sem] awantKD_ff aops_nil aops_cons aops_guard aopsD_nil aopsD_cons aopsD_guard aop_move aop_assign aop_load aop_box aop_alloc aop_store aop_make aop_bslice aop_append
attribute [go_sem] aop_len aop_clear aop_call aop_callV aop_bin aop_un aop_conv aop_pick aop_fieldAddr aop_indexAddr aop_index aop_slice aop_extract aop_makeFunc aop_build aop_nilCheck
attribute [go_sem] aopD_move aopD_assign aopD_load aopD_store aopD_len aopD_call aopD_callV aopD_bin aopD_un aopD_conv aopD_pick aopD_fieldAddr aopD_indexAddr aopD_index aopD_slice
attribute [go_sem] aopD_extract aopD_makeFunc aopD_build aopD_nilCheck bin_add bin_sub bin_mul bin_eql bin_neq bin_lss bin_leq bin_gtr bin_geq bin_quo bin_rem bin_and bin_or bin_xor
attribute [go_sem] bin_andNot bin_shl bin_shr bin_eqs bin_nes bin_cat un_not un_neg conv_str pick_bool pick_true pick_false len_own len_fz len_str len_nil lenOk_own lenOk_fz
attribute [go_sem] lenOk_str lenOk_nil ix_own ix_fz ext_tup ext_ftup fa_ptrO fa_fpO load_ptr load_fp store_ptr ix_sl len_sl lenOk_sl ob_some kill_f kill_any kill_own kill_ptr
attribute [go_sem] kill_agg kill_tup kill_fn kill_sl has1_f has1_own has1_ptr has_f has_own has_ptr has_agg has_fn any_f any_repf killO_none killO_ob killO_def exN_cons exN_nil
attribute [go_sem] exN_map take_all if_true if_false List.map_cons List.map_nil List.length_cons List.length_nil List.length_map List.getElem?_cons_zero List.getElem?_cons_succ
attribute [go_sem] Option.some.injEq exists_eq_left exists_eq_left' List.nil_append List.cons_append Nat.zero_add Nat.add_zero and_true true_and decide_true decide_false
attribute [go_sem] Option.isSome_some Option.isSome_none Int.toNat_natCast Int.toNat_zero aMake aAlloc aBox aBuildSlice aAppend newsOf fillE aSlice aSliceS bound Option.map_some
attribute [go_sem] Option.map_none ld ldF List.all_cons List.all_nil Bool.and_self Bool.and_true eq_self Bool.false_eq_true ne_eq not_false_eq_true not_true_eq_false
attribute [go_sem] List.set_cons_zero List.set_cons_succ RV.hp RV.av List.append_nil Bool.not_true Bool.not_false cond_true cond_false Option.any_some exists_const
attribute [go_sem] Int.natCast_nonneg Int.ofNat_lt Int.ofNat_le List.map_replicate Int.natCast_zero List.getElem?_toArray Option.bind_some Bool.cond_true_left Bool.cond_false_right
attribute [go_sem] bin_eqn bin_nen bin_eqo bin_neo
attribute [go_sem] Bool.true_or Bool.false_or Bool.or_true Bool.or_false Bool.true_and Bool.false_and Bool.and_false List.size_toArray List.any_cons List.any_nil Bool.or_self
attribute [go_sem] List.length_append Int.lt_irrefl Int.natCast_pos Int.natCast_eq_zero or_true true_or Nat.lt_add_one AV.f.injEq FV.v.injEq Value.int.injEq AO.mk.injEq
attribute [go_sem] List.cons.injEq List.take_zero
attribute [go_sem] map_kill1_f map_kill1_set map_kill1_app kill1_f kill1_one kill1_own kill1_ptr kill1_fn kill1_agg killc_f killc_one killc_own killc_ptr kill_one kill1_sl
attribute [go_sem] map_fzr_f map_fzr_set map_fzr_app fzr_f fzr_any fzr_one fzr_own fzr_ptr fzr_agg fzr_tup fzr_fn fz1_f fz1_own fz1_ptr fzr_sl fzO_none fzO_def fzO_ob
end Go.Proofs.YthehegidpamldaaGreatDoor
