/- A row of numbers as text, the program's and the document's: walked. Conditions: what slices may hold; numbers of at most 100000 bytes. -/
import Derived.Test.YthehegidpamldaaGreatDoorZB11
import Derived.Test.YthehegidpamldaaGreatDoorZB12
import Derived.Shelf.Strings.Builder1
import Derived.Test.YthehegidpamldaaGreatDoorZB10
import Derived.Test.YthehegidpamldaaGreatDoorZB08
import Derived.Lib.SlTrimSet
import Derived.ChangeSame
import Derived.ProofKit
import Derived.OpenShut
import Derived.Deep.DeepHandedRow
import Derived.Lib.LaidTab
import GoSem.PinnedTables
set_option linter.unusedVariables false
set_option linter.unusedSimpArgs false
namespace Go.Proofs.YthehegidpamldaaGreatDoor
open Go Go.RowKit
theorem ba_assoc {a b c:ByteArray}:a++b++c=a++(b++c):=by
 apply ByteArray.ext;simp
def lnP (qs:List Rat):Nat→ByteArray
 | 0=>⟨#[32,58]⟩
 | i+1=>lnP qs i++(⟨#[32]⟩++bsl (fracT (qs.getD i 0)))
def lineT (qs:List Rat):ByteArray:=lnP qs qs.length++⟨#[32,59]⟩
theorem lnP_size {k:Nat} {qs:List Rat} (h:Row k qs) (h1:1≤k):∀{i:Nat},i≤qs.length→(lnP qs i).size≤2+i*(6*k+3):=by
 intro i
 induction i with
 | zero=>intro _;show 2≤_;omega
 | succ i ih =>
  intro hi
  have h2:=fracT_len (h (qs.getD i 0) (by rw [lget_lt qs 0 (by omega)];exact List.getElem_mem _)) h1
  show (lnP qs i++(⟨#[32]⟩++bsl _)).size≤_
  rw [ByteArray.size_append,ByteArray.size_append,bsl_size,Nat.add_mul]
  have:=ih (by omega)
  have:(⟨#[32]⟩:ByteArray).size=1:=rfl
  omega
theorem lineT_size {k:Nat} {qs:List Rat} (h:Row k qs) (h1:1≤k):(lineT qs).size≤4+qs.length*(6*k+3):=by
 have:=lnP_size h h1 (Nat.le_refl qs.length)
 unfold lineT
 rw [ByteArray.size_append]
 have:(⟨#[32,59]⟩:ByteArray).size=2:=rfl
 omega
set_option maxRecDepth 100000 in
set_option maxHeartbeats 4000000 in
theorem line_w {xs:List FV} {l:List Rat} {k:Nat} (hl:Frs k xs l) (h1:1≤k) (hn:l.length≤1000000) (hk:k≤100000):Good Tryz.prog 31 [.fz 3 xs] (St (lineT l)):=by
 have hr:=hl.row h1
 have hxl:=hl.len
 have hsz:=fun i hi=>lnP_size hr h1 (i:=i) hi
 have hb:l.length*(6*k+3)≤1000000*600003:=Nat.mul_le_mul hn (by omega)
 refine good_of Tryz.func31 rfl (by kernel_rfl) fun X hO hrd=>?_;rw [Tryz.ntmps31,Tryz.results31];simp only [ast0,List.map_cons,List.map_nil,List.length_cons,List.length_nil,Nat.reduceAdd,Nat.reduceSub,List.replicate_succ,List.replicate_zero,List.cons_append,List.nil_append]
 (repeat (with_reducible first|refine W_seq fun K hK=>?_|refine J_block ?_|refine J_region ?_ |(refine Kont.go (by assumption) ?_)|(simp (config:={ maxSteps:=3000000 }) (disch:=omega) only [go_sem,hxl])))
 refine W_loop [3,5,8,9,10,11,12,13,14,15,16,17] (fun x:Nat=>[(3,.f (St (lnP l x))),(8,.f (I x))]) (fun x:Nat=>[]) (fun x:Nat=>x≤l.length) (fun x:Nat=>l.length-x) (0) (Nat.zero_le _) (by refine weak_of ?_ ?_<;>simp (disch:=omega) only [go_sem]<;>first|rfl|exact ⟨rfl,rfl⟩|exact Or.inl rfl|exact ⟨Or.inl rfl,Or.inl rfl⟩|trivial|assumption|omega|(symm;assumption)|((repeat' apply And.intro)<;>first|rfl|omega|trivial|exact .inl rfl|exact .inr ⟨rfl,rfl⟩|exact .inr rfl|(right;symm;assumption)|(symm;assumption)|assumption)) ?_
 rintro x hx
 simp only [go_sem]
 (repeat (with_reducible first|refine W_seq fun K hK=>?_|refine J_region ?_ |refine J_c ?_|(refine Kont.go (by assumption) ?_)|(simp (config:={ maxSteps:=3000000 }) (disch:=omega) only [go_sem])))
 refine Jc_if (fun hxl2=>?_) (fun hxl2=>?_)<;>try simp only [decide_eq_true_eq,decide_eq_false_iff_not] at hxl2
 ·obtain ⟨g,n,d,x1,f1⟩:=hl.at3 hxl2
  have ht:=ftG_w f1 h1 (by omega)
  have hfl:=fracT_len (f1.fz h1) h1
  have hs:=hsz x hx
  have hm:=Nat.mul_le_mul_right (6*k+3) hx
  have hnx:lnP l x++(⟨#[32]⟩++bsl (fracT l[x]))=lnP l (x+1):=by show _=lnP l x++(⟨#[32]⟩++bsl (fracT (l.getD x 0)));rw [lget_lt l 0 hxl2]
  have hs1:(⟨#[32]⟩:ByteArray).size=1:=rfl
  (repeat (with_reducible first|refine W_seq fun K hK=>?_|refine J_block ?_|refine J_skip ?_|refine J_region ?_ |(refine Kont.go (by assumption) ?_)|(simp (config:={ maxSteps:=3000000 }) (disch:=omega) only [go_sem,↓reduceIte,Nat.reduceAdd,x1])))
  (first|refine call_f (ht) rfl ?_|refine callQ_f (ht) rfl ?_|refine callHK_f (ht) rfl ?_|refine callH_f (ht) rfl ?_)
  (repeat (first|(with_reducible first|refine J_region ?_ |(refine Kont.go (by assumption) ?_)|(simp (config:={ maxSteps:=3000000 }) (disch:=omega) only [go_sem,hnx,bsl_size,ByteArray.size_append,hs1]))|refine And.intro (by omega) ?_))
  refine ⟨x+1,by omega,by omega,weak_of ?_ ?_⟩<;>(try simp (disch:=omega) only [go_sem])<;>(try first|done|omega|rfl|exact ⟨rfl,rfl⟩|trivial)
 ·have hex:x=l.length:=by omega
  subst hex
  have hs:=hsz l.length (Nat.le_refl _)
  have hs2:(⟨#[32,59]⟩:ByteArray).size=2:=rfl
  (repeat (first|(with_reducible first|refine W_seq fun K hK=>?_|refine J_exit ?_|refine J_ret ?_|refine J_region ?_ |(refine Kont.go (by assumption) ?_)|(simp (config:={ maxSteps:=3000000 }) (disch:=omega) only [go_sem,↓reduceIte,Nat.reduceLeDiff,hs2]))|refine And.intro (by omega) ?_))
  exact Frz.f _
set_option maxRecDepth 100000 in
set_option maxHeartbeats 4000000 in
theorem rline_w {xs:List FV} {l:List Rat} {k:Nat} (hl:Frs k xs l) (h1:1≤k) (hn:l.length≤1000000) (hk:k≤100000):Good Tryz.prog 35 [.fz 3 xs] (St (lineT l)):=by
 have hr:=hl.row h1
 have hxl:=hl.len
 have hsz:=fun i hi=>lnP_size hr h1 (i:=i) hi
 have hb:l.length*(6*k+3)≤1000000*600003:=Nat.mul_le_mul hn (by omega)
 refine good_of Tryz.func35 rfl (by kernel_rfl) fun X hO hrd=>?_;rw [Tryz.ntmps35,Tryz.results35];simp only [ast0,List.map_cons,List.map_nil,List.length_cons,List.length_nil,Nat.reduceAdd,Nat.reduceSub,List.replicate_succ,List.replicate_zero,List.cons_append,List.nil_append]
 (repeat (with_reducible first|refine W_seq fun K hK=>?_|refine J_block ?_|refine J_region ?_ |(refine Kont.go (by assumption) ?_)|(simp (config:={ maxSteps:=3000000 }) (disch:=omega) only [go_sem])))
 refine W_loop [3,4,5,6,7,8,9,10,11,12,13,14,15,16,17,18,19,20] (fun x:Nat=>[(3,.f (St (lnP l x))),(4,.f (I x))]) (fun x:Nat=>[]) (fun x:Nat=>x≤l.length) (fun x:Nat=>l.length-x) (0) (Nat.zero_le _) (by refine weak_of ?_ ?_<;>simp (disch:=omega) only [go_sem]<;>first|rfl|exact ⟨rfl,rfl⟩|exact Or.inl rfl|exact ⟨Or.inl rfl,Or.inl rfl⟩|trivial|assumption|omega|(symm;assumption)|((repeat' apply And.intro)<;>first|rfl|omega|trivial|exact .inl rfl|exact .inr ⟨rfl,rfl⟩|exact .inr rfl|(right;symm;assumption)|(symm;assumption)|assumption)) ?_
 rintro x hx
 simp only [go_sem]
 (repeat (with_reducible first|refine W_seq fun K hK=>?_|refine J_region ?_ |refine J_c ?_|(refine Kont.go (by assumption) ?_)|(simp (config:={ maxSteps:=3000000 }) (disch:=omega) only [go_sem,hxl])))
 refine Jc_if (fun hxl2=>?_) (fun hxl2=>?_)<;>try simp only [decide_eq_true_eq,decide_eq_false_iff_not] at hxl2
 ·obtain ⟨g,n,d,x1,f1⟩:=hl.at3 hxl2
  have ht:=rfT_w f1 h1 (by omega)
  have hfl:=fracT_len (f1.fz h1) h1
  have hs:=hsz x hx
  have hm:=Nat.mul_le_mul_right (6*k+3) hx
  have hnx:lnP l x++⟨#[32]⟩++bsl (fracT l[x])=lnP l (x+1):=by show _=lnP l x++(⟨#[32]⟩++bsl (fracT (l.getD x 0)));rw [lget_lt l 0 hxl2,ba_assoc]
  have hs1:(⟨#[32]⟩:ByteArray).size=1:=rfl
  (repeat (with_reducible first|refine W_seq fun K hK=>?_|refine J_block ?_|refine J_skip ?_|refine J_region ?_ |(refine Kont.go (by assumption) ?_)|(simp (config:={ maxSteps:=3000000 }) (disch:=omega) only [go_sem,↓reduceIte,Nat.reduceAdd,x1])))
  (first|refine call_f (ht) rfl ?_|refine callQ_f (ht) rfl ?_|refine callHK_f (ht) rfl ?_|refine callH_f (ht) rfl ?_)
  (repeat (first|(with_reducible first|refine J_region ?_ |(refine Kont.go (by assumption) ?_)|(simp (config:={ maxSteps:=3000000 }) (disch:=omega) only [go_sem,Nat.reduceLeDiff,hnx,bsl_size,ByteArray.size_append,hs1]))|refine And.intro (by omega) ?_))
  refine ⟨x+1,by omega,by omega,weak_of ?_ ?_⟩<;>(try simp (disch:=omega) only [go_sem])<;>(try first|done|omega|rfl|exact ⟨rfl,rfl⟩|trivial)
 ·have hex:x=l.length:=by omega
  subst hex
  have hs:=hsz l.length (Nat.le_refl _)
  have hs2:(⟨#[32,59]⟩:ByteArray).size=2:=rfl
  (repeat (first|(with_reducible first|refine W_seq fun K hK=>?_|refine J_exit ?_|refine J_ret ?_|refine J_region ?_ |(refine Kont.go (by assumption) ?_)|(simp (config:={ maxSteps:=3000000 }) (disch:=omega) only [go_sem,↓reduceIte,Nat.reduceLeDiff,hs2]))|refine And.intro (by omega) ?_))
  exact Frz.f _
end Go.Proofs.YthehegidpamldaaGreatDoor
set_option linter.unusedVariables false
set_option linter.unusedSimpArgs false
namespace Go.Proofs.YthehegidpamldaaGreatDoor
open Go Go.RowKit
theorem bld_lies {c:Nat} (hc:1≤c):liesAt Tryz.prog Tryz.prog.depth 68 c 0 68 1=true:=by
 obtain ⟨d,hd⟩:∃d,Tryz.prog.depth=d+1:=⟨Tryz.prog.depth-1,by kernel_rfl⟩
 have hs:Tryz.prog.cellsOf 68=2:=by kernel_rfl
 have hf:sameLayout Tryz.prog Tryz.prog.depth 68 68=true:=by kernel_rfl
 rw [hd] at hf ⊢
 unfold liesAt
 rw [hd]
 unfold rowAt
 simp only [hs,hf]
 simp
 exact .inl hc
theorem bld_info:∃j,Tryz.prog.info? 68=some j∧j.size=2:=by
 have h:(Tryz.prog.info? 68).map (·.size)=some 2:=by kernel_rfl
 obtain ⟨j,hj,hs⟩:=Option.map_eq_some_iff.1 h
 exact ⟨j,hj,hs⟩
theorem wpList_appS {ops:Array Oper} {rest:List Oper} {o:Oper} {a:Act} {w w':World} {Q:Exit→Act→World→Prop} (hgd:o.guard=none) (sl x:Operand) (t u:TypeId)
  (ho:o.op=.call { callee:=.builtin .append,args:=#[sl,x],argTypes:=#[t,u] }) {v v':Value} {s:ByteArray} (hs:a.eval sl=v) (hx:a.eval x=.string s)
  (hr:(Builtin.append_ #[t,u] o.type #[v,.string s]).run Tryz.prog w=.ok v' w') (h:wpList Tryz.prog ops Q rest (a.put o.dst v') w'):wpList Tryz.prog ops Q (o::rest) a w:=by
 refine wpList_plain hgd fun K hK=>?_
 unfold Oper.wp execOp
 simp only [ho,resolve,invoke,builtin,Sem.run_bind,Sem.run_pure,Result.andThen_ok,List.map_toArray,List.map_cons,List.map_nil,hs,hx,hr]
 exact hK _ _ h
section
variable {b : Nat} {w : World}
set_option maxHeartbeats 1000000 in
set_option maxRecDepth 100000 in
theorem cc_used (h0:w.cell? ⟨b,0,none⟩=some (.pointer (some ⟨b,0,none⟩))) :
  Calls Tryz.prog 73 #[.pointer (some ⟨b,0,none⟩)] w fun e w'=>e=.returned (.tuple #[])∧w'=w:=by
 obtain ⟨j,hj,_⟩:=bld_info
 go_enter Tryz.func73,Tryz.ntmps73
 go_wp2
 rw [Lib.run_neq_ptr_same w _ Tryz.underlying65 hj]
 go_wp2
 go_end0
 exact ⟨rfl,rfl⟩
set_option maxHeartbeats 1000000 in
set_option maxRecDepth 100000 in
theorem cc_fresh {c:Nat} (h0:w.cell? ⟨b,0,none⟩=some (.pointer none)) (hsh:w.shape? b=some (68,c)) (hc:2≤c) (hfz:w.frozen? ⟨b,0,none⟩=false) :
  Calls Tryz.prog 73 #[.pointer (some ⟨b,0,none⟩)] w fun e w'=>e=.returned (.tuple #[])∧w'=w.setCell ⟨b,0,none⟩ (.pointer (some ⟨b,0,none⟩)):=by
 obtain ⟨j,hj,hjs⟩:=bld_info
 have hl:=bld_lies (c:=c/Tryz.prog.cellsOf 68) (by rw [show Tryz.prog.cellsOf 68=2 by kernel_rfl];omega)
 go_enter Tryz.func73,Tryz.ntmps73
 go_wp2
 rw [Lib.run_to_unsafe w ⟨b,0,none⟩ Tryz.underlying65 Tryz.underlying131 hj (by rw [hjs];decide) hsh (by show 0<c;omega)]
 simp only [Result.andThen]
 rw [Oper.upon_value]
 go_wp2
 rw [run_callFunc_extern Tryz.func107 (by kernel_rfl) (by kernel_rfl) (by kernel_rfl) (e:=Extern.AbiNoEscape.same) (by kernel_rfl)]
 rw [Lib.run_noEscape]
 simp only [Result.andThen]
 rw [Oper.upon_value]
 go_wp2
 rw [Lib.run_from_unsafe w ⟨b,0,none⟩ Tryz.underlying131 Tryz.underlying65 hj hsh hl]
 simp only [Result.andThen]
 rw [Oper.upon_value]
 go_wp2
 go_end0
 exact ⟨rfl,rfl⟩
set_option maxHeartbeats 2000000 in
set_option maxRecDepth 100000 in
theorem ws_run {w1 w2:World} {v v':Value} {s:ByteArray} (hcc:Calls Tryz.prog 73 #[.pointer (some ⟨b,0,none⟩)] w fun e w'=>e=.returned (.tuple #[])∧w'=w1)
  (c1:w1.cell? ⟨b,1,none⟩=some v) (hr:(Builtin.append_ #[66,9] 66 #[v,.string s]).run Tryz.prog w1=.ok v' w2) {x:Value} (d1:w2.cell? ⟨b,1,none⟩=some x) (f1:w2.frozen? ⟨b,1,none⟩=false) (hv:∃a n c,v'=.slice a n c) :
  Calls Tryz.prog 29 #[.pointer (some ⟨b,0,none⟩),.string s] w fun e w'=>e=.returned (.tuple #[.int .i64 s.size,.nilIface])∧w'=w2.setCell ⟨b,1,none⟩ v':=by
 obtain ⟨a0,n0,k0,rfl⟩:=hv
 have e73:∀args w,(callFunc 73 args).run Tryz.prog w=.ok (.enter 73 args) w:=enters_of Tryz.func73 (by kernel_rfl) rfl
 go_enter Tryz.func29,Tryz.ntmps29
 go_wp2_with (go_at_fn 73;refine hcc.mono ?_)
 rintro e w' ⟨rfl,rfl⟩
 go_wp2_with (at_builtin;refine wpList_appS rfl _ _ _ _ rfl rfl rfl hr ?_)
 go_wp2
 go_ret2
 exact ⟨rfl,rfl⟩
set_option maxHeartbeats 1000000 in
set_option maxRecDepth 100000 in
theorem bl_len {a:Option Addr} {n k:Nat} (c1:w.cell? ⟨b,1,none⟩=some (.slice a n k)) :
  Calls Tryz.prog 33 #[.pointer (some ⟨b,0,none⟩)] w fun e w'=>e=.returned (.int .i64 n)∧w'=w:=by
 go_enter Tryz.func33,Tryz.ntmps33
 go_wp2
 go_ret
 exact ⟨rfl,rfl⟩
set_option maxHeartbeats 1000000 in
set_option maxRecDepth 100000 in
theorem bl_str {g k:Nat} {l:List UInt8} {cur:Array Value} (c1:w.cell? ⟨b,1,none⟩=some (.slice (some ⟨g,0,none⟩) l.length k)) (hg:w.heap[g]?=some (.cells cur 5 (0,0))) (h0:l≠[]) (hkk:l.length≤k) (hk:l.length≤cur.size) (hm:l.length≤9223372036854775807)
  (hc:∀(j:Nat) x,l[j]?=some x→w.cell? ⟨g,j,none⟩=some (.int .u8 x.toNat)) :
  Calls Tryz.prog 34 #[.pointer (some ⟨b,0,none⟩)] w fun e w'=>e=.returned (.string ⟨l.toArray⟩)∧w'=w.drew.freeze ⟨g,0,none⟩ l.length:=by
 have hl0:l.length≠0:=by simpa using h0
 have mixed:Tryz.prog.follows .mixedOrders=true:=by kernel_rfl
 have c1':w.drew.cell? ⟨b,1,none⟩=some (.slice (some ⟨g,0,none⟩) l.length k):=c1
 have hSD:(Builtin.unsafeSliceData_ #[66] 108 #[.slice (some ⟨g,0,none⟩) l.length k]).run Tryz.prog w.drew=.ok (.pointer (some ⟨g,0,none⟩)) w.drew :=
  Lib.run_unsafeSliceData_row _ _ _ _ _ _ (by omega)
 have hUS:(Builtin.unsafeString_ #[108,3] 9 #[.pointer (some ⟨g,0,none⟩),.int .i64 l.length]).run Tryz.prog w.drew=.ok (.string ⟨l.toArray⟩) (w.drew.freeze ⟨g,0,none⟩ l.length):=by
  refine Lib.run_unsafeString_row w.drew 108 3 9 5 Tryz.underlying108 (by kernel_rfl) g cur.size (by have hg':w.drew.heap[g]?=some (.cells cur 5 (0,0)):=hg;simp [World.shape?,hg']) l h0 hk (by omega) ?_
  intro j x hx
  rw [addr_add]
  have:=hc j x hx
  simpa using this
 go_enter Tryz.func34,Tryz.ntmps34
 go_wp2
 go_region_o
 all_goals (go_wp2;go_ret;exact ⟨rfl,rfl⟩)
end
end Go.Proofs.YthehegidpamldaaGreatDoor
set_option linter.unusedVariables false
set_option linter.unusedSimpArgs false
namespace Go.Proofs.YthehegidpamldaaGreatDoor
open Go Go.RowKit
def AV.sim:AV→Bool
 | .f _|.own ..|.ptr ..=>true
 | _=>false
section
variable {P : Program}
theorem Rep.shift {w:World} {F:Nat→Prop} {loc loc':Nat→Nat × Nat} {M N N':Nat} {x:AV} {y:Value} (h:Rep w F loc M x y) (hsim:x.sim=true) (hN:N+M≤N') (hl:∀r,r<M→loc' (N+r)=loc r):Rep w F loc' N' (x.ren (N+·)) y:=by
 cases h with
 | any=>cases hsim
 | one=>cases hsim
 | f x y h=>exact .f x y h
 | agg=>cases hsim
 | tup=>cases hsim
 | own r sz off k cap hr hk hm hs =>
  have:=Rep.own (w:=w) (F:=F) (loc:=loc') (N:=N') (N+r) sz off k cap (by omega) hk hm (by rw [hl r hr];exact hs)
  rwa [hl r hr] at this
 | ptr r sz i j hr =>
  have:=Rep.ptr (w:=w) (F:=F) (loc:=loc') (N:=N') (N+r) sz i j (by omega)
  rwa [hl r hr] at this
 | fn=>cases hsim
end
end Go.Proofs.YthehegidpamldaaGreatDoor
set_option linter.unusedVariables false
set_option linter.unusedSimpArgs false
namespace Go.Proofs.YthehegidpamldaaGreatDoor
open Go Go.RowKit
section
variable {w : World} {F : Nat → Prop} {loc loc' : Nat → Nat × Nat} {N N' M : Nat} {x : AV} {y : Value} {q : Nat → Bool}
end
section
variable {P : Program}
end
end Go.Proofs.YthehegidpamldaaGreatDoor
set_option linter.unusedVariables false
set_option linter.unusedSimpArgs false
namespace Go.Proofs.YthehegidpamldaaGreatDoor
open Go Go.RowKit
theorem byte_info:∃i,Tryz.prog.info? 5=some i∧i.zero=some (.int .u8 0)∧i.size=1∧i.bytes=1:=by
 have h:(Tryz.prog.info? 5).map (fun i=>(i.zero,i.size,i.bytes))=some (some (.int .u8 0),1,1):=by kernel_rfl
 obtain ⟨j,hj,hs⟩:=Option.map_eq_some_iff.1 h
 simp only [Prod.mk.injEq] at hs
 exact ⟨j,hj,hs.1,hs.2.1,hs.2.2⟩
theorem st_eq {t:TypeId} {T:TI} (hT:tI Tryz.prog t=some T) (h1:T.size=1) {w w':World} {b o:Nat} {v x:Value} (hv:v.cells=#[v]) (ho:v.oneCell'=true) (hc:w.cell? ⟨b,o,none⟩=some x) (hf:w.frozen? ⟨b,o,none⟩=false)
  (h:(Instr.storeAt t (.pointer (some ⟨b,o,none⟩)) v).run Tryz.prog w=.ok () w'):w'=w.setCell ⟨b,o,none⟩ v:=by
 simp only [Instr.storeAt,Instr.sureAddr,storeVar,Sem.run_bind,Sem.run_pure,Result.andThen_ok,tI_size hT,hv,h1,ne_eq] at h
 simp [storeCells] at h
 rw [addr_add,Nat.add_zero,run_store _ w _ v _ ho] at h
 simp [hc,hf] at h
 exact h.symm
theorem grown_freeze {w:World} {g n:Nat}:w.grownBy (w.drew.freeze ⟨g,0,none⟩ n) (some g):=by
 unfold World.freeze
 split
 ·exact ⟨rfl,rfl,rfl,Nat.le_refl _,fun _ _ _=>rfl⟩
 ·exact ⟨rfl,rfl,rfl,by simp,fun k hk hne=>by
   simp only [Array.getElem?_modify]
   rw [if_neg (fun e=>hne (by rw [←e]))];rfl⟩
def btF (s:ByteArray):List FV:=(Lib.strCells s).map FV.v
abbrev btO (s:ByteArray):Option AO:=some ⟨5,1,(btF s).map .f⟩
abbrev bdO (i j n:Nat):Option AO:=some ⟨68,2,[.agg [.ptr i 2 0 0,.own j 1 0 n]]⟩
theorem strCells_app {s t:ByteArray}:Lib.strCells (s++t)=Lib.strCells s++Lib.strCells t:=by
 unfold Lib.strCells
 rw [←List.map_append]
 congr 1
theorem btF_uni {s:ByteArray}:Uni 1 ((btF s).map .f):=fun e he=>by
 obtain ⟨x,hx,rfl⟩:=List.mem_map.1 he
 obtain ⟨y,hy,rfl⟩:=List.mem_map.1 hx
 obtain ⟨b,_,rfl⟩:=List.mem_map.1 hy
 exact ⟨rfl,rfl⟩
theorem flat_bt {s:ByteArray}:flat ((btF s).map .f)=(Lib.strCells s).map fun x=>AV.f (.v x):=by
 unfold btF
 rw [List.map_map]
 generalize Lib.strCells s=l
 induction l with
 | nil=>rfl
 | cons x l ih =>
  show flat (AV.f (.v x)::l.map _)=_
  show (AV.f (.v x)).cells++flat (l.map _)=_
  rw [ih];rfl
theorem arr2 {ys:Array Value} (h:ys.size=2):∃p q,ys=#[p,q]:=by
 match ys,h with
 | ⟨[p,q]⟩,_=>exact ⟨p,q,rfl⟩
theorem arr1 {ys:Array Value} (h:ys.size=1):∃p,ys=#[p]:=Array.size_eq_one_iff.1 h
theorem bt_mem {w:World} {F:Nat→Prop} {loc:Nat→Nat × Nat} {N:Nat} {s:ByteArray} {vs:Array Value} (h:∀(m:Nat) c,(flat ((btF s).map .f))[m]?=some c→∃u,vs[m]?=some u∧Rep w F loc N c u):vs.toList.take s.size=Lib.strCells s:=by
 apply List.ext_getElem?
 intro m
 rw [List.getElem?_take]
 by_cases hm:m<s.size
 ·rw [if_pos hm]
  have hml:m<(Lib.strCells s).length:=by rw [Lib.strCells_length];exact hm
  have hy:=List.getElem?_eq_getElem (l:=Lib.strCells s) (i:=m) hml
  obtain ⟨u,h1,h2⟩:=h m (.f (.v (Lib.strCells s)[m])) (by rw [flat_bt,List.getElem?_map,hy];rfl)
  rw [Array.getElem?_toList,h1,hy,v_rep h2]
 ·rw [if_neg hm,List.getElem?_eq_none (by rw [Lib.strCells_length];omega)]
theorem appS_run {w:World} {v:Value} {n:Nat} {xs:List Value} (hown:w.ownsRow 0 5 1 v n xs) (s:ByteArray) (hl:n+s.size≤140737488355328) :
  ∃v' w',(Builtin.append_ #[66,9] 66 #[v,.string s]).run Tryz.prog w=.ok v' w'∧w'.ownsRow 0 5 1 v' (n+s.size) (xs++Lib.strCells s)∧w.grownBy w' v.ownBlock∧(v'=.slice none 0 0↔v=.slice none 0 0∧s.size=0)∧(v'=.slice none 0 0∨v'.ownBlock=v.ownBlock∨v'.ownBlock=some w.heap.size):=by
 obtain ⟨i,hi,hz,hsz,hby⟩:=byte_info
 have hxl:xs.length=n:=by simpa using hown.1
 have hmx:n+s.size≤maxLen:=by unfold maxLen;omega
 obtain ⟨v',w',hr,h2,h3,h4⟩:=Lib.run_append_own_string (P:=Tryz.prog) w 0 66 9 66 5 i Tryz.underlying66 Tryz.underlying9 hi hz hsz hby v n xs hown s hmx hl (Nat.zero_le _)
 refine ⟨v',w',hr,h2,h3,h4,?_⟩
 rcases hown.2 with ⟨rfl,rfl⟩|⟨g,cap,cur,rfl,hbg,hg,hnc,hcm,hcs,htake⟩
 ·by_cases hm:s.size=0
  ·exact .inl (h4.2 ⟨rfl,hm⟩)
  ·have hr':=run_append_nil_string (P:=Tryz.prog) w 66 9 66 5 i (.int .u8 0) Tryz.underlying66 Tryz.underlying9 hi hz s (by omega) (by omega) (by rw [hby];omega)
   rw [hr'] at hr
   injection hr with e1 _
   subst e1
   exact .inr (.inr rfl)
 ·by_cases hroom:n+s.size≤cap
  ·have hr':=Lib.run_append_room_string (P:=Tryz.prog) w 66 9 66 5 i Tryz.underlying66 Tryz.underlying9 hi hsz g n cap cur hg s hroom (by omega)
   rw [hr'] at hr
   injection hr with e1 _
   subst e1
   exact .inr (.inl rfl)
  ·have holds:∀j u,xs[j]?=some u→w.cell? ((⟨g,0,none⟩:Addr).add j)=some u:=hown.cells (g:=g) rfl
   have hr':=Lib.run_append_grow_string (P:=Tryz.prog) w 66 9 66 5 i (.int .u8 0) Tryz.underlying66 Tryz.underlying9 hi hz ⟨g,0,none⟩ n cap xs (by rw [hsz];simpa using hxl) holds s (by omega) (by omega) (by rw [hby];exact growslice_fits (by omega) (by omega))
   rw [hr'] at hr
   injection hr with e1 _
   subst e1
   exact .inr (.inr rfl)
section
variable {X : Cx} {w : World} {F : Nat → Prop} {loc : Nat → Nat × Nat} {t : List AV} {H : AH} {a : Act} {i : Nat} {y0 : AV} {v : Value} {s0 s : ByteArray}
theorem app_store (R:RelF X F loc ⟨t,H⟩ a w) (hi:H[i]?=some (some ⟨68,2,[.agg [.ptr i 2 0 0,y0]]⟩)) (hown:w.ownsRow 0 5 1 v s0.size (Lib.strCells s0)) (hc1:w.cell? ⟨(loc i).1,1,none⟩=some v)
  (hrow:∀g,v.ownBlock=some g→¬F g∧¬Live ⟨t,H⟩ loc g∧(X.w0.heap.size≤g∨X.O g)) (hl:s0.size+s.size≤140737488355328) (hnn:¬(v=.slice none 0 0∧s.size=0)) :
  ∃v' w2 w3 loc' x,(Builtin.append_ #[66,9] 66 #[v,.string s]).run Tryz.prog w=.ok v' w2∧(∃a n c,v'=.slice a n c)∧w2.cell? ⟨(loc i).1,1,none⟩=some x∧w2.frozen? ⟨(loc i).1,1,none⟩=false ∧
   w3=w2.setCell ⟨(loc i).1,1,none⟩ v'∧RelF X F loc' ⟨t,(H++[btO (s0++s)]).set i (bdO i H.length (s0.size+s.size))⟩ a w3:=by
 have hiN:=hlt hi
 obtain ⟨v',w2,hrun,hown',hgrow,hnil,hloc⟩:=appS_run hown s hl
 have R2:=R.stepX hgrow hrow
 rcases hown'.2 with ⟨hv',hz⟩|⟨g,cap',cur,rfl,_,hheap,hle,hcm,hcs,htake⟩
 ·exact absurd (hnil.1 hv') hnn
 have hgn:¬F g∧¬Live ⟨t,H⟩ loc g∧(X.w0.heap.size≤g∨X.O g):=by
  rcases hloc with h|h|h
  ·cases h
  ·exact hrow g h.symm
  ·have:g=w.heap.size:=by simpa [Value.ownBlock] using h
   subst this
   exact ⟨fun hf=>by have:=R.hF _ hf;omega,fun hl=>by have:=R.live_lt (.inr hl);omega,.inl R.below.size⟩
 have R3:=R2.adopt (g:=g) (o:=⟨5,1,(btF (s0++s)).map .f⟩) (vs:=cur) hgn.2.2 hgn.1 hgn.2.1 btF_uni hheap (fun m c hm=>by
  replace hm:(flat ((btF (s0++s)).map AV.f))[m]?=some c:=hm
  rw [flat_bt,List.getElem?_map,strCells_app,←htake] at hm
  cases hq:(cur.toList.take ((s0.size+s.size)*1))[m]? with
  | none=>rw [hq] at hm;cases hm
  | some q =>
   rw [hq] at hm
   cases hm
   rw [List.getElem?_take] at hq
   split at hq
   ·rw [Array.getElem?_toList] at hq
    exact ⟨q,hq,.f _ _ (.v _)⟩
   ·cases hq)
 have hext:ext loc H.length (g,cur.size) i=loc i:=ext_lt hiN
 have hi3:(H++[btO (s0++s)])[i]?=some (some ⟨68,2,[.agg [.ptr i 2 0 0,y0]]⟩):=by rw [List.getElem?_append_left hiN];exact hi
 obtain ⟨hui,vi,hvi,hvzi,hci⟩:=R3.obj i _ hi3
 rw [hext] at hvi
 obtain ⟨u1,hu1,_⟩:=hci 1 y0 rfl
 have d1:w2.cell? ⟨(loc i).1,1,none⟩=some u1:=by rw [Lib.cell_of_heap hvi];exact hu1
 have f1:w2.frozen? ⟨(loc i).1,1,none⟩=false:=Lib.frozen_of_heap hvi 1
 obtain ⟨T,hT,hTs⟩:∃T,tI Tryz.prog 66=some T∧T.size=1:=by
  have h:(tI Tryz.prog 66).map (·.size)=some 1:=by kernel_rfl
  exact Option.map_eq_some_iff.1 h
 have hx:Rep w2 F (ext loc H.length (g,cur.size)) (H++[btO (s0++s)]).length (.ptr i 2 0 1) (.pointer (some ⟨(loc i).1,1,none⟩)):=by
  have:=Rep.ptr (w:=w2) (F:=F) (loc:=ext loc H.length (g,cur.size)) (N:=(H++[btO (s0++s)]).length) i 2 0 1 (by simp;omega)
  rw [hext,Nat.zero_mul,Nat.zero_add] at this
  exact this
 have hy:Rep w2 F (ext loc H.length (g,cur.size)) (H++[btO (s0++s)]).length (.own H.length 1 0 (s0.size+s.size)) (.slice (some ⟨g,0,none⟩) (s0.size+s.size) cap'):=by
  have:=Rep.own (w:=w2) (F:=F) (loc:=ext loc H.length (g,cur.size)) (N:=(H++[btO (s0++s)]).length) H.length 1 0 (s0.size+s.size) cap' (by simp) hle hcm (by rw [ext_self,hcs,Nat.zero_add])
  rw [ext_self,Nat.zero_mul] at this
  exact this
 obtain ⟨H',w3,hk3,hst,R4,_⟩:=store_rel R3 hT hx hy (k:=fun H'=>H'=(H++[btO (s0++s)]).set i (bdO i H.length (s0.size+s.size)))
  ⟨_,hi3,rfl,rfl,by rw [hTs];rfl,_,rfl,by rw [if_neg (by simp),hTs];exact ⟨by decide,rfl⟩⟩
 subst hk3
 exact ⟨_,_,_,_,u1,hrun,⟨_,_,_,rfl⟩,d1,f1,st_eq hT hTs rfl rfl d1 f1 hst,R4⟩
theorem rep_ws {w:World} {F:Nat→Prop} {loc:Nat→Nat × Nat} {N:Nat} {s:ByteArray}:Rep w F loc N (.tup [.f (I s.size),.f (.v .nilIface)]) (.tuple #[.int .i64 s.size,.nilIface]):=.tup _ _ rfl fun j c hj=>by
 match j,hj with
 | 0,hj=>cases hj;exact .f _ _ (.v _)
 | 1,hj=>cases hj;exact .f _ _ (.v _)
 | j+2,hj=>simp at hj
theorem ws_u {H:AH} {i j:Nat} {s0 s:ByteArray} (hi:H[i]?=some (bdO i j s0.size)) (hj:H[j]?=some (btO s0)) (hl:s0.size+s.size≤140737488355328) :
  CallU Tryz.prog 29 [.ptr i 2 0 0,.f (St s)] H (fun u G=>u=.tup [.f (I s.size),.f (.v .nilIface)]∧G=(H.set j none++[btO (s0++s)]).set i (bdO i H.length (s0.size+s.size))):=by
 refine ⟨by kernel_rfl,fun X w F loc t a ys R hys=>?_⟩
 obtain ⟨hl2,hr⟩:=hys
 obtain ⟨p,q,rfl⟩:=arr2 hl2.symm
 have hy0:Rep w F loc H.length (.ptr i 2 0 0) p:=hr 0 _ rfl
 have hy1:Rep w F loc H.length (.f (St s)) q:=hr 1 _ rfl
 have hq:=v_rep hy1
 subst hq
 obtain ⟨hui,vi,hvi,hvzi,hci⟩:=R.obj i _ hi
 obtain ⟨huj,vj,hvj,hvzj,hcj⟩:=R.obj j _ hj
 obtain ⟨u0,hu0,hr0⟩:=hci 0 (.ptr i 2 0 0) rfl
 obtain ⟨u1,hu1,hr1⟩:=hci 1 (.own j 1 0 s0.size) rfl
 have hne:i≠j:=fun e=>by subst e;rw [hi] at hj;cases hj
 have hneb:(loc i).1≠(loc j).1:=fun e=>hne (R.inj i j _ _ hi hj e)
 cases hy0 with
 | ptr _ _ _ _ hlt' =>
 cases hr0 with
 | ptr _ _ _ _ _ =>
 cases hr1 with
 | own _ _ _ _ cap hjl hk hm hsz =>
 have c0:w.cell? ⟨(loc i).1,0,none⟩=some (.pointer (some ⟨(loc i).1,0,none⟩)):=by rw [Lib.cell_of_heap hvi];simpa using hu0
 have c1:w.cell? ⟨(loc i).1,1,none⟩=some (.slice (some ⟨(loc j).1,0,none⟩) s0.size cap):=by rw [Lib.cell_of_heap hvi];simpa using hu1
 have hown:w.ownsRow 0 5 1 (.slice (some ⟨(loc j).1,0,none⟩) s0.size cap) s0.size (Lib.strCells s0) :=
  ⟨by rw [Lib.strCells_length,Nat.mul_one],.inr ⟨(loc j).1,cap,vj,rfl,Nat.zero_le _,hvj,hk,hm,by rw [hvzj,hsz,Nat.zero_add],by rw [Nat.mul_one];exact bt_mem hcj⟩⟩
 have hik:(H.set j none)[i]?=some (bdO i j s0.size):=by rw [List.getElem?_set_ne (Ne.symm hne)];exact hi
 obtain ⟨v',w2,w3,loc',x,hrun,hsl,d1,f1,hw3,R4⟩:=app_store (R.kill j) hik hown c1 (fun g hg=>by
  have:g=(loc j).1:=by simpa [Value.ownBlock] using hg.symm
  subst this
  refine ⟨R.nF j _ hj,?_,R.new j _ hj⟩
  rintro ⟨q,p,hq,he⟩
  have hq':(H.set j none)[q]?=some (some p):=hq
  by_cases hqr:q=j
  ·subst hqr;rw [List.getElem?_set_self (hlt hj)] at hq';cases hq'
  ·rw [List.getElem?_set_ne (Ne.symm hqr)] at hq'
   exact hqr (R.inj q j p _ hq' hj he)) hl (fun h=>by cases h.1)
 rw [show (H.set j none).length=H.length from List.length_set ..] at R4
 rw [Nat.zero_mul,Nat.zero_add]
 refine (ws_run (cc_used c0) c1 hrun d1 f1 hsl).mono ?_
 rintro e w' ⟨rfl,rfl⟩
 rw [←hw3]
 exact ⟨_,F,loc',_,_,⟨rfl,rfl⟩,rfl,R4,rep_ws⟩
theorem ws_n {H:AH} {i:Nat} {s:ByteArray} (hi:H[i]?=some (some ⟨68,2,[.f (.agg [.v (.pointer none),.v (.slice none 0 0)])]⟩)) (hs:0<s.size) (hl:s.size≤140737488355328) :
  CallU Tryz.prog 29 [.ptr i 2 0 0,.f (St s)] H (fun u G=>u=.tup [.f (I s.size),.f (.v .nilIface)]∧G=(H++[btO s]).set i (bdO i H.length s.size)):=by
 refine ⟨by kernel_rfl,fun X w F loc t a ys R hys=>?_⟩
 obtain ⟨hl2,hr⟩:=hys
 obtain ⟨p,q,rfl⟩:=arr2 hl2.symm
 have hy0:Rep w F loc H.length (.ptr i 2 0 0) p:=hr 0 _ rfl
 have hy1:Rep w F loc H.length (.f (St s)) q:=hr 1 _ rfl
 have hq:=v_rep hy1
 subst hq
 have hiN:=hlt hi
 obtain ⟨hui,vi,hvi,hvzi,hci⟩:=R.obj i _ hi
 obtain ⟨u0,hu0,hr0⟩:=hci 0 (.f (.v (.pointer none))) rfl
 obtain ⟨u1,hu1,hr1⟩:=hci 1 (.f (.v (.slice none 0 0))) rfl
 have e0:=v_rep hr0
 have e1:=v_rep hr1
 subst e0;subst e1
 obtain ⟨T,hT,hTs⟩:∃T,tI Tryz.prog 65=some T∧T.size=1:=by
  have h:(tI Tryz.prog 65).map (·.size)=some 1:=by kernel_rfl
  exact Option.map_eq_some_iff.1 h
 have c0:w.cell? ⟨(loc i).1,0,none⟩=some (.pointer none):=by rw [Lib.cell_of_heap hvi];exact hu0
 have f0:w.frozen? ⟨(loc i).1,0,none⟩=false:=Lib.frozen_of_heap hvi 0
 have hsh:w.shape? (loc i).1=some (68,vi.size):=by simp [World.shape?,hvi]
 have h2:2≤vi.size:=(Array.getElem?_eq_some_iff.1 hu1).1
 obtain ⟨H',w1,hk1,hst,R1,_⟩:=store_rel R hT hy0 hy0 (k:=fun H'=>H'=H.set i (some ⟨68,2,[.agg [.ptr i 2 0 0,.f (.v (.slice none 0 0))]]⟩))
  ⟨_,hi,rfl,rfl,by rw [hTs];rfl,_,rfl,by rw [if_neg (by rw [hTs];decide),hTs];exact ⟨by decide,rfl⟩⟩
 subst hk1
 cases hy0 with
 | ptr _ _ _ _ hlt' =>
 rw [Nat.zero_mul,Nat.zero_add] at hst ⊢
 have hw1:=st_eq hT hTs rfl rfl c0 f0 hst
 have hi1:(H.set i (some ⟨68,2,[.agg [.ptr i 2 0 0,.f (.v (.slice none 0 0))]]⟩))[i]?=some (some ⟨68,2,[.agg [.ptr i 2 0 0,.f (.v (.slice none 0 0))]]⟩):=List.getElem?_set_self hiN
 obtain ⟨_,vj,hvj,_,hcj⟩:=R1.obj i _ hi1
 obtain ⟨u1,hu1',hr1'⟩:=hcj 1 (.f (.v (.slice none 0 0))) rfl
 have e1:=v_rep hr1'
 subst e1
 have c1:w1.cell? ⟨(loc i).1,1,none⟩=some (.slice none 0 0):=by rw [Lib.cell_of_heap hvj];exact hu1'
 have hz:(⟨#[]⟩:ByteArray)++s=s:=by apply ByteArray.ext;simp
 obtain ⟨v',w2,w3,loc',x,hrun,hsl,d1,f1,hw3,R4⟩:=app_store (s0:=⟨#[]⟩) (s:=s) R1 hi1 (World.ownsRow_nil w1 0 5 1) c1 (fun g hg=>by cases hg) (by show 0+s.size≤_;omega) (fun h=>by omega)
 rw [List.length_set,hz,show (⟨#[]⟩:ByteArray).size+s.size=s.size from Nat.zero_add _] at R4
 rw [List.set_append_left _ _ (by simpa using hiN),List.set_set] at R4
 rw [hw1] at c1 hrun
 refine (ws_run (cc_fresh c0 hsh h2 f0) c1 hrun d1 f1 hsl).mono ?_
 rintro e w' ⟨rfl,rfl⟩
 rw [←hw3]
 refine ⟨_,F,loc',_,_,⟨rfl,?_⟩,rfl,R4,rep_ws⟩
 rw [List.set_append_left _ _ hiN]
theorem len_u {H:AH} {i j n:Nat} (hi:H[i]?=some (bdO i j n)) :
  CallU Tryz.prog 33 [.ptr i 2 0 0] H (fun u G=>u=.f (I n)∧G=H):=by
 refine ⟨by kernel_rfl,fun X w F loc t a ys R hys=>?_⟩
 obtain ⟨hl2,hr⟩:=hys
 obtain ⟨p,rfl⟩:=arr1 hl2.symm
 have hy0:Rep w F loc H.length (.ptr i 2 0 0) p:=hr 0 _ rfl
 obtain ⟨hui,vi,hvi,hvzi,hci⟩:=R.obj i _ hi
 obtain ⟨u1,hu1,hr1⟩:=hci 1 (.own j 1 0 n) rfl
 cases hy0 with
 | ptr _ _ _ _ hlt' =>
 cases hr1 with
 | own _ _ _ _ cap hjl hk hm hsz =>
 have c1:w.cell? ⟨(loc i).1,1,none⟩=some (.slice (some ⟨(loc j).1,0,none⟩) n cap):=by rw [Lib.cell_of_heap hvi];simpa using hu1
 rw [Nat.zero_mul,Nat.zero_add]
 refine (bl_len c1).mono ?_
 rintro e w' ⟨rfl,rfl⟩
 exact ⟨_,F,loc,_,_,⟨rfl,rfl⟩,rfl,R,.f _ _ (.v _)⟩
theorem str_u {H:AH} {i j:Nat} {s:ByteArray} (hi:H[i]?=some (bdO i j s.size)) (hj:H[j]?=some (btO s)) (hs:0<s.size) (hm':s.size≤140737488355328) :
  CallU Tryz.prog 34 [.ptr i 2 0 0] H (fun u G=>u=.f (St s)∧G=H.set j none):=by
 refine ⟨by kernel_rfl,fun X w F loc t a ys R hys=>?_⟩
 obtain ⟨hl2,hr⟩:=hys
 obtain ⟨p,rfl⟩:=arr1 hl2.symm
 have hy0:Rep w F loc H.length (.ptr i 2 0 0) p:=hr 0 _ rfl
 obtain ⟨hui,vi,hvi,hvzi,hci⟩:=R.obj i _ hi
 obtain ⟨huj,vj,hvj,hvzj,hcj⟩:=R.obj j _ hj
 obtain ⟨u1,hu1,hr1⟩:=hci 1 (.own j 1 0 s.size) rfl
 cases hy0 with
 | ptr _ _ _ _ hlt' =>
 cases hr1 with
 | own _ _ _ _ cap hjl hk hm hsz =>
 have hsl:s.data.toList.length=s.size:=Array.length_toList
 have c1:w.cell? ⟨(loc i).1,1,none⟩=some (.slice (some ⟨(loc j).1,0,none⟩) s.data.toList.length cap):=by rw [Lib.cell_of_heap hvi,hsl];simpa using hu1
 have hbm:=bt_mem hcj
 rw [Nat.zero_mul,Nat.zero_add]
 refine (bl_str (l:=s.data.toList) (cur:=vj) c1 hvj (fun h=>by rw [h] at hsl;simp at hsl;omega) (by omega) (by rw [hvzj,hsz];omega) (by omega) (fun m x hx=>by
  rw [Lib.cell_of_heap hvj]
  have hml:=glt hx
  have h1:(Lib.strCells s)[m]?=some (.int .u8 x.toNat):=by unfold Lib.strCells;rw [List.getElem?_map,hx];rfl
  rw [←hbm,List.getElem?_take,if_pos (by omega),Array.getElem?_toList] at h1
  exact h1)).mono ?_
 rintro e w' ⟨rfl,rfl⟩
 have hg:w.grownBy (w.drew.freeze ⟨(loc j).1,0,none⟩ s.data.toList.length) (some (loc j).1):=grown_freeze
 exact ⟨_,F,loc,_,_,⟨rfl,rfl⟩,rfl,(R.kill j).stepX hg (fun g hg'=>by
  cases hg'
  refine ⟨R.nF j _ hj,?_,R.new j _ hj⟩
  rintro ⟨q,p,hq,he⟩
  have hq':(H.set j none)[q]?=some (some p):=hq
  by_cases hqr:q=j
  ·subst hqr;rw [List.getElem?_set_self (hlt hj)] at hq';cases hq'
  ·rw [List.getElem?_set_ne (Ne.symm hqr)] at hq'
   exact hqr (R.inj q j p _ hq' hj he)),.f _ _ (.v _)⟩
end
end Go.Proofs.YthehegidpamldaaGreatDoor
set_option linter.unusedVariables false
set_option linter.unusedSimpArgs false
namespace Go.Proofs.YthehegidpamldaaGreatDoor
open Go Go.RowKit
def chN (n:Nat):Bool:=decide (97≤n∧n≤122)||decide (48≤n∧n≤57)||decide (n=95)
def letN (n:Nat):Bool:=decide (97≤n∧n≤122)
def nmCs:List UInt8:=[97,98,99,100,101,102,103,104,105,106,107,108,109,110,111,112,113,114,115,116,117,118,119,120,121,122,48,49,50,51,52,53,54,55,56,57,95]
theorem nmCs_all:∀n,n<256→nmCs.contains (UInt8.ofNat n)=chN n:=by decide +kernel
theorem nmCs_ch (b:UInt8):nmCs.contains b=chN b.toNat:=by
 have:=nmCs_all b.toNat b.toNat_lt
 rwa [UInt8.ofNat_toNat] at this
theorem dw_nil {p:UInt8→Bool}:∀{l:List UInt8},l.dropWhile p=[]↔∀x∈l,p x=true:=by
 intro l
 induction l with
 | nil=>simp
 | cons a l ih =>
  rw [List.dropWhile_cons]
  cases ha:p a with
  | true=>rw [if_pos rfl,ih];simp [ha]
  | false=>rw [if_neg (by decide)];simp [ha]
theorem dw_head {p:UInt8→Bool} {x:UInt8} {t:List UInt8}:∀{l:List UInt8},l.dropWhile p=x::t→p x=false∧x∈l:=by
 intro l
 induction l with
 | nil=>intro h;simp at h
 | cons a l ih =>
  intro h
  rw [List.dropWhile_cons] at h
  cases ha:p a with
  | true =>
   rw [ha,if_pos rfl] at h
   obtain ⟨h1,h2⟩:=ih h
   exact ⟨h1,List.mem_cons_of_mem _ h2⟩
  | false =>
   rw [ha,if_neg (by decide)] at h
   cases h
   exact ⟨ha,List.mem_cons_self ..⟩
theorem trim_nil {l:List UInt8}:Lib.trimS l nmCs=[]↔∀b∈l,chN b.toNat=true:=by
 unfold Lib.trimS Lib.trimLeftS Lib.trimRightS
 rw [dw_nil]
 constructor
 ·intro h
  cases hd:l.reverse.dropWhile (nmCs.contains ·) with
  | nil =>
   intro b hb
   have:=dw_nil.1 hd b (List.mem_reverse.2 hb)
   rw [nmCs_ch] at this;exact this
  | cons x t =>
   obtain ⟨h1,_⟩:=dw_head hd
   have:=h x (List.mem_reverse.2 (by rw [hd];exact List.mem_cons_self ..))
   rw [h1] at this;cases this
 ·intro h x hx
  cases hd:l.reverse.dropWhile (nmCs.contains ·) with
  | nil=>rw [hd] at hx;simp at hx
  | cons y t =>
   have hy:y∈l:=List.mem_reverse.1 (dw_head hd).2
   have h1:=h y hy
   rw [←nmCs_ch,(dw_head hd).1] at h1
   cases h1
end Go.Proofs.YthehegidpamldaaGreatDoor
set_option linter.unusedVariables false
set_option linter.unusedSimpArgs false
namespace Go.Proofs.YthehegidpamldaaGreatDoor
open Go Go.RowKit
def fe (f:Nat→Int):Nat→Int
 | 0=>0
 | n+1=>if fe f n=0 then f n else fe f n
section
variable {f g : Nat → Int} {n x : Nat}
theorem fe_next (h:fe f x=0):fe f (x+1)=f x:=if_pos h
theorem fe_keep (h:fe f x≠0):∀{n:Nat},x≤n→fe f n=fe f x:=by
 intro n
 induction n with
 | zero =>
  intro hx
  have e:x=0:=by omega
  rw [e]
 | succ n ih =>
  intro hx
  by_cases e:x=n+1
  ·rw [e]
  ·have h1:=ih (by omega)
   show (if fe f n=0 then f n else fe f n)=_
   rw [h1,if_neg h]
theorem fe_at (h0:fe f x=0) (h:f x≠0) (hx:x<n):fe f n=f x:=by
 have h1:=fe_next h0
 rw [fe_keep (x:=x+1) (by rw [h1];exact h) (by omega),h1]
theorem fe_zero:fe f n=0↔∀i,i<n→f i=0:=by
 induction n with
 | zero=>exact ⟨fun _ i h=>by omega,fun _=>rfl⟩
 | succ n ih =>
  show (if fe f n=0 then f n else fe f n)=0↔_
  by_cases h:fe f n=0
  ·rw [if_pos h]
   exact ⟨fun h1 i hi=>by
    by_cases e:i=n
    ·rw [e];exact h1
    ·exact ih.1 h i (by omega),fun h1=>h1 n (by omega)⟩
  ·rw [if_neg h]
   exact ⟨fun h1=>absurd h1 h,fun h1=>absurd (ih.2 fun i hi=>h1 i (by omega)) h⟩
end
def namB (s:ByteArray):Bool:=decide (0<s.size)&&(decide (s.size≤12)&&(letN (s.data.toList.getD 0 0).toNat&&(s.data.toList.all (fun b=>chN b.toNat)&&(!decide (s=⟨#[118,97,114]⟩)&&!decide (s=⟨#[101,108,115,101]⟩)))))
def namF (l:List ByteArray) (i:Nat):Int:=if namB (l.getD i ⟨#[]⟩)=true then (if ((l.take i).any fun t=>decide (t=l.getD i ⟨#[]⟩))=true then 7 else 0) else 4
def namesE (l:List ByteArray):Int:=fe (namF l) l.length
end Go.Proofs.YthehegidpamldaaGreatDoor
namespace Go.Proofs.YthehegidpamldaaGreatDoor
open Go Go.ChangeShapes Go.ChangeAt Go.RowKit
variable {H : Type} {enc : TypeId × Value → H} {P : Program}

def relay (cs:Array Value):Obj→Obj
 | .cells _ t frozen=>.cells cs t frozen
 | o=>o
def firstCells:Array Value:=(Go.Pinned.utf8FirstZ.map fun n:Nat=>Value.int .u8 (n:Int)).toArray
def acceptCells:Array Value:=#[.int .u8 128,.int .u8 191,.int .u8 160,.int .u8 191,.int .u8 128,.int .u8 159,.int .u8 144,.int .u8 191,.int .u8 128,.int .u8 143,.int .u8 0,.int .u8 0,.int .u8 0,.int .u8 0,.int .u8 0,.int .u8 0,.int .u8 0,.int .u8 0,.int .u8 0,.int .u8 0,.int .u8 0,.int .u8 0,.int .u8 0,.int .u8 0,.int .u8 0,.int .u8 0,.int .u8 0,.int .u8 0,.int .u8 0,.int .u8 0,.int .u8 0,.int .u8 0]
end Go.Proofs.YthehegidpamldaaGreatDoor
