/- The post of a row whose call leaves the reading as it was and may freeze marks of new blocks: for rows without 'again'. And the world for the witness: two tables laid. -/
import Derived.ChangeSame
import Derived.ProofKit
import Derived.OpenShut
import Derived.Deep.DeepHandedRow
import Derived.Lib.LaidTab
import GoSem.PinnedTables
import Derived.Test.YtmcgeppgfjlclaaGreatDoorZB09
import Derived.Carry
import Derived.SizedLaws
import Derived.ChangeArms
import Derived.Test.YtmcgeppgfjlclaaGreatDoorZB15
import Derived.Test.YtmcgeppgfjlclaaGreatDoorZB22
namespace Go.Proofs.YtmcgeppgfjlclaaGreatDoor
open Go Go.ChangeShapes Go.ChangeAt Go.RowKit
variable {H : Type} {enc : TypeId × Value → H} {P : Program}

def relay (cs:Array Value):Obj→Obj
 | .cells _ t frozen=>.cells cs t frozen
 | o=>o
def firstCells:Array Value:=(Go.Pinned.utf8FirstZ.map fun n:Nat=>Value.int .u8 (n:Int)).toArray
def acceptCells:Array Value:=#[.int .u8 128,.int .u8 191,.int .u8 160,.int .u8 191,.int .u8 128,.int .u8 159,.int .u8 144,.int .u8 191,.int .u8 128,.int .u8 143,.int .u8 0,.int .u8 0,.int .u8 0,.int .u8 0,.int .u8 0,.int .u8 0,.int .u8 0,.int .u8 0,.int .u8 0,.int .u8 0,.int .u8 0,.int .u8 0,.int .u8 0,.int .u8 0,.int .u8 0,.int .u8 0,.int .u8 0,.int .u8 0,.int .u8 0,.int .u8 0,.int .u8 0,.int .u8 0]
end Go.Proofs.YtmcgeppgfjlclaaGreatDoor
set_option linter.unusedVariables false
set_option linter.unusedSimpArgs false
namespace Go.Proofs.YtmcgeppgfjlclaaGreatDoor
open Go Go.RowKit Go.ChangeShapes

def Old (w:World):Nat→Prop:=fun b=>b<w.heap.size
section
variable {P : Program} {H : Type}
theorem all_of_each {ts:List TypeId} {ds:List (DataW H)} (h:(DataW.weightsEach P ts ds).all (·≤ reachBytes)=true) {j:Nat} {t:TypeId} {d:DataW H} (ht:ts[j]?=some t) (hd:ds[j]?=some d):(d.weights P t).all (·≤ reachBytes)=true :=
 List.all_eq_true.2 fun n hn=>List.all_eq_true.1 h n (DataW.weights_mem_each ht hd n hn)
theorem mem_weightsAll {e:TypeId} {d:DataW H}:∀{ds:List (DataW H)},d∈ds→∀n∈d.weights P e,n∈DataW.weightsAll P e ds
 | [],h,_,_=>by cases h
 | x::r,h,n,hn=>by
  rw [DataW.weightsAll,List.mem_append]
  rcases List.mem_cons.1 h with rfl|h
  ·exact .inl hn
  ·exact .inr (mem_weightsAll h n hn)
structure Opens (P : Program) (t : TypeId) {α : Type} (F : α → FV) (Ok : α → Prop) : Prop where
  len : ∀ a, (F a).cells.length = P.cellsOf t
  st : ∀ a, (F a).st = true
  rd : ∀ {H : Type} (enc : TypeId × Value → H) (w : World) (fuel : Nat) (cs : List Value) (x : DataW H × List MemPlace), DataW.trod enc P w 0 (fun _ => true) true fuel t cs = some x → (x.1.weights P t).all (· ≤ reachBytes) = true →
    ∃ a, Ok a ∧ cs.length = P.cellsOf t ∧ ∀ (j : Nat) c, (F a).cells[j]? = some c → RepF w (Old w) c (cs.getD j undef)
  up : ∀ (a : α) (w : World) (r : Reach) (b : Nat) (v : Value), Value.okWide P w r b t v → v.cells.toList.length = P.cellsOf t → (∀ (j : Nat) c, (F a).cells[j]? = some c → RepF w (Old w) c (v.cells.toList.getD j undef)) → RepF w (Old w) (F a) v
theorem Opens.arg {t:TypeId} {α:Type} {F:α→FV} {Ok:α→Prop} (h:Opens P t F Ok) {enc:TypeId × Value→H} {w:World} {v:Value} {d:DataW H} {p:List MemPlace} {r:Reach} {b:Nat} (hval:Value.okWide P w r b t v)
  (hT:DataW.Trod enc P w 0 (fun _=>true) true t v d p) (hwt:(d.weights P t).all (·≤ reachBytes)=true):∃a,Ok a∧RepF w (Old w) (F a) v:=by
 obtain ⟨fuel,hf⟩:=hT
 obtain ⟨a,h1,h2,h3⟩:=h.rd enc w fuel _ _ hf hwt
 exact ⟨a,h1,h.up a w r b v hval h2 h3⟩
theorem Opens.map {t:TypeId} {α:Type} {F:α→FV} {Ok Ok':α→Prop} (h:Opens P t F Ok) (hk:∀a,Ok a→Ok' a):Opens P t F Ok' :=
 ⟨h.len,h.st,fun enc w fuel cs x hx hw=>by obtain ⟨a,h1,h2⟩:=h.rd enc w fuel cs x hx hw;exact ⟨a,hk a h1,h2⟩,h.up⟩
theorem one_up {t:TypeId} {w:World} {v:Value} {c:FV} (hn:∀cs,v≠.agg cs) (h:∀(j:Nat) d,[c][j]?=some d→RepF w (Old w) d (v.cells.toList.getD j undef)):RepF w (Old w) c v:=by
 have e:v.cells.toList=[v]:=by cases v<;>first|rfl|exact absurd rfl (hn _)
 have:=h 0 c rfl
 rw [e] at this
 exact this
theorem one_rd {w:World} {c:FV} {v:Value} (h:RepF w (Old w) c v):∀(j:Nat) d,[c][j]?=some d→RepF w (Old w) d ([v].getD j undef):=fun j d hj=>by
 cases j with
 | zero=>simp at hj;subst hj;exact h
 | succ j=>simp at hj
theorem Opens.int {t:TypeId} {k:IntKind} (ht:P.underlying t=some (.int k)) (h1:P.cellsOf t=1):Opens P t (fun n:Int=>.v (.int k n)) (fun n=>(Lit.int k n).wf=true) where
 len a:=by rw [h1];rfl
 st a:=rfl
 rd enc w fuel cs x hx hw:=by
  obtain ⟨n,rfl,rfl,h⟩:=DataW.trod_int ht hx
  exact ⟨n,h,by rw [h1];rfl,one_rd (.v _)⟩
 up a w r b v hv _ h:=one_up (t:=t) (fun cs e=>by subst e;simp [Value.okWide,Cell.okWide,Cell.ok,ht] at hv) h
theorem Opens.bool {t:TypeId} (ht:P.underlying t=some .bool) (h1:P.cellsOf t=1):Opens P t (fun b:Bool=>.v (.bool b)) (fun _=>True) where
 len a:=by rw [h1];rfl
 st a:=rfl
 rd enc w fuel cs x hx hw:=by
  obtain ⟨n,rfl,rfl⟩:=DataW.trod_bool ht hx
  exact ⟨n,trivial,by rw [h1];rfl,one_rd (.v _)⟩
 up a w r b v hv _ h:=one_up (t:=t) (fun cs e=>by subst e;simp [Value.okWide,Cell.okWide,Cell.ok,ht] at hv) h
theorem Opens.string {t:TypeId} (ht:P.underlying t=some .string) (h1:P.cellsOf t=1):Opens P t (fun s:ByteArray=>.v (.string s)) (fun s=>s.size≤reachBytes) where
 len a:=by rw [h1];rfl
 st a:=rfl
 rd enc w fuel cs x hx hw:=by
  obtain ⟨s,rfl,rfl,h⟩:=DataW.trod_string ht hx
  have:=List.all_eq_true.1 hw s.data.toList.length (by simp [DataW.weights])
  rw [bytes_size] at this
  exact ⟨s,by simpa using this,by rw [h1];rfl,one_rd (.v _)⟩
 up a w r b v hv _ h:=one_up (t:=t) (fun cs e=>by subst e;simp [Value.okWide,Cell.okWide,Cell.ok,ht] at hv) h
theorem spot_of_cell {w:World} {a:Addr} {u:Value} (h:w.cell? a=some u):a.spot=none:=by
 unfold World.cell? at h
 split at h
 ·split at h
  ·cases h
  ·rename_i hs;simpa using hs
 ·cases h
theorem add_add {a:Addr} (hs:a.spot=none) (i j:Nat):(a.add i).add j=⟨a.block,a.off+(i+j),none⟩:=by
 obtain ⟨b,o,s⟩:=a
 simp only at hs
 subst hs
 unfold Addr.add
 split<;>split<;>simp_all<;>omega
theorem flatF_at {sz:Nat} {es:List FV} (hu:UniF sz es) (h0:0<sz) {j:Nat} {c:FV} (h:(flatF es)[j]?=some c):∃e,es[j/sz]?=some e∧e.cells[j%sz]?=some c:=by
 have h1:=flat_get (uni_f.2 hu) (i:=j/sz) (Nat.mod_lt j h0)
 rw [Nat.mul_comm,Nat.div_add_mod,flat_f,List.getElem?_map,h,List.getElem?_map] at h1
 cases he:es[j/sz]? with
 | none=>rw [he] at h1;cases h1
 | some e =>
  rw [he] at h1
  simp only [Option.map_some,Option.bind_some,cells_f,List.getElem?_map] at h1
  cases hc:e.cells[j%sz]? with
  | none=>rw [hc] at h1;cases h1
  | some d=>rw [hc] at h1;cases h1;exact ⟨e,rfl,hc⟩
theorem Opens.slice {t e:TypeId} {α:Type} {F:α→FV} {Ok:α→Prop} (h:Opens P e F Ok) {n:Nat} (ht:P.underlying t=some (.slice e)) (hn:P.cellsOf e=n) (h0:0<n) (h1:P.cellsOf t=1) :
  Opens P t (fun l:List α=>.fz n (l.map F)) (fun l=>l.length*P.bytesOf e≤reachBytes∧∀a∈l,Ok a) where
 len a:=by rw [h1];rfl
 st a:=rfl
 rd {H} enc w fuel cs x hx hw:=by
  rcases DataW.trod_slice ht hx with ⟨rfl,rfl⟩|⟨a,len,cap,elems,rest,m,_,rfl,rfl,_,hl,hm,hlen,hel,_,_⟩
  ·exact ⟨[],⟨by simp,by simp⟩,by rw [h1];rfl,one_rd (.fz0 _ _ _ (by simp))⟩
  ·rw [hn] at hel
   have hwa:∀y∈elems,(y.1.weights P e).all (·≤ reachBytes)=true:=fun y hy=>List.all_eq_true.2 fun k hk=>List.all_eq_true.1 hw k (by
    simp only [DataW.weights,ht,List.mem_cons,List.mem_append]
    exact .inr (.inl (mem_weightsAll (List.mem_map.2 ⟨y,hy,rfl⟩) k hk)))
   have hwl:len*P.bytesOf e≤reachBytes:=by
    have:=List.all_eq_true.1 hw ((elems.length+rest.length)*P.bytesOf e) (by simp [DataW.weights,ht])
    have h2:(elems.length+rest.length)*P.bytesOf e≤reachBytes:=by simpa using this
    rw [Nat.add_mul,hlen] at h2
    omega
   have each:∀i:Fin len,∃b:α,Ok b∧∀(j:Nat) c,(F b).cells[j]?=some c→∃u,w.cell? ((a.add (i.1*n)).add j)=some u∧RepF w (Old w) c u:=fun i=>by
    have hi:=hel i.1 i.2
    have hy:elems[i.1]?=some (elems[i.1]'(by rw [hlen];exact i.2)):=List.getElem?_eq_getElem _
    rw [hy] at hi
    obtain ⟨cs',hc,hd⟩:=Option.bind_eq_some_iff.1 hi
    obtain ⟨b,hb1,hb2,hb3⟩:=h.rd enc w m cs' _ hd (hwa _ (List.getElem_mem _))
    refine ⟨b,hb1,fun j c hj=>⟨cs'.getD j undef,?_,hb3 j c hj⟩⟩
    have hjn:j<n:=by rw [←hn,←h.len b];exact glt hj
    rw [(World.cells?_some hc).2.2 j hjn,List.getD_eq_getElem?_getD]
    have:j<cs'.length:=by rw [(World.cells?_some hc).2.1];exact hjn
    rw [List.getElem?_eq_getElem this];rfl
   let A:Fin len→α:=fun i=>Classical.choose (each i)
   have hA:∀i,Ok (A i)∧∀(j:Nat) c,(F (A i)).cells[j]?=some c→∃u,w.cell? ((a.add (i.1*n)).add j)=some u∧RepF w (Old w) c u:=fun i=>Classical.choose_spec (each i)
   refine ⟨List.ofFn A,⟨by rw [List.length_ofFn];exact hwl,fun b hb=>by obtain ⟨i,rfl⟩:=List.mem_ofFn.1 hb;exact (hA i).1⟩,by rw [h1];rfl,one_rd ?_⟩
   by_cases hz:len=0
   ·subst hz
    have:List.ofFn A=[]:=by simp
    rw [this]
    exact .fz0 _ _ _ hm
   ·have hpos:0<len:=by omega
    have hfirst:∃u,w.cell? a=some u:=by
     obtain ⟨_,h3⟩:=hA ⟨0,hpos⟩
     have hl0:0<(F (A ⟨0,hpos⟩)).cells.length:=by rw [h.len,hn];exact h0
     obtain ⟨u,hu,_⟩:=h3 0 _ (List.getElem?_eq_getElem hl0)
     exact ⟨u,by simpa [Addr.add] using hu⟩
    obtain ⟨u0,hu0⟩:=hfirst
    have hs:=spot_of_cell hu0
    have hblk:a.block<w.heap.size:=block_lt_of_cell hu0
    have hel2:∀x∈(List.ofFn A).map F,x.cells.length=n∧x.st=true:=fun x hx=>by
     obtain ⟨b,_,rfl⟩:=List.mem_map.1 hx
     exact ⟨by rw [h.len,hn],h.st b⟩
    have key:∀(j:Nat) c,(flatF ((List.ofFn A).map F))[j]?=some c→∃u,w.cell? ⟨a.block,a.off+j,none⟩=some u∧RepF w (Old w) c u:=fun j c hj=>by
     obtain ⟨e',he1,he2⟩:=flatF_at hel2 h0 hj
     rw [List.getElem?_map] at he1
     cases hb:(List.ofFn A)[j/n]? with
     | none=>rw [hb] at he1;cases he1
     | some b =>
      rw [hb] at he1
      cases he1
      have hjl:j/n<len:=by have:=glt hb;simpa using this
      have hbe:b=A ⟨j/n,hjl⟩:=by
       rw [List.getElem?_eq_getElem (by simpa using hjl)] at hb
       simpa using hb.symm
      subst hbe
      obtain ⟨u,h3,h4⟩:=(hA ⟨j/n,hjl⟩).2 (j%n) c he2
      rw [add_add hs,Nat.mul_comm,Nat.div_add_mod] at h3
      exact ⟨u,h3,h4⟩
    have hval:(Value.slice (some a) len cap)=.slice (some ⟨a.block,a.off,none⟩) ((List.ofFn A).map F).length cap:=by
     obtain ⟨b,o,s⟩:=a
     simp only at hs
     subst hs
     simp
    rw [hval]
    refine .fz n _ a.block a.off cap hblk (by simpa using hl) hm hel2 (fun j=>(w.cell? ⟨a.block,a.off+j,none⟩).getD undef) (fun j c hj=>?_) fun j c hj=>?_
    ·obtain ⟨u,h3,_⟩:=key j c hj
     rw [h3];rfl
    ·obtain ⟨u,h3,h4⟩:=key j c hj
     rw [h3];exact h4
 up a w r b v hv _ h:=one_up (t:=t) (fun cs e=>by subst e;simp [Value.okWide,Cell.okWide,Cell.ok,ht] at hv) h
theorem repFL_nil {w:World} {F:Nat→Prop}:RepFL w F [] #[]:=⟨rfl,fun j x h=>by simp at h⟩
theorem repFL_cons {w:World} {F:Nat→Prop} {c:FV} {v:Value} {cs:List FV} {vs:List Value} (h:RepF w F c v) (hs:RepFL w F cs vs.toArray):RepFL w F (c::cs) (v::vs).toArray :=
 ⟨by simpa using hs.1,fun j x hj=>by
  cases j with
  | zero=>simp at hj;subst hj;simpa [Array.getD_eq_getD_getElem?] using h
  | succ j=>simpa [Array.getD_eq_getD_getElem?] using hs.2 j x (by simpa using hj)⟩
theorem trodAll_below {enc:TypeId × Value→H} {W W':World} (hl:laidOutB P=true) (hb:Below W.heap.size W W'):∀{ts:List TypeId} {vs:List Value} {ds:List (DataW H)} {ps:List MemPlace},ts.all (fun t=>P.readableRec t&&decide (t<P.types.size))=true →
  DataW.TrodAll enc P W 0 (fun _=>true) true ts vs ds ps→(∀x∈ps,x.block<W.heap.size)→DataW.TrodAll enc P W' 0 (fun b=>decide (b<W.heap.size)) true ts vs ds ps
 | [],vs,ds,ps,_,h,_=>by
  obtain ⟨rfl,rfl,rfl⟩:=trodAll_nil h
  rfl
 | t::ts,vs,ds,ps,hr,h,hlt=>by
  obtain ⟨v,vs',d,ds',p,q,rfl,rfl,rfl,hd,hrest⟩:=trodAll_cons h
  simp only [List.all_cons,Bool.and_eq_true,decide_eq_true_eq] at hr
  exact ⟨p,q,Below.trod hl hr.1.1 hr.1.2 hd hb (fun x hx=>hlt x (List.mem_append.2 (.inl hx))),trodAll_below hl hb hr.2 hrest (fun x hx=>hlt x (List.mem_append.2 (.inr hx))),rfl⟩
theorem post_of_below {enc:TypeId × Value→H} {f:Func} {s:ChangeSpec} {apart fresh handsOn:Bool} {W W':World} {args:Array Value} {v:Value} {ds gs:List (DataW H)} {before:List MemPlace} {ts:List TypeId} (hts:f.params.toList=ts) (hl:laidOutB P=true)
  (hrd:ts.all (fun t=>P.readableRec t&&decide (t<P.types.size))=true) (hvars:s.vars=[])
  (hW:DataW.Whole enc P f.params.toList s.vars apart W args.toList ds gs before) (hsa:(s.fn H (ds++gs)).args=ds) (hsv:(s.fn H (ds++gs)).vars=[])
  (hres:∀(b:Nat) (sp:Nat→Bool) (hd:Bool),DataW.TrodAll enc P W' b sp hd f.resultTypes.toList (v.resultList f.resultTypes.size) (s.fn H (ds++gs)).results [])
  (hb:Below W.heap.size W W'):s.post enc P f apart fresh handsOn false W args v W':=by
 have hW0:=hW
 have hold:∀p∈before,p.block<W.heap.size:=fun p hp=>hW.lt p hp
 obtain ⟨p,q,hA,hV,rfl,hfz,hnd⟩:=hW
 have hV0:=hV
 rw [hvars] at hV0
 obtain ⟨hg0,hq0⟩:=trodVars_none hV0
 subst hq0
 subst hts
 have hA':=trodAll_below hl hb hrd hA (fun x hx=>hold x (List.mem_append.2 (.inl hx)))
 refine ⟨ds,gs,p++[],[],p,[],hW0,hres _ _ _,by rw [hsa];exact hA',?_,World.keptBut_mono (fun x hx=>⟨hx,Or.inr (by simpa using hx)⟩) (hb.frame (·∈ p++[])),fun h=>by cases h⟩
 rw [hvars,hsv];rfl
end
end Go.Proofs.YtmcgeppgfjlclaaGreatDoor
set_option linter.unusedVariables false
set_option linter.unusedSimpArgs false
namespace Go.Proofs.YtmcgeppgfjlclaaGreatDoor
open Go Go.RowKit
def OkI (n:Int):Prop:=-9223372036854775808≤n∧n≤9223372036854775807
def OkIs (l:List Int):Prop:=l.length≤140737488355328∧∀x∈l,OkI x
theorem reach_8 {n m:Nat} (h:n*m≤reachBytes) (hm:0<m):n≤140737488351232:=by
 have e:reachBytes=140737488351232:=by decide
 rw [e] at h
 exact Nat.le_trans (Nat.le_mul_of_pos_right n hm) h
theorem oI:Opens Tryz.prog 3 I OkI:=(Opens.int Tryz.underlying3 (by kernel_rfl)).map fun n h=>Go.bounds_i64 h
theorem oIs:Opens Tryz.prog 22 ints OkIs:=(oI.slice Tryz.underlying22 (by kernel_rfl) (by decide) (by kernel_rfl)).map fun l h=>⟨Nat.le_trans (reach_8 h.1 (by decide +kernel)) (by decide),h.2⟩
end Go.Proofs.YtmcgeppgfjlclaaGreatDoor
set_option linter.unusedVariables false
set_option linter.unusedSimpArgs false
namespace Go.Proofs.YtmcgeppgfjlclaaGreatDoor
open Go Go.RowKit
abbrev F3:=Bool × ByteArray × ByteArray
end Go.Proofs.YtmcgeppgfjlclaaGreatDoor
set_option linter.unusedVariables false
set_option linter.unusedSimpArgs false
namespace Go.Proofs.YtmcgeppgfjlclaaGreatDoor
open Go Go.RowKit
set_option maxRecDepth 100000 in
theorem sameFracs_w (l:List Rat) (hn:l.length≤140737488355328):Good Tryz.prog 48 [frs l,frs l] (Bo true):=by
 refine good_of Tryz.func48 rfl (by kernel_rfl) fun X hO hrd=>?_;rw [Tryz.ntmps48,Tryz.results48];simp only [ast0,List.map_cons,List.map_nil,List.length_cons,List.length_nil,Nat.reduceAdd,Nat.reduceSub,List.replicate_succ,List.replicate_zero,List.cons_append,List.nil_append]
 (repeat (first|(with_reducible first|refine W_seq fun K hK=>?_|refine J_block ?_|refine J_skip ?_|refine J_exit ?_|refine J_ret ?_|refine J_region ?_ |refine J_drawn mixed (by kernel_rfl) ?_|refine aApp_sl ?_|refine aApp_old ?_|refine J_c ?_|refine Jc_true ?_|refine Jc_false ?_|exact Frz.f _|(refine Kont.go (by assumption) ?_)|(simp (config:={ maxSteps:=3000000 }) (disch:=omega) only [go_sem,Nat.reduceEqDiff,↓reduceIte,Nat.reduceAdd,Nat.reduceLT,Nat.reduceLeDiff,Int.reduceLT,Int.reduceLE,Int.reduceEq,Int.reduceNe,Int.reduceAdd,Int.reduceSub,Int.reduceMul,Int.reduceNeg,Int.reduceToNat,List.length_map]))|refine And.intro (by omega) ?_|refine And.intro (And.intro (by omega) (by omega)) ?_))
 refine W_loop [4,5,11,12,13,14,15,16,17,18,19,20,21,22,23,24,25] (fun x:Nat=>[(5,.f (I x))]) (fun x:Nat=>[]) (fun x:Nat=>x≤l.length) (fun x:Nat=>l.length-x) (0) (Nat.zero_le _) (by refine weak_of ?_ ?_<;>simp (disch:=omega) only [go_sem,Nat.reduceAdd,Nat.reduceLT,Nat.reduceEqDiff]<;>first|rfl|exact ⟨rfl,rfl⟩|exact Or.inl rfl|exact ⟨Or.inl rfl,Or.inl rfl⟩|trivial|assumption|omega|(symm;assumption)|((repeat' apply And.intro)<;>first|rfl|omega|trivial|exact .inl rfl|exact .inr ⟨rfl,rfl⟩|exact .inr rfl|(right;symm;assumption)|(symm;assumption)|assumption)) ?_
 rintro i hi
 simp only [go_sem,Nat.reduceAdd,Nat.reduceLT,Nat.reduceEqDiff]
 (repeat (first|(with_reducible first|refine W_seq fun K hK=>?_|refine J_block ?_|refine J_skip ?_|refine J_exit ?_|refine J_ret ?_|refine J_region ?_ |refine J_drawn mixed (by kernel_rfl) ?_|refine aApp_sl ?_|refine aApp_old ?_|refine J_c ?_|refine Jc_true ?_|refine Jc_false ?_|exact Frz.f _|(refine Kont.go (by assumption) ?_)|(simp (config:={ maxSteps:=3000000 }) (disch:=omega) only [go_sem,Nat.reduceEqDiff,↓reduceIte,Nat.reduceAdd,Nat.reduceLT,Nat.reduceLeDiff,Int.reduceLT,Int.reduceLE,Int.reduceEq,Int.reduceNe,Int.reduceAdd,Int.reduceSub,Int.reduceMul,Int.reduceNeg,Int.reduceToNat,List.length_map]))|refine And.intro (by omega) ?_|refine And.intro (And.intro (by omega) (by omega)) ?_))
 refine Jc_if (fun hlt=>?_) (fun hlt=>?_)<;>try simp only [decide_eq_true_eq,decide_eq_false_iff_not,Bool.not_eq_true',Bool.not_eq_false',Bool.not_true,Bool.not_false,Int.ofNat_lt,Int.ofNat_le,Int.natCast_inj,Classical.not_not] at hlt
 ·(repeat (first|(with_reducible first|refine W_seq fun K hK=>?_|refine J_block ?_|refine J_skip ?_|refine J_exit ?_|refine J_ret ?_|refine J_region ?_ |refine J_drawn mixed (by kernel_rfl) ?_|refine aApp_sl ?_|refine aApp_old ?_|refine J_c ?_|refine Jc_true ?_|refine Jc_false ?_|exact Frz.f _|(refine Kont.go (by assumption) ?_)|(simp (config:={ maxSteps:=3000000 }) (disch:=omega) only [go_sem,Nat.reduceEqDiff,↓reduceIte,Nat.reduceAdd,Nat.reduceLT,Nat.reduceLeDiff,Int.reduceLT,Int.reduceLE,Int.reduceEq,Int.reduceNe,Int.reduceAdd,Int.reduceSub,Int.reduceMul,Int.reduceNeg,Int.reduceToNat,map_get fr l hlt,hlt]))|refine And.intro (by omega) ?_|refine And.intro (And.intro (by omega) (by omega)) ?_))
  refine ⟨i+1,by omega,by omega,weak_of ?_ ?_⟩<;>(try simp (disch:=omega) only [go_sem,Nat.reduceAdd,Nat.reduceLT,Nat.reduceEqDiff])<;>(try first|done|omega|rfl|exact ⟨rfl,rfl⟩|trivial)
 ·(repeat (first|(with_reducible first|refine W_seq fun K hK=>?_|refine J_block ?_|refine J_skip ?_|refine J_exit ?_|refine J_ret ?_|refine J_region ?_ |refine J_drawn mixed (by kernel_rfl) ?_|refine aApp_sl ?_|refine aApp_old ?_|refine J_c ?_|refine Jc_true ?_|refine Jc_false ?_|exact Frz.f _|(refine Kont.go (by assumption) ?_)|(simp (config:={ maxSteps:=3000000 }) (disch:=omega) only [go_sem,Nat.reduceEqDiff,↓reduceIte,Nat.reduceAdd,Nat.reduceLT,Nat.reduceLeDiff,Int.reduceLT,Int.reduceLE,Int.reduceEq,Int.reduceNe,Int.reduceAdd,Int.reduceSub,Int.reduceMul,Int.reduceNeg,Int.reduceToNat]))|refine And.intro (by omega) ?_|refine And.intro (And.intro (by omega) (by omega)) ?_))
end Go.Proofs.YtmcgeppgfjlclaaGreatDoor
set_option linter.unusedVariables false
set_option linter.unusedSimpArgs false
namespace Go.Proofs.YtmcgeppgfjlclaaGreatDoor
open Go Go.RowKit
section
variable {Z l la lb : List Nat} {qs qa qb : List Rat} {k j v : Nat}
theorem getD_fz {i:Nat} (h:Row k qs) (hk:8≤k):Fz (qs.getD i 0) k:=by
 by_cases hi:i<qs.length
 ·rw [lget_lt qs 0 hi];exact h.get hi
 ·rw [List.getD_eq_getElem?_getD,List.getElem?_eq_none (by omega)]
  exact (Fz.int (n:=0) (by decide)).up hk
theorem f1S_fz {op:Rat→Rat→Rat} {f:Nat→Rat} (hf:∀x,Fz (f x) k) (hop:∀a b s,Fz a s→Fz b k→Fz (op a b) (s+k+1)):∀n,Fz (f1S op f n) ((n+1)*(k+1)):=by
 intro n
 induction n with
 | zero=>exact (hf 0).up (by omega)
 | succ n ih=>exact (hop _ _ _ ih (hf (n+1))).up (by rw [Nat.add_mul (n+1)];omega)
theorem opT_fz (most:Bool):∀a b s,Fz a s→Fz b k→Fz (opT most a b) (s+k+1):=fun a b s ha hb=>by
 cases most with
 | false=>exact ha.add hb
 | true =>
  show Fz (gtrS a b) _
  unfold gtrS
  split
  ·exact hb.up (by omega)
  ·exact ha.up (by omega)
theorem outT_row (h:OkT Z l) (hv:v<Z.length) (hq:Row k qs) (hk:8≤k) (most:Bool):Row (4*(k+1)) (outT (opT most) Z l v qs):=fun q hq'=>by
 unfold outT tblS at hq'
 obtain ⟨i,_,rfl⟩:=List.mem_map.1 hq'
 have h4:=h.sz4 hv
 exact (f1S_fz (f:=fun x=>tblG Z l qs (updS (asgS (szT Z) (lessT l v) i) v x)) (fun x=>getD_fz hq hk) (opT_fz most) (szT Z v-1)).up (Nat.mul_le_mul_right _ (by omega))
theorem proT_row (ha:Row j qa) (hb:Row k qb) (hj:8≤j) (hk:8≤k):Row (j+k) (proT Z la lb qa qb):=fun q hq=>by
 unfold proT tblS at hq
 obtain ⟨i,_,rfl⟩:=List.mem_map.1 hq
 exact (getD_fz ha hj).mul (getD_fz hb hk)
theorem tbOk_c (h:OkT Z l) (hq:Row k qs) (hl:qs.length=cntS (szT Z) l):TbOk k Z l (qs.map fr) qs:=⟨h,Frs.c hq,hl⟩
end
set_option maxRecDepth 100000 in
theorem sameTable_w (l:List Nat) (qs:List Rat) (hl:l.length≤1000) (hq:qs.length≤1000000):Good Tryz.prog 12 [tabV l (qs.map fr),tabV l (qs.map fr)] (Bo true):=by
 have h1:=sameInts_w (l.map Int.ofNat) (by rw [List.length_map];omega)
 rw [ints_Ns] at h1
 have h2:=sameFracs_w qs (by omega)
 refine good_of Tryz.func12 rfl (by kernel_rfl) fun X hO hrd=>?_;rw [Tryz.ntmps12,Tryz.results12];simp only [ast0,List.map_cons,List.map_nil,List.length_cons,List.length_nil,Nat.reduceAdd,Nat.reduceSub,List.replicate_succ,List.replicate_zero,List.cons_append,List.nil_append]
 (repeat (first|(with_reducible first|refine W_seq fun K hK=>?_|refine J_block ?_|refine J_skip ?_|refine J_exit ?_|refine J_ret ?_|refine J_region ?_ |refine J_drawn mixed (by kernel_rfl) ?_|refine aApp_sl ?_|refine aApp_old ?_|refine J_c ?_|refine Jc_true ?_|refine Jc_false ?_|exact Frz.f _|(refine Kont.go (by assumption) ?_)|(simp (config:={ maxSteps:=3000000 }) (disch:=omega) only [go_sem,Nat.reduceEqDiff,↓reduceIte,Nat.reduceAdd,Nat.reduceLT,Nat.reduceLeDiff,Int.reduceLT,Int.reduceLE,Int.reduceEq,Int.reduceNe,Int.reduceAdd,Int.reduceSub,Int.reduceMul,Int.reduceNeg,Int.reduceToNat]))|refine And.intro (by omega) ?_|refine And.intro (And.intro (by omega) (by omega)) ?_))
 (first|refine call_f (h1) rfl ?_|refine callQ_f (h1) rfl ?_|refine callHK_f (h1) rfl ?_|refine callH_f (h1) rfl ?_)
 (repeat (first|(with_reducible first|refine W_seq fun K hK=>?_|refine J_block ?_|refine J_skip ?_|refine J_exit ?_|refine J_ret ?_|refine J_region ?_ |refine J_drawn mixed (by kernel_rfl) ?_|refine aApp_sl ?_|refine aApp_old ?_|refine J_c ?_|refine Jc_true ?_|refine Jc_false ?_|exact Frz.f _|(refine Kont.go (by assumption) ?_)|(simp (config:={ maxSteps:=3000000 }) (disch:=omega) only [go_sem,Nat.reduceEqDiff,↓reduceIte,Nat.reduceAdd,Nat.reduceLT,Nat.reduceLeDiff,Int.reduceLT,Int.reduceLE,Int.reduceEq,Int.reduceNe,Int.reduceAdd,Int.reduceSub,Int.reduceMul,Int.reduceNeg,Int.reduceToNat]))|refine And.intro (by omega) ?_|refine And.intro (And.intro (by omega) (by omega)) ?_))
 (first|refine call_f (h2) rfl ?_|refine callQ_f (h2) rfl ?_|refine callHK_f (h2) rfl ?_|refine callH_f (h2) rfl ?_)
 (repeat (first|(with_reducible first|refine W_seq fun K hK=>?_|refine J_block ?_|refine J_skip ?_|refine J_exit ?_|refine J_ret ?_|refine J_region ?_ |refine J_drawn mixed (by kernel_rfl) ?_|refine aApp_sl ?_|refine aApp_old ?_|refine J_c ?_|refine Jc_true ?_|refine Jc_false ?_|exact Frz.f _|(refine Kont.go (by assumption) ?_)|(simp (config:={ maxSteps:=3000000 }) (disch:=omega) only [go_sem,Nat.reduceEqDiff,↓reduceIte,Nat.reduceAdd,Nat.reduceLT,Nat.reduceLeDiff,Int.reduceLT,Int.reduceLE,Int.reduceEq,Int.reduceNe,Int.reduceAdd,Int.reduceSub,Int.reduceMul,Int.reduceNeg,Int.reduceToNat]))|refine And.intro (by omega) ?_|refine And.intro (And.intro (by omega) (by omega)) ?_))
set_option maxRecDepth 100000 in
theorem sameTable0_w:Good Tryz.prog 12 [tab0,tab0] (Bo true):=by
 have h1:=sameInts_w [] (by simp)
 have h2:=sameFracs_w [] (by simp)
 refine good_of Tryz.func12 rfl (by kernel_rfl) fun X hO hrd=>?_;rw [Tryz.ntmps12,Tryz.results12];simp only [ast0,List.map_cons,List.map_nil,List.length_cons,List.length_nil,Nat.reduceAdd,Nat.reduceSub,List.replicate_succ,List.replicate_zero,List.cons_append,List.nil_append]
 (repeat (first|(with_reducible first|refine W_seq fun K hK=>?_|refine J_block ?_|refine J_skip ?_|refine J_exit ?_|refine J_ret ?_|refine J_region ?_ |refine J_drawn mixed (by kernel_rfl) ?_|refine aApp_sl ?_|refine aApp_old ?_|refine J_c ?_|refine Jc_true ?_|refine Jc_false ?_|exact Frz.f _|(refine Kont.go (by assumption) ?_)|(simp (config:={ maxSteps:=3000000 }) (disch:=omega) only [go_sem,Nat.reduceEqDiff,↓reduceIte,Nat.reduceAdd,Nat.reduceLT,Nat.reduceLeDiff,Int.reduceLT,Int.reduceLE,Int.reduceEq,Int.reduceNe,Int.reduceAdd,Int.reduceSub,Int.reduceMul,Int.reduceNeg,Int.reduceToNat]))|refine And.intro (by omega) ?_|refine And.intro (And.intro (by omega) (by omega)) ?_))
 refine call_fl h1 (.v _) (FrzL.cons (.nil _) (FrzL.cons (.nil _) (FrzL.nil _))) ?_
 (repeat (first|(with_reducible first|refine W_seq fun K hK=>?_|refine J_block ?_|refine J_skip ?_|refine J_exit ?_|refine J_ret ?_|refine J_region ?_ |refine J_drawn mixed (by kernel_rfl) ?_|refine aApp_sl ?_|refine aApp_old ?_|refine J_c ?_|refine Jc_true ?_|refine Jc_false ?_|exact Frz.f _|(refine Kont.go (by assumption) ?_)|(simp (config:={ maxSteps:=3000000 }) (disch:=omega) only [go_sem,Nat.reduceEqDiff,↓reduceIte,Nat.reduceAdd,Nat.reduceLT,Nat.reduceLeDiff,Int.reduceLT,Int.reduceLE,Int.reduceEq,Int.reduceNe,Int.reduceAdd,Int.reduceSub,Int.reduceMul,Int.reduceNeg,Int.reduceToNat]))|refine And.intro (by omega) ?_|refine And.intro (And.intro (by omega) (by omega)) ?_))
 refine call_fl h2 (.v _) (FrzL.cons (.nil _) (FrzL.cons (.nil _) (FrzL.nil _))) ?_
 (repeat (first|(with_reducible first|refine W_seq fun K hK=>?_|refine J_block ?_|refine J_skip ?_|refine J_exit ?_|refine J_ret ?_|refine J_region ?_ |refine J_drawn mixed (by kernel_rfl) ?_|refine aApp_sl ?_|refine aApp_old ?_|refine J_c ?_|refine Jc_true ?_|refine Jc_false ?_|exact Frz.f _|(refine Kont.go (by assumption) ?_)|(simp (config:={ maxSteps:=3000000 }) (disch:=omega) only [go_sem,Nat.reduceEqDiff,↓reduceIte,Nat.reduceAdd,Nat.reduceLT,Nat.reduceLeDiff,Int.reduceLT,Int.reduceLE,Int.reduceEq,Int.reduceNe,Int.reduceAdd,Int.reduceSub,Int.reduceMul,Int.reduceNeg,Int.reduceToNat]))|refine And.intro (by omega) ?_|refine And.intro (And.intro (by omega) (by omega)) ?_))
end Go.Proofs.YtmcgeppgfjlclaaGreatDoor
