/- Sums and chances, of the program and of the document, over numbers as they are told. Conditions: at most 1000 numbers, of 10^7 bytes each. -/
import Derived.Test.YthehegidpamldaaGreatDoorZB12
import Derived.Test.YthehegidpamldaaGreatDoorZB08
import Derived.ChangeSame
import Derived.ProofKit
import Derived.OpenShut
import Derived.Deep.DeepHandedRow
import Derived.Lib.LaidTab
import GoSem.PinnedTables
import Derived.Test.YthehegidpamldaaGreatDoorZB07
import Derived.Carry
import Derived.SizedLaws
import Derived.ChangeArms
import Derived.Test.YthehegidpamldaaGreatDoorZB09
import Derived.Test.YthehegidpamldaaGreatDoorZTbP
set_option linter.unusedVariables false
set_option linter.unusedSimpArgs false
namespace Go.Proofs.YthehegidpamldaaGreatDoor
open Go Go.RowKit
abbrev oF (x:FV):Option AO:=some ⟨39,3,[.f x]⟩
theorem sum_bound {k i n:Nat} (hi:i≤n) (hn:n≤1000) (hk:k≤10000000):8+i*(k+1)≤11000000000:=by
 have:=Nat.mul_le_mul (show i≤1000 by omega) (show k+1≤10000001 by omega);omega
set_option maxRecDepth 100000 in
theorem sum_w {xs:List FV} {l:List Rat} {k:Nat} (hl:Frs k xs l) (h1:1≤k) (hn:l.length≤1000) (hk:k≤10000000):Good Tryz.prog 135 [.fz 3 xs] (fr (sumR l)):=by
 have hr:=hl.row h1
 refine good_of Tryz.func135 rfl (by kernel_rfl) fun X hO hrd=>?_;rw [Tryz.ntmps135,Tryz.results135];simp only [ast0,List.map_cons,List.map_nil,List.length_cons,List.length_nil,Nat.reduceAdd,Nat.reduceSub,List.replicate_succ,List.replicate_zero,List.cons_append,List.nil_append]
 (repeat (first|(with_reducible first|refine W_seq fun K hK=>?_|refine J_block ?_|refine J_region ?_ |(refine Kont.go (by assumption) ?_)|(simp (config:={ maxSteps:=3000000 }) (disch:=omega) only [go_sem,↓reduceIte,Nat.reduceAdd,hl.len]))|refine call_f (of_good (by omega) (by omega)) rfl ?_))
 refine W_loop [5,9,10,11,12,13,14,15,16] (fun x:Nat=>[(9,.f (I x))]) (fun x:Nat=>[oF frN,oF (fr (sumTo l x))]) (fun x:Nat=>x≤l.length) (fun x:Nat=>l.length-x) (0) (Nat.zero_le _) (by refine weak_of ?_ ?_<;>simp (disch:=omega) only [go_sem,Nat.reduceAdd]<;>first|rfl|exact ⟨rfl,rfl⟩|exact Or.inl rfl|exact ⟨Or.inl rfl,Or.inl rfl⟩|trivial|assumption|omega|(symm;assumption)|((repeat' apply And.intro)<;>first|rfl|omega|trivial|exact .inl rfl|exact .inr ⟨rfl,rfl⟩|exact .inr rfl|(right;symm;assumption)|(symm;assumption)|assumption)) ?_
 rintro i hi
 simp only [go_sem]
 (repeat (with_reducible first|refine W_seq fun K hK=>?_|refine J_region ?_ |refine J_c ?_|(refine Kont.go (by assumption) ?_)|(simp (config:={ maxSteps:=3000000 }) (disch:=omega) only [go_sem])))
 refine Jc_if (fun hlt=>?_) (fun hlt=>?_)<;>try simp only [decide_eq_true_eq,decide_eq_false_iff_not] at hlt
 ·have hsz:=sum_bound hi hn hk
  have hd:=IsFr.c (sumTo_fz hr i hi)
  obtain ⟨g,n,d,hx,his⟩:=hl.at3 hlt
  (repeat (first|(with_reducible first|refine W_seq fun K hK=>?_|refine J_block ?_|refine J_skip ?_|refine J_region ?_ |(refine Kont.go (by assumption) ?_)|(simp (config:={ maxSteps:=3000000 }) (disch:=omega) only [go_sem,↓reduceIte,Nat.reduceAdd,hx,hlt,sumTo_next hlt]))|refine call_f (add_w (by assumption) (by assumption) (by omega) (by omega)) rfl ?_))
  refine ⟨i+1,by omega,by omega,weak_of ?_ ?_⟩<;>(try simp (disch:=omega) only [go_sem,Nat.reduceAdd])<;>(try first|done|omega|rfl|exact ⟨rfl,rfl⟩|trivial)
 ·have he:i=l.length:=by omega
  subst he
  (repeat (with_reducible first|refine W_seq fun K hK=>?_|refine J_exit ?_|refine J_ret ?_|refine J_region ?_ |(refine Kont.go (by assumption) ?_)|(simp (config:={ maxSteps:=3000000 }) (disch:=omega) only [go_sem,↓reduceIte,Nat.reduceAdd])))
  exact Frz.f _
def chancesB (l:List Rat):Bool:=decide ((∀q∈l,0≤q)∧sumR l=1)
theorem chances_neg {l:List Rat} {i:Nat} (h:i<l.length) (hn:cmpR l[i] ((0:Int):Rat)<0):chancesB l=false :=
 decide_eq_false fun hh=>Rat.not_lt.2 (hh.1 _ (List.getElem_mem h)) (by simpa using cmpR_lt.1 hn)
theorem chances_end {l:List Rat} (hp:∀j (h:j<l.length),j<l.length→¬cmpR l[j] ((0:Int):Rat)<0):chancesB l=decide (sumR l=((1:Int):Rat)):=by
 unfold chancesB
 rw [decide_eq_decide]
 refine ⟨fun h=>by rw [h.2];rfl,fun h=>⟨fun q hq=>?_,by rw [h];rfl⟩⟩
 obtain ⟨j,hj,rfl⟩:=List.getElem_of_mem hq
 exact Rat.not_lt.1 fun hh=>hp j hj hj (cmpR_lt.2 (by simpa using hh))
set_option maxRecDepth 100000 in
theorem chances_w {xs:List FV} {l:List Rat} {k:Nat} (hl:Frs k xs l) (h1:1≤k) (hn:l.length≤1000) (hk:k≤10000000):Good Tryz.prog 94 [.fz 3 xs] (Bo (chancesB l)):=by
 have hr:=hl.row h1
 have h0:IsFr (fr ((0:Int):Rat)) ((0:Int):Rat) 8:=IsFr.int (by omega) (by omega)
 have h2:IsFr (fr ((1:Int):Rat)) ((1:Int):Rat) 8:=IsFr.int (by omega) (by omega)
 have hsz:=sum_bound (Nat.le_refl _) hn hk
 have hd:IsFr (fr (sumR l)) (sumR l) _:=IsFr.c (sumTo_fz hr _ (Nat.le_refl _))
 refine good_of Tryz.func94 rfl (by kernel_rfl) fun X hO hrd=>?_;rw [Tryz.ntmps94,Tryz.results94];simp only [ast0,List.map_cons,List.map_nil,List.length_cons,List.length_nil,Nat.reduceAdd,Nat.reduceSub,List.replicate_succ,List.replicate_zero,List.cons_append,List.nil_append]
 (repeat (with_reducible first|refine W_seq fun K hK=>?_|refine J_block ?_|refine J_region ?_ |(refine Kont.go (by assumption) ?_)|(simp (config:={ maxSteps:=3000000 }) (disch:=omega) only [go_sem,hl.len])))
 refine W_loop [2,4,7,8,9,10,11,12,13,14,15] (fun x:Nat=>[(7,.f (I x))]) (fun x:Nat=>[]) (fun x:Nat=>x≤l.length∧∀j (h:j<l.length),j<x→¬cmpR l[j] ((0:Int):Rat)<0) (fun x:Nat=>l.length-x) (0) (⟨Nat.zero_le _,fun j _ h=>by omega⟩) (by refine weak_of ?_ ?_<;>simp (disch:=omega) only [go_sem]<;>first|rfl|exact ⟨rfl,rfl⟩|exact Or.inl rfl|exact ⟨Or.inl rfl,Or.inl rfl⟩|trivial|assumption|omega|(symm;assumption)|((repeat' apply And.intro)<;>first|rfl|omega|trivial|exact .inl rfl|exact .inr ⟨rfl,rfl⟩|exact .inr rfl|(right;symm;assumption)|(symm;assumption)|assumption)) ?_
 rintro i ⟨hi,hp⟩
 simp only [go_sem]
 (repeat (with_reducible first|refine W_seq fun K hK=>?_|refine J_region ?_ |refine J_c ?_|(refine Kont.go (by assumption) ?_)|(simp (config:={ maxSteps:=3000000 }) (disch:=omega) only [go_sem])))
 refine Jc_if (fun hlt=>?_) (fun hlt=>?_)<;>try simp only [decide_eq_true_eq,decide_eq_false_iff_not] at hlt
 ·obtain ⟨g,n,d,hx,his⟩:=hl.at3 hlt
  (repeat (first|(with_reducible first|refine W_seq fun K hK=>?_|refine J_block ?_|refine J_skip ?_|refine J_region ?_ |refine J_drawn mixed (by kernel_rfl) ?_|refine J_c ?_|(refine Kont.go (by assumption) ?_)|(simp (config:={ maxSteps:=3000000 }) (disch:=omega) only [go_sem,↓reduceIte,Nat.reduceAdd,hx,hlt]))|refine callQ_f (of_good (by omega) (by omega)) rfl ?_|refine callQ_f (cmp_w (by assumption) (by assumption) (by omega) (by omega)) rfl ?_))
  refine Jc_if (fun hneg=>?_) (fun hneg=>?_)<;>try simp only [decide_eq_true_eq,decide_eq_false_iff_not] at hneg
  ·(repeat (with_reducible first|refine W_seq fun K hK=>?_|refine J_ret ?_|refine J_region ?_ |(refine Kont.go (by assumption) ?_)|(simp (config:={ maxSteps:=3000000 }) (disch:=omega) only [go_sem])))
   rw [chances_neg hlt hneg]
   exact Frz.f _
  ·(repeat (with_reducible first|refine J_skip ?_|refine J_region ?_ |(refine Kont.go (by assumption) ?_)|(simp (config:={ maxSteps:=3000000 }) (disch:=omega) only [go_sem])))
   refine ⟨i+1,⟨by omega,uptoL_next (p:=fun q=>¬cmpR q ((0:Int):Rat)<0) hp fun _=>hneg⟩,by omega,weak_of ?_ ?_⟩<;>(try simp (disch:=omega) only [go_sem])<;>(try first|done|omega|rfl|exact ⟨rfl,rfl⟩|trivial)
 ·have he:i=l.length:=by omega
  subst he
  (repeat (with_reducible first|refine W_seq fun K hK=>?_|refine J_exit ?_|refine J_region ?_ |(refine Kont.go (by assumption) ?_)|(simp (config:={ maxSteps:=3000000 }) (disch:=omega) only [go_sem,↓reduceIte])))
  refine call_f (sum_w hl h1 hn hk) rfl ?_
  (repeat (first|(with_reducible first|refine J_ret ?_|(refine Kont.go (by assumption) ?_)|(simp (config:={ maxSteps:=3000000 }) (disch:=omega) only [go_sem,cmpR_zero]))|refine call_f (of_good (by omega) (by omega)) rfl ?_|refine call_f (cmp_w (by assumption) (by assumption) (by omega) (by omega)) rfl ?_))
  rw [chances_end hp]
  exact Frz.f _
end Go.Proofs.YthehegidpamldaaGreatDoor
namespace Go.Proofs.YthehegidpamldaaGreatDoor
open Go Go.ChangeShapes Go.ChangeAt Go.RowKit
variable {H : Type} {enc : TypeId × Value → H} {P : Program}

def relay (cs:Array Value):Obj→Obj
 | .cells _ t frozen=>.cells cs t frozen
 | o=>o
def firstCells:Array Value:=(Go.Pinned.utf8FirstZ.map fun n:Nat=>Value.int .u8 (n:Int)).toArray
def acceptCells:Array Value:=#[.int .u8 128,.int .u8 191,.int .u8 160,.int .u8 191,.int .u8 128,.int .u8 159,.int .u8 144,.int .u8 191,.int .u8 128,.int .u8 143,.int .u8 0,.int .u8 0,.int .u8 0,.int .u8 0,.int .u8 0,.int .u8 0,.int .u8 0,.int .u8 0,.int .u8 0,.int .u8 0,.int .u8 0,.int .u8 0,.int .u8 0,.int .u8 0,.int .u8 0,.int .u8 0,.int .u8 0,.int .u8 0,.int .u8 0,.int .u8 0,.int .u8 0,.int .u8 0]
end Go.Proofs.YthehegidpamldaaGreatDoor
set_option linter.unusedVariables false
set_option linter.unusedSimpArgs false
namespace Go.Proofs.YthehegidpamldaaGreatDoor
open Go Go.RowKit Go.ChangeShapes

def Old (w:World):Nat→Prop:=fun b=>b<w.heap.size
section
variable {P : Program} {H : Type}
theorem all_of_each {ts:List TypeId} {ds:List (DataW H)} (h:(DataW.weightsEach P ts ds).all (·≤ reachBytes)=true) {j:Nat} {t:TypeId} {d:DataW H} (ht:ts[j]?=some t) (hd:ds[j]?=some d):(d.weights P t).all (·≤ reachBytes)=true :=
 List.all_eq_true.2 fun n hn=>List.all_eq_true.1 h n (DataW.weights_mem_each ht hd n hn)
theorem mem_weightsAll {e:TypeId} {d:DataW H}:∀{ds:List (DataW H)},d∈ds→∀n∈d.weights P e,n∈DataW.weightsAll P e ds
 | [],h,_,_=>by cases h
 | x::r,h,n,hn=>by
  rw [DataW.weightsAll,List.mem_append]
  rcases List.mem_cons.1 h with rfl|h
  ·exact .inl hn
  ·exact .inr (mem_weightsAll h n hn)
structure Opens (P : Program) (t : TypeId) {α : Type} (F : α → FV) (Ok : α → Prop) : Prop where
  len : ∀ a, (F a).cells.length = P.cellsOf t
  st : ∀ a, (F a).st = true
  rd : ∀ {H : Type} (enc : TypeId × Value → H) (w : World) (fuel : Nat) (cs : List Value) (x : DataW H × List MemPlace), DataW.trod enc P w 0 (fun _ => true) true fuel t cs = some x → (x.1.weights P t).all (· ≤ reachBytes) = true →
    ∃ a, Ok a ∧ cs.length = P.cellsOf t ∧ ∀ (j : Nat) c, (F a).cells[j]? = some c → RepF w (Old w) c (cs.getD j undef)
  up : ∀ (a : α) (w : World) (r : Reach) (b : Nat) (v : Value), Value.okWide P w r b t v → v.cells.toList.length = P.cellsOf t → (∀ (j : Nat) c, (F a).cells[j]? = some c → RepF w (Old w) c (v.cells.toList.getD j undef)) → RepF w (Old w) (F a) v
theorem Opens.arg {t:TypeId} {α:Type} {F:α→FV} {Ok:α→Prop} (h:Opens P t F Ok) {enc:TypeId × Value→H} {w:World} {v:Value} {d:DataW H} {p:List MemPlace} {r:Reach} {b:Nat} (hval:Value.okWide P w r b t v)
  (hT:DataW.Trod enc P w 0 (fun _=>true) true t v d p) (hwt:(d.weights P t).all (·≤ reachBytes)=true):∃a,Ok a∧RepF w (Old w) (F a) v:=by
 obtain ⟨fuel,hf⟩:=hT
 obtain ⟨a,h1,h2,h3⟩:=h.rd enc w fuel _ _ hf hwt
 exact ⟨a,h1,h.up a w r b v hval h2 h3⟩
theorem Opens.map {t:TypeId} {α:Type} {F:α→FV} {Ok Ok':α→Prop} (h:Opens P t F Ok) (hk:∀a,Ok a→Ok' a):Opens P t F Ok' :=
 ⟨h.len,h.st,fun enc w fuel cs x hx hw=>by obtain ⟨a,h1,h2⟩:=h.rd enc w fuel cs x hx hw;exact ⟨a,hk a h1,h2⟩,h.up⟩
theorem one_up {t:TypeId} {w:World} {v:Value} {c:FV} (hn:∀cs,v≠.agg cs) (h:∀(j:Nat) d,[c][j]?=some d→RepF w (Old w) d (v.cells.toList.getD j undef)):RepF w (Old w) c v:=by
 have e:v.cells.toList=[v]:=by cases v<;>first|rfl|exact absurd rfl (hn _)
 have:=h 0 c rfl
 rw [e] at this
 exact this
theorem one_rd {w:World} {c:FV} {v:Value} (h:RepF w (Old w) c v):∀(j:Nat) d,[c][j]?=some d→RepF w (Old w) d ([v].getD j undef):=fun j d hj=>by
 cases j with
 | zero=>simp at hj;subst hj;exact h
 | succ j=>simp at hj
theorem Opens.int {t:TypeId} {k:IntKind} (ht:P.underlying t=some (.int k)) (h1:P.cellsOf t=1):Opens P t (fun n:Int=>.v (.int k n)) (fun n=>(Lit.int k n).wf=true) where
 len a:=by rw [h1];rfl
 st a:=rfl
 rd enc w fuel cs x hx hw:=by
  obtain ⟨n,rfl,rfl,h⟩:=DataW.trod_int ht hx
  exact ⟨n,h,by rw [h1];rfl,one_rd (.v _)⟩
 up a w r b v hv _ h:=one_up (t:=t) (fun cs e=>by subst e;simp [Value.okWide,Cell.okWide,Cell.ok,ht] at hv) h
theorem Opens.bool {t:TypeId} (ht:P.underlying t=some .bool) (h1:P.cellsOf t=1):Opens P t (fun b:Bool=>.v (.bool b)) (fun _=>True) where
 len a:=by rw [h1];rfl
 st a:=rfl
 rd enc w fuel cs x hx hw:=by
  obtain ⟨n,rfl,rfl⟩:=DataW.trod_bool ht hx
  exact ⟨n,trivial,by rw [h1];rfl,one_rd (.v _)⟩
 up a w r b v hv _ h:=one_up (t:=t) (fun cs e=>by subst e;simp [Value.okWide,Cell.okWide,Cell.ok,ht] at hv) h
theorem Opens.string {t:TypeId} (ht:P.underlying t=some .string) (h1:P.cellsOf t=1):Opens P t (fun s:ByteArray=>.v (.string s)) (fun s=>s.size≤reachBytes) where
 len a:=by rw [h1];rfl
 st a:=rfl
 rd enc w fuel cs x hx hw:=by
  obtain ⟨s,rfl,rfl,h⟩:=DataW.trod_string ht hx
  have:=List.all_eq_true.1 hw s.data.toList.length (by simp [DataW.weights])
  rw [bytes_size] at this
  exact ⟨s,by simpa using this,by rw [h1];rfl,one_rd (.v _)⟩
 up a w r b v hv _ h:=one_up (t:=t) (fun cs e=>by subst e;simp [Value.okWide,Cell.okWide,Cell.ok,ht] at hv) h
theorem spot_of_cell {w:World} {a:Addr} {u:Value} (h:w.cell? a=some u):a.spot=none:=by
 unfold World.cell? at h
 split at h
 ·split at h
  ·cases h
  ·rename_i hs;simpa using hs
 ·cases h
theorem add_add {a:Addr} (hs:a.spot=none) (i j:Nat):(a.add i).add j=⟨a.block,a.off+(i+j),none⟩:=by
 obtain ⟨b,o,s⟩:=a
 simp only at hs
 subst hs
 unfold Addr.add
 split<;>split<;>simp_all<;>omega
theorem flatF_at {sz:Nat} {es:List FV} (hu:UniF sz es) (h0:0<sz) {j:Nat} {c:FV} (h:(flatF es)[j]?=some c):∃e,es[j/sz]?=some e∧e.cells[j%sz]?=some c:=by
 have h1:=flat_get (uni_f.2 hu) (i:=j/sz) (Nat.mod_lt j h0)
 rw [Nat.mul_comm,Nat.div_add_mod,flat_f,List.getElem?_map,h,List.getElem?_map] at h1
 cases he:es[j/sz]? with
 | none=>rw [he] at h1;cases h1
 | some e =>
  rw [he] at h1
  simp only [Option.map_some,Option.bind_some,cells_f,List.getElem?_map] at h1
  cases hc:e.cells[j%sz]? with
  | none=>rw [hc] at h1;cases h1
  | some d=>rw [hc] at h1;cases h1;exact ⟨e,rfl,hc⟩
theorem Opens.slice {t e:TypeId} {α:Type} {F:α→FV} {Ok:α→Prop} (h:Opens P e F Ok) {n:Nat} (ht:P.underlying t=some (.slice e)) (hn:P.cellsOf e=n) (h0:0<n) (h1:P.cellsOf t=1) :
  Opens P t (fun l:List α=>.fz n (l.map F)) (fun l=>l.length*P.bytesOf e≤reachBytes∧∀a∈l,Ok a) where
 len a:=by rw [h1];rfl
 st a:=rfl
 rd {H} enc w fuel cs x hx hw:=by
  rcases DataW.trod_slice ht hx with ⟨rfl,rfl⟩|⟨a,len,cap,elems,rest,m,_,rfl,rfl,_,hl,hm,hlen,hel,_,_⟩
  ·exact ⟨[],⟨by simp,by simp⟩,by rw [h1];rfl,one_rd (.fz0 _ _ _ (by simp))⟩
  ·rw [hn] at hel
   have hwa:∀y∈elems,(y.1.weights P e).all (·≤ reachBytes)=true:=fun y hy=>List.all_eq_true.2 fun k hk=>List.all_eq_true.1 hw k (by
    simp only [DataW.weights,ht,List.mem_cons,List.mem_append]
    exact .inr (.inl (mem_weightsAll (List.mem_map.2 ⟨y,hy,rfl⟩) k hk)))
   have hwl:len*P.bytesOf e≤reachBytes:=by
    have:=List.all_eq_true.1 hw ((elems.length+rest.length)*P.bytesOf e) (by simp [DataW.weights,ht])
    have h2:(elems.length+rest.length)*P.bytesOf e≤reachBytes:=by simpa using this
    rw [Nat.add_mul,hlen] at h2
    omega
   have each:∀i:Fin len,∃b:α,Ok b∧∀(j:Nat) c,(F b).cells[j]?=some c→∃u,w.cell? ((a.add (i.1*n)).add j)=some u∧RepF w (Old w) c u:=fun i=>by
    have hi:=hel i.1 i.2
    have hy:elems[i.1]?=some (elems[i.1]'(by rw [hlen];exact i.2)):=List.getElem?_eq_getElem _
    rw [hy] at hi
    obtain ⟨cs',hc,hd⟩:=Option.bind_eq_some_iff.1 hi
    obtain ⟨b,hb1,hb2,hb3⟩:=h.rd enc w m cs' _ hd (hwa _ (List.getElem_mem _))
    refine ⟨b,hb1,fun j c hj=>⟨cs'.getD j undef,?_,hb3 j c hj⟩⟩
    have hjn:j<n:=by rw [←hn,←h.len b];exact glt hj
    rw [(World.cells?_some hc).2.2 j hjn,List.getD_eq_getElem?_getD]
    have:j<cs'.length:=by rw [(World.cells?_some hc).2.1];exact hjn
    rw [List.getElem?_eq_getElem this];rfl
   let A:Fin len→α:=fun i=>Classical.choose (each i)
   have hA:∀i,Ok (A i)∧∀(j:Nat) c,(F (A i)).cells[j]?=some c→∃u,w.cell? ((a.add (i.1*n)).add j)=some u∧RepF w (Old w) c u:=fun i=>Classical.choose_spec (each i)
   refine ⟨List.ofFn A,⟨by rw [List.length_ofFn];exact hwl,fun b hb=>by obtain ⟨i,rfl⟩:=List.mem_ofFn.1 hb;exact (hA i).1⟩,by rw [h1];rfl,one_rd ?_⟩
   by_cases hz:len=0
   ·subst hz
    have:List.ofFn A=[]:=by simp
    rw [this]
    exact .fz0 _ _ _ hm
   ·have hpos:0<len:=by omega
    have hfirst:∃u,w.cell? a=some u:=by
     obtain ⟨_,h3⟩:=hA ⟨0,hpos⟩
     have hl0:0<(F (A ⟨0,hpos⟩)).cells.length:=by rw [h.len,hn];exact h0
     obtain ⟨u,hu,_⟩:=h3 0 _ (List.getElem?_eq_getElem hl0)
     exact ⟨u,by simpa [Addr.add] using hu⟩
    obtain ⟨u0,hu0⟩:=hfirst
    have hs:=spot_of_cell hu0
    have hblk:a.block<w.heap.size:=block_lt_of_cell hu0
    have hel2:∀x∈(List.ofFn A).map F,x.cells.length=n∧x.st=true:=fun x hx=>by
     obtain ⟨b,_,rfl⟩:=List.mem_map.1 hx
     exact ⟨by rw [h.len,hn],h.st b⟩
    have key:∀(j:Nat) c,(flatF ((List.ofFn A).map F))[j]?=some c→∃u,w.cell? ⟨a.block,a.off+j,none⟩=some u∧RepF w (Old w) c u:=fun j c hj=>by
     obtain ⟨e',he1,he2⟩:=flatF_at hel2 h0 hj
     rw [List.getElem?_map] at he1
     cases hb:(List.ofFn A)[j/n]? with
     | none=>rw [hb] at he1;cases he1
     | some b =>
      rw [hb] at he1
      cases he1
      have hjl:j/n<len:=by have:=glt hb;simpa using this
      have hbe:b=A ⟨j/n,hjl⟩:=by
       rw [List.getElem?_eq_getElem (by simpa using hjl)] at hb
       simpa using hb.symm
      subst hbe
      obtain ⟨u,h3,h4⟩:=(hA ⟨j/n,hjl⟩).2 (j%n) c he2
      rw [add_add hs,Nat.mul_comm,Nat.div_add_mod] at h3
      exact ⟨u,h3,h4⟩
    have hval:(Value.slice (some a) len cap)=.slice (some ⟨a.block,a.off,none⟩) ((List.ofFn A).map F).length cap:=by
     obtain ⟨b,o,s⟩:=a
     simp only at hs
     subst hs
     simp
    rw [hval]
    refine .fz n _ a.block a.off cap hblk (by simpa using hl) hm hel2 (fun j=>(w.cell? ⟨a.block,a.off+j,none⟩).getD undef) (fun j c hj=>?_) fun j c hj=>?_
    ·obtain ⟨u,h3,_⟩:=key j c hj
     rw [h3];rfl
    ·obtain ⟨u,h3,h4⟩:=key j c hj
     rw [h3];exact h4
 up a w r b v hv _ h:=one_up (t:=t) (fun cs e=>by subst e;simp [Value.okWide,Cell.okWide,Cell.ok,ht] at hv) h
theorem struct_up {t:TypeId} {fs:Array Field} {cs:List FV} {w:World} {r:Reach} {b:Nat} {v:Value} (ht:P.underlying t=some (.struct fs)) (hv:Value.okWide P w r b t v) (hl:v.cells.toList.length=cs.length) (h:∀(j:Nat) c,cs[j]?=some c→RepF w (Old w) c (v.cells.toList.getD j undef)):RepF w (Old w) (.agg cs) v:=by
 unfold Value.okWide at hv
 rw [ht] at hv
 obtain ⟨us,rfl,hs,_⟩:=hv
 refine .agg cs us (by rw [←hl];simp [Value.cells]) fun j c hj=>?_
 have:=h j c hj
 simpa [Value.cells,List.getD_eq_getElem?_getD,Array.getD_eq_getD_getElem?] using this
theorem field_at {α:Type} {t:TypeId} {F:α→FV} {Ok:α→Prop} (h:Opens P t F Ok) (h1:P.cellsOf t=1) {enc:TypeId × Value→H} {w:World} {fuel:Nat} {cs:List Value} {o:Nat} {x:DataW H × List MemPlace} (hx:DataW.trod enc P w 0 (fun _=>true) true fuel t ((cs.drop o).take (P.cellsOf t))=some x)
  (hw:(x.1.weights P t).all (·≤ reachBytes)=true):∃a,Ok a∧∀c,(F a).cells=[c]→RepF w (Old w) c (cs.getD o undef):=by
 obtain ⟨a,h2,h3,h4⟩:=h.rd enc w fuel _ x hx hw
 refine ⟨a,h2,fun c hc=>?_⟩
 have:=h4 0 c (by rw [hc];rfl)
 rw [h1] at h3 this
 have hlo:o<cs.length:=by simp at h3;omega
 have e:((cs.drop o).take 1).getD 0 undef=cs.getD o undef:=by
  simp [List.getD_eq_getElem?_getD,List.getElem?_take,List.getElem?_drop]
 rwa [e] at this
theorem Opens.struct4 {t t0 t1 t2 t3:TypeId} {f0 f1 f2 f3:Field} {α0 α1 α2 α3:Type} {F0:α0→FV} {F1:α1→FV} {F2:α2→FV} {F3:α3→FV} {O0:α0→Prop} {O1:α1→Prop} {O2:α2→Prop} {O3:α3→Prop} (ht:P.underlying t=some (.struct #[f0,f1,f2,f3])) (hc:P.cellsOf t=4)
  (h0:Opens P t0 F0 O0) (h1:Opens P t1 F1 O1) (h2:Opens P t2 F2 O2) (h3:Opens P t3 F3 O3) (e:f0.type=t0∧f1.type=t1∧f2.type=t2∧f3.type=t3∧f0.offset=0∧f1.offset=1∧f2.offset=2∧f3.offset=3∧P.cellsOf t0=1∧P.cellsOf t1=1∧P.cellsOf t2=1∧P.cellsOf t3=1)
  (g:(∀a,(F0 a).oc=true)∧(∀a,(F1 a).oc=true)∧(∀a,(F2 a).oc=true)∧(∀a,(F3 a).oc=true)) :
  Opens P t (fun a:α0 × α1 × α2 × α3=>.agg [F0 a.1,F1 a.2.1,F2 a.2.2.1,F3 a.2.2.2]) (fun a=>O0 a.1∧O1 a.2.1∧O2 a.2.2.1∧O3 a.2.2.2) where
 len a:=by rw [hc];rfl
 st a:=by show [F0 a.1,F1 a.2.1,F2 a.2.2.1,F3 a.2.2.2].all FV.oc=true;simp [g.1,g.2]
 rd enc w fuel cs x hx hw:=by
  obtain ⟨rfl,rfl,rfl,rfl,o0,o1,o2,o3,c0,c1,c2,c3⟩:=e
  obtain ⟨xs,n,_,rfl,hl,hs,hf⟩:=DataW.trod_struct ht hx
  obtain ⟨x0,x1,x2,x3,rfl⟩:∃x0 x1 x2 x3,xs=[x0,x1,x2,x3]:=by
   match xs,hs with
   | [a,b,c,d],_=>exact ⟨a,b,c,d,rfl⟩
  have hw':(DataW.weightsEach P [f0.type,f1.type,f2.type,f3.type] [x0.1,x1.1,x2.1,x3.1]).all (·≤ reachBytes)=true:=by simpa [DataW.weights,ht] using hw
  have k0:=hf 0 f0 rfl
  have k1:=hf 1 f1 rfl
  have k2:=hf 2 f2 rfl
  have k3:=hf 3 f3 rfl
  rw [o0] at k0
  rw [o1] at k1
  rw [o2] at k2
  rw [o3] at k3
  obtain ⟨a0,p0,q0⟩:=field_at h0 c0 k0 (all_of_each hw' (j:=0) rfl rfl)
  obtain ⟨a1,p1,q1⟩:=field_at h1 c1 k1 (all_of_each hw' (j:=1) rfl rfl)
  obtain ⟨a2,p2,q2⟩:=field_at h2 c2 k2 (all_of_each hw' (j:=2) rfl rfl)
  obtain ⟨a3,p3,q3⟩:=field_at h3 c3 k3 (all_of_each hw' (j:=3) rfl rfl)
  have oc1:∀x:FV,x.oc=true→x.cells=[x]:=fun x hx=>by cases x<;>first|rfl|cases hx
  refine ⟨(a0,a1,a2,a3),⟨p0,p1,p2,p3⟩,hl,fun j c hj=>?_⟩
  match j,hj with
  | 0,hj=>cases hj;exact q0 _ (oc1 _ (g.1 _))
  | 1,hj=>cases hj;exact q1 _ (oc1 _ (g.2.1 _))
  | 2,hj=>cases hj;exact q2 _ (oc1 _ (g.2.2.1 _))
  | 3,hj=>cases hj;exact q3 _ (oc1 _ (g.2.2.2 _))
 up a w r b v hv hl h:=struct_up ht hv (by rw [hl,hc];rfl) h
theorem repFL_nil {w:World} {F:Nat→Prop}:RepFL w F [] #[]:=⟨rfl,fun j x h=>by simp at h⟩
theorem repFL_cons {w:World} {F:Nat→Prop} {c:FV} {v:Value} {cs:List FV} {vs:List Value} (h:RepF w F c v) (hs:RepFL w F cs vs.toArray):RepFL w F (c::cs) (v::vs).toArray :=
 ⟨by simpa using hs.1,fun j x hj=>by
  cases j with
  | zero=>simp at hj;subst hj;simpa [Array.getD_eq_getD_getElem?] using h
  | succ j=>simpa [Array.getD_eq_getD_getElem?] using hs.2 j x (by simpa using hj)⟩
theorem trodAll_below {enc:TypeId × Value→H} {W W':World} (hl:laidOutB P=true) (hb:Below W.heap.size W W'):∀{ts:List TypeId} {vs:List Value} {ds:List (DataW H)} {ps:List MemPlace},ts.all (fun t=>P.readableRec t&&decide (t<P.types.size))=true →
  DataW.TrodAll enc P W 0 (fun _=>true) true ts vs ds ps→(∀x∈ps,x.block<W.heap.size)→DataW.TrodAll enc P W' 0 (fun b=>decide (b<W.heap.size)) true ts vs ds ps
 | [],vs,ds,ps,_,h,_=>by
  obtain ⟨rfl,rfl,rfl⟩:=trodAll_nil h
  rfl
 | t::ts,vs,ds,ps,hr,h,hlt=>by
  obtain ⟨v,vs',d,ds',p,q,rfl,rfl,rfl,hd,hrest⟩:=trodAll_cons h
  simp only [List.all_cons,Bool.and_eq_true,decide_eq_true_eq] at hr
  exact ⟨p,q,Below.trod hl hr.1.1 hr.1.2 hd hb (fun x hx=>hlt x (List.mem_append.2 (.inl hx))),trodAll_below hl hb hr.2 hrest (fun x hx=>hlt x (List.mem_append.2 (.inr hx))),rfl⟩
theorem post_of_below {enc:TypeId × Value→H} {f:Func} {s:ChangeSpec} {apart fresh handsOn:Bool} {W W':World} {args:Array Value} {v:Value} {ds gs:List (DataW H)} {before:List MemPlace} {ts:List TypeId} (hts:f.params.toList=ts) (hl:laidOutB P=true)
  (hrd:ts.all (fun t=>P.readableRec t&&decide (t<P.types.size))=true) (hvars:s.vars=[])
  (hW:DataW.Whole enc P f.params.toList s.vars apart W args.toList ds gs before) (hsa:(s.fn H (ds++gs)).args=ds) (hsv:(s.fn H (ds++gs)).vars=[])
  (hres:∀(b:Nat) (sp:Nat→Bool) (hd:Bool),DataW.TrodAll enc P W' b sp hd f.resultTypes.toList (v.resultList f.resultTypes.size) (s.fn H (ds++gs)).results [])
  (hb:Below W.heap.size W W'):s.post enc P f apart fresh handsOn false W args v W':=by
 have hW0:=hW
 have hold:∀p∈before,p.block<W.heap.size:=fun p hp=>hW.lt p hp
 obtain ⟨p,q,hA,hV,rfl,hfz,hnd⟩:=hW
 have hV0:=hV
 rw [hvars] at hV0
 obtain ⟨hg0,hq0⟩:=trodVars_none hV0
 subst hq0
 subst hts
 have hA':=trodAll_below hl hb hrd hA (fun x hx=>hold x (List.mem_append.2 (.inl hx)))
 refine ⟨ds,gs,p++[],[],p,[],hW0,hres _ _ _,by rw [hsa];exact hA',?_,World.keptBut_mono (fun x hx=>⟨hx,Or.inr (by simpa using hx)⟩) (hb.frame (·∈ p++[])),fun h=>by cases h⟩
 rw [hvars,hsv];rfl
end
end Go.Proofs.YthehegidpamldaaGreatDoor
set_option linter.unusedVariables false
set_option linter.unusedSimpArgs false
namespace Go.Proofs.YthehegidpamldaaGreatDoor
open Go Go.RowKit
def OkI (n:Int):Prop:=-9223372036854775808≤n∧n≤9223372036854775807
def OkIs (l:List Int):Prop:=l.length≤140737488355328∧∀x∈l,OkI x
theorem reach_8 {n m:Nat} (h:n*m≤reachBytes) (hm:0<m):n≤140737488351232:=by
 have e:reachBytes=140737488351232:=by decide
 rw [e] at h
 exact Nat.le_trans (Nat.le_mul_of_pos_right n hm) h
theorem oI:Opens Tryz.prog 3 I OkI:=(Opens.int Tryz.underlying3 (by kernel_rfl)).map fun n h=>Go.bounds_i64 h
theorem oB:Opens Tryz.prog 4 Bo (fun _=>True):=Opens.bool Tryz.underlying4 (by kernel_rfl)
theorem oIs:Opens Tryz.prog 31 ints OkIs:=(oI.slice Tryz.underlying31 (by kernel_rfl) (by decide) (by kernel_rfl)).map fun l h=>⟨Nat.le_trans (reach_8 h.1 (by decide +kernel)) (by decide),h.2⟩
end Go.Proofs.YthehegidpamldaaGreatDoor
set_option linter.unusedVariables false
set_option linter.unusedSimpArgs false
namespace Go.Proofs.YthehegidpamldaaGreatDoor
open Go Go.RowKit
abbrev F3:=Bool × ByteArray × ByteArray
end Go.Proofs.YthehegidpamldaaGreatDoor
set_option linter.unusedVariables false
set_option linter.unusedSimpArgs false
namespace Go.Proofs.YthehegidpamldaaGreatDoor
open Go Go.RowKit
end Go.Proofs.YthehegidpamldaaGreatDoor
set_option linter.unusedVariables false
set_option linter.unusedSimpArgs false
namespace Go.Proofs.YthehegidpamldaaGreatDoor
open Go Go.RowKit
end Go.Proofs.YthehegidpamldaaGreatDoor
set_option linter.unusedVariables false
set_option linter.unusedSimpArgs false
namespace Go.Proofs.YthehegidpamldaaGreatDoor
open Go Go.RowKit
abbrev VarD:=ByteArray × List ByteArray
def txF (l:List ByteArray):FV:=.fz 1 (l.map St)
def varF (x:VarD):FV:=.agg [St x.1,txF x.2]
def szN (V:List VarD):List Nat:=V.map fun x=>x.2.length
def rwQ (qs:List Rat) (s j:Nat):List Rat:=(qs.drop (j*s)).take s
def rowQ (Z pa:List Nat) (s:Nat) (qs:List Rat):Int:=if qs.length=cntS (szT Z) pa*s then (if (List.range (cntS (szT Z) pa)).all (fun j=>chancesB (rwQ qs s j))=true then 0 else 9) else 8
def varE (x:VarD):Int:=if 1≤x.2.length∧x.2.length≤4 then namesE x.2 else 2
def paN (P:List (List Int)) (v:Nat):List Nat:=(P.getD v []).map Int.toNat
def varsE (V:List VarD) (i:Nat):Int:=varE (V.getD i (⟨#[]⟩,[]))
def rowsE (V:List VarD) (P:List (List Int)) (M:List (List Rat)) (i:Nat):Int:=rowQ (szN V) (paN P i) (szT (szN V) i) (M.getD i [])
def netE (ge:Int) (V:List VarD) (P:List (List Int)) (M:List (List Rat)):Int :=
 if P.length=V.length∧M.length=V.length then (if ge=0 then (if namesE (V.map Prod.fst)=0 then (if fe (varsE V) V.length=0 then fe (rowsE V P M) V.length else fe (varsE V) V.length) else namesE (V.map Prod.fst)) else ge) else 8
abbrev netV (V:List VarD) (PP RR:List FV):FV:=.agg [.fz 2 (V.map varF),.fz 1 PP,.fz 1 RR]
theorem Frs.piece {k:Nat} {xs:List FV} {l:List Rat} (h:Frs k xs l) (a n:Nat):Frs k ((xs.drop a).take n) ((l.drop a).take n):=⟨by simp [h.len],fun i q hq=>by
 rw [List.getElem?_take] at hq
 split at hq
 ·rename_i hi
  rw [List.getElem?_drop] at hq
  obtain ⟨x,h1,h2⟩:=h.get _ q hq
  exact ⟨x,by rw [List.getElem?_take,if_pos hi,List.getElem?_drop];exact h1,h2⟩
 ·cases hq⟩
end Go.Proofs.YthehegidpamldaaGreatDoor
set_option linter.unusedVariables false
set_option linter.unusedSimpArgs false
namespace Go.Proofs.YthehegidpamldaaGreatDoor
open Go Go.RowKit
abbrev oNt (V P R:List FV):Option AO:=some ⟨26,3,[.f (.agg [.fz 2 V,.fz 1 P,.fz 1 R])]⟩
theorem szN_take {V:List VarD} {x:Nat} (hx:x<V.length):Ns (szN (V.take x))++[I (V[x].2.length:Nat)]=Ns (szN (V.take (x+1))):=by
 rw [Ns_snoc,List.take_add_one,List.getElem?_eq_getElem hx]
 unfold szN
 rw [List.map_append];rfl
theorem szN_len {V:List VarD}:(szN V).length=V.length:=by unfold szN;rw [List.length_map]
set_option maxRecDepth 100000 in
set_option maxHeartbeats 4000000 in
theorem sizes_w (V:List VarD) (P R:List FV) (hV:V.length≤1000000):Good Tryz.prog 16 [.agg [.fz 2 (V.map varF),.fz 1 P,.fz 1 R]] (.fz 1 (Ns (szN V))):=by
 refine good_of Tryz.func16 rfl (by kernel_rfl) fun X hO hrd=>?_;rw [Tryz.ntmps16,Tryz.results16];simp only [ast0,List.map_cons,List.map_nil,List.length_cons,List.length_nil,Nat.reduceAdd,Nat.reduceSub,List.replicate_succ,List.replicate_zero,List.cons_append,List.nil_append]
 (repeat (with_reducible first|refine W_seq fun K hK=>?_|refine J_block ?_|refine J_region ?_ |(refine Kont.go (by assumption) ?_)|(simp (config:={ maxSteps:=3000000 }) (disch:=omega) only [go_sem,↓reduceIte,Nat.reduceAdd,List.length_map])))
 refine J_reserve ?_
 refine W_loop [3,5,9,10,11,12,13,14,15,16,17,18,19] (fun x:Nat=>[(3,sl 1 1 (Ns (szN (V.take x)))),(9,.f (I x))]) (fun x:Nat=>[oNt (V.map varF) P R,ob 3 1 (Ns (szN (V.take x)))]) (fun x:Nat=>x≤V.length) (fun x:Nat=>V.length-x) (0) (Nat.zero_le _) (by refine weak_of ?_ ?_<;>simp (disch:=omega) only [go_sem,Nat.reduceAdd]<;>first|rfl|exact ⟨rfl,rfl⟩|exact Or.inl rfl|exact ⟨Or.inl rfl,Or.inl rfl⟩|trivial|assumption|omega|(symm;assumption)|((repeat' apply And.intro)<;>first|rfl|omega|trivial|exact .inl rfl|exact .inr ⟨rfl,rfl⟩|exact .inr rfl|(right;symm;assumption)|(symm;assumption)|assumption)) ?_
 rintro x hx
 simp only [go_sem]
 (repeat (with_reducible first|refine W_seq fun K hK=>?_|refine J_region ?_ |refine J_c ?_|(refine Kont.go (by assumption) ?_)|(simp (config:={ maxSteps:=3000000 }) (disch:=omega) only [go_sem])))
 refine Jc_if (fun hxl=>?_) (fun hxl=>?_)<;>try simp only [decide_eq_true_eq,decide_eq_false_iff_not] at hxl
 ·have gx:=map_get varF V hxl
  have hs:=szN_take hxl
  have hl:(Ns (szN (V.take x))).length=x:=by rw [Ns_len,szN_len,List.length_take];omega
  have hb:((Ns (szN (V.take x))).length+1)*8≤140737488355328:=by omega
  have hvf:varF V[x]=.agg [St V[x].1,.fz 1 (V[x].2.map St)]:=rfl
  rw [hvf] at gx
  (repeat (first|(with_reducible first|refine W_seq fun K hK=>?_|refine J_block ?_|refine J_skip ?_|refine J_region ?_ |refine aApp_sl ?_|(refine Kont.go (by assumption) ?_)|(simp (config:={ maxSteps:=3000000 }) (disch:=omega) only [go_sem,Nat.reduceEqDiff,↓reduceIte,Nat.reduceAdd,Nat.reduceLeDiff,gx,List.length_map,hs,hb]))|refine And.intro (by omega) ?_))
  refine ⟨x+1,by omega,by omega,weak_of ?_ ?_⟩<;>(try simp (disch:=omega) only [go_sem,Nat.reduceAdd])<;>(try first|done|omega|rfl|exact ⟨rfl,rfl⟩|trivial)
 ·have he:x=V.length:=by omega
  subst he
  rw [List.take_length]
  (repeat (with_reducible first|refine W_seq fun K hK=>?_|refine J_exit ?_|refine J_ret ?_|refine J_region ?_ |(refine Kont.go (by assumption) ?_)|(simp (config:={ maxSteps:=3000000 }) (disch:=omega) only [go_sem,↓reduceIte])))
  exact Frz.sl rfl
set_option maxRecDepth 100000 in
set_option maxHeartbeats 4000000 in
theorem rsizes_w (V:List VarD) (P R:List FV) (hV:V.length≤1000000):Good Tryz.prog 17 [.agg [.fz 2 (V.map varF),.fz 1 P,.fz 1 R]] (.fz 1 (Ns (szN V))):=by
 refine good_of Tryz.func17 rfl (by kernel_rfl) fun X hO hrd=>?_;rw [Tryz.ntmps17,Tryz.results17];simp only [ast0,List.map_cons,List.map_nil,List.length_cons,List.length_nil,Nat.reduceAdd,Nat.reduceSub,List.replicate_succ,List.replicate_zero,List.cons_append,List.nil_append]
 (repeat (with_reducible first|refine W_seq fun K hK=>?_|refine J_block ?_|refine J_region ?_ |(refine Kont.go (by assumption) ?_)|(simp (config:={ maxSteps:=3000000 }) (disch:=omega) only [go_sem,Nat.reduceAdd])))
 refine J_reserve ?_
 refine W_loop [3,4,5,6,7,8,9,10,11,12,13,14,15,16,17,18,19,20,21] (fun x:Nat=>[(3,sl 1 1 (Ns (szN (V.take x)))),(4,.f (I x))]) (fun x:Nat=>[oNt (V.map varF) P R,ob 3 1 (Ns (szN (V.take x)))]) (fun x:Nat=>x≤V.length) (fun x:Nat=>V.length-x) (0) (Nat.zero_le _) (by refine weak_of ?_ ?_<;>simp (disch:=omega) only [go_sem,Nat.reduceAdd]<;>first|rfl|exact ⟨rfl,rfl⟩|exact Or.inl rfl|exact ⟨Or.inl rfl,Or.inl rfl⟩|trivial|assumption|omega|(symm;assumption)|((repeat' apply And.intro)<;>first|rfl|omega|trivial|exact .inl rfl|exact .inr ⟨rfl,rfl⟩|exact .inr rfl|(right;symm;assumption)|(symm;assumption)|assumption)) ?_
 rintro x hx
 simp only [go_sem]
 (repeat (with_reducible first|refine W_seq fun K hK=>?_|refine J_region ?_ |refine J_c ?_|(refine Kont.go (by assumption) ?_)|(simp (config:={ maxSteps:=3000000 }) (disch:=omega) only [go_sem,↓reduceIte])))
 refine Jc_if (fun hxl=>?_) (fun hxl=>?_)<;>try simp only [decide_eq_true_eq,decide_eq_false_iff_not] at hxl
 ·have gx:=map_get varF V hxl
  have hs:=szN_take hxl
  have hl:(Ns (szN (V.take x))).length=x:=by rw [Ns_len,szN_len,List.length_take];omega
  have hb:((Ns (szN (V.take x))).length+1)*8≤140737488355328:=by omega
  have hvf:varF V[x]=.agg [St V[x].1,.fz 1 (V[x].2.map St)]:=rfl
  rw [hvf] at gx
  (repeat (first|(with_reducible first|refine W_seq fun K hK=>?_|refine J_block ?_|refine J_skip ?_|refine J_region ?_ |refine aApp_sl ?_|(refine Kont.go (by assumption) ?_)|(simp (config:={ maxSteps:=3000000 }) (disch:=omega) only [go_sem,Nat.reduceEqDiff,↓reduceIte,Nat.reduceAdd,Nat.reduceLeDiff,gx,List.length_map,hs,hb]))|refine And.intro (by omega) ?_))
  refine ⟨x+1,by omega,by omega,weak_of ?_ ?_⟩<;>(try simp (disch:=omega) only [go_sem,Nat.reduceAdd])<;>(try first|done|omega|rfl|exact ⟨rfl,rfl⟩|trivial)
 ·have he:x=V.length:=by omega
  subst he
  rw [List.take_length]
  (repeat (with_reducible first|refine W_seq fun K hK=>?_|refine J_exit ?_|refine J_ret ?_|refine J_region ?_ |(refine Kont.go (by assumption) ?_)|(simp (config:={ maxSteps:=3000000 }) (disch:=omega) only [go_sem,↓reduceIte])))
  exact Frz.sl rfl
end Go.Proofs.YthehegidpamldaaGreatDoor
set_option linter.unusedVariables false
set_option linter.unusedSimpArgs false
namespace Go.Proofs.YthehegidpamldaaGreatDoor
def tblG (Z l:List Nat) (qs:List Rat) (a:Nat→Nat):Rat:=qs.getD (idxS (szT Z) a l) 0
def lessT (l:List Nat) (v:Nat):List Nat:=l.filter fun u=>decide (u≠v)
def outT (op:Rat→Rat→Rat) (Z l:List Nat) (v:Nat) (qs:List Rat):List Rat:=tblS (szT Z) (lessT l v) (outF op (szT Z v-1) v (tblG Z l qs))
def uniT (n:Nat) (la lb:List Nat):List Nat:=(List.range n).filter fun v=>decide (v∈la∨v∈lb)
section
variable {Z l la lb m : List Nat} {qs qa qb : List Rat} {u v : Nat} {op : Rat → Rat → Rat} {a : Nat → Nat} {G F : (Nat → Nat) → Rat}
theorem mem_lessT:u∈lessT l v↔u∈l∧u≠v:=by unfold lessT;rw [List.mem_filter,decide_eq_true_iff]
theorem OkT.less (h:OkT Z l):OkT Z (lessT l v):=h.sub (List.Pairwise.filter _ h.ris) fun w hw=>h.lt w (mem_lessT.1 hw).1
theorem mem_uniT {n:Nat}:u∈uniT n la lb↔u<n∧(u∈la∨u∈lb):=by unfold uniT;rw [List.mem_filter,List.mem_range,decide_eq_true_iff]
theorem OkT.uni (h:OkT Z la):OkT Z (uniT Z.length la lb):=h.sub (List.Pairwise.filter _ List.pairwise_lt_range) fun w hw=>(mem_uniT.1 hw).1
theorem tblG_tblS (h:OkT Z l) (hG:Dep l G) (ha:∀w∈l,a w<szT Z w):tblG Z l (tblS (szT Z) l G) a=G a:=by
 unfold tblG
 rw [List.getD_eq_getElem?_getD,tblS_get (idxS_lt ha)]
 exact hG _ _ fun w hw=>asgS_idx h.nd ha hw
theorem outT_len:(outT op Z l v qs).length=cntS (szT Z) (lessT l v):=tblS_len
theorem upd_lt (ha:∀w∈lessT l v,a w<szT Z w) {x:Nat} (hx:x<szT Z v):∀w∈l,updS a v x w<szT Z w:=fun w hw=>by
 by_cases e:w=v
 ·rw [e,updS_self];exact hx
 ·rw [updS_ne e];exact ha w (mem_lessT.2 ⟨hw,e⟩)
end
end Go.Proofs.YthehegidpamldaaGreatDoor
