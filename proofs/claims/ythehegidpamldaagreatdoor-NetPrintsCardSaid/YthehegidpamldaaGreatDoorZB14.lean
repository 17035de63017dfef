/- Arguments of a law read as values without addresses, type by type; and the post of a law that changes nothing. Conditions: none. -/
import Derived.Test.YthehegidpamldaaGreatDoorZB08
import Derived.Test.YthehegidpamldaaGreatDoorZB13
import Derived.Carry
import Derived.SizedLaws
import Derived.ChangeArms
import Derived.OpenShut
import Derived.Test.YthehegidpamldaaGreatDoorZB10
import Derived.Test.YthehegidpamldaaGreatDoorZB11
import Derived.Test.YthehegidpamldaaGreatDoorZB12
import Derived.Shelf.Strings.OnBuilder
set_option linter.unusedVariables false
set_option linter.unusedSimpArgs false
namespace Go.Proofs.YthehegidpamldaaGreatDoor
open Go Go.RowKit Go.ChangeShapes

def Old (w:World):Nat→Prop:=fun b=>b<w.heap.size
section
variable {P : Program} {H : Type}
theorem all_of_each {ts:List TypeId} {ds:List (DataW H)} (h:(DataW.weightsEach P ts ds).all (·≤ reachBytes)=true) {j:Nat} {t:TypeId} {d:DataW H} (ht:ts[j]?=some t) (hd:ds[j]?=some d):(d.weights P t).all (·≤ reachBytes)=true :=
 List.all_eq_true.2 fun n hn=>List.all_eq_true.1 h n (DataW.weights_mem_each ht hd n hn)
theorem mem_weightsAll {e:TypeId} {d:DataW H}:∀{ds:List (DataW H)},d∈ds→∀n∈d.weights P e,n∈DataW.weightsAll P e ds
 | [],h,_,_=>by cases h
 | x::r,h,n,hn=>by
  rw [DataW.weightsAll,List.mem_append]
  rcases List.mem_cons.1 h with rfl|h
  ·exact .inl hn
  ·exact .inr (mem_weightsAll h n hn)
structure Opens (P : Program) (t : TypeId) {α : Type} (F : α → FV) (Ok : α → Prop) : Prop where
  len : ∀ a, (F a).cells.length = P.cellsOf t
  st : ∀ a, (F a).st = true
  rd : ∀ {H : Type} (enc : TypeId × Value → H) (w : World) (fuel : Nat) (cs : List Value) (x : DataW H × List MemPlace), DataW.trod enc P w 0 (fun _ => true) true fuel t cs = some x → (x.1.weights P t).all (· ≤ reachBytes) = true →
    ∃ a, Ok a ∧ cs.length = P.cellsOf t ∧ ∀ (j : Nat) c, (F a).cells[j]? = some c → RepF w (Old w) c (cs.getD j undef)
  up : ∀ (a : α) (w : World) (r : Reach) (b : Nat) (v : Value), Value.okWide P w r b t v → v.cells.toList.length = P.cellsOf t → (∀ (j : Nat) c, (F a).cells[j]? = some c → RepF w (Old w) c (v.cells.toList.getD j undef)) → RepF w (Old w) (F a) v
theorem Opens.arg {t:TypeId} {α:Type} {F:α→FV} {Ok:α→Prop} (h:Opens P t F Ok) {enc:TypeId × Value→H} {w:World} {v:Value} {d:DataW H} {p:List MemPlace} {r:Reach} {b:Nat} (hval:Value.okWide P w r b t v)
  (hT:DataW.Trod enc P w 0 (fun _=>true) true t v d p) (hwt:(d.weights P t).all (·≤ reachBytes)=true):∃a,Ok a∧RepF w (Old w) (F a) v:=by
 obtain ⟨fuel,hf⟩:=hT
 obtain ⟨a,h1,h2,h3⟩:=h.rd enc w fuel _ _ hf hwt
 exact ⟨a,h1,h.up a w r b v hval h2 h3⟩
theorem Opens.map {t:TypeId} {α:Type} {F:α→FV} {Ok Ok':α→Prop} (h:Opens P t F Ok) (hk:∀a,Ok a→Ok' a):Opens P t F Ok' :=
 ⟨h.len,h.st,fun enc w fuel cs x hx hw=>by obtain ⟨a,h1,h2⟩:=h.rd enc w fuel cs x hx hw;exact ⟨a,hk a h1,h2⟩,h.up⟩
theorem one_up {t:TypeId} {w:World} {v:Value} {c:FV} (hn:∀cs,v≠.agg cs) (h:∀(j:Nat) d,[c][j]?=some d→RepF w (Old w) d (v.cells.toList.getD j undef)):RepF w (Old w) c v:=by
 have e:v.cells.toList=[v]:=by cases v<;>first|rfl|exact absurd rfl (hn _)
 have:=h 0 c rfl
 rw [e] at this
 exact this
theorem one_rd {w:World} {c:FV} {v:Value} (h:RepF w (Old w) c v):∀(j:Nat) d,[c][j]?=some d→RepF w (Old w) d ([v].getD j undef):=fun j d hj=>by
 cases j with
 | zero=>simp at hj;subst hj;exact h
 | succ j=>simp at hj
theorem Opens.int {t:TypeId} {k:IntKind} (ht:P.underlying t=some (.int k)) (h1:P.cellsOf t=1):Opens P t (fun n:Int=>.v (.int k n)) (fun n=>(Lit.int k n).wf=true) where
 len a:=by rw [h1];rfl
 st a:=rfl
 rd enc w fuel cs x hx hw:=by
  obtain ⟨n,rfl,rfl,h⟩:=DataW.trod_int ht hx
  exact ⟨n,h,by rw [h1];rfl,one_rd (.v _)⟩
 up a w r b v hv _ h:=one_up (t:=t) (fun cs e=>by subst e;simp [Value.okWide,Cell.okWide,Cell.ok,ht] at hv) h
theorem Opens.bool {t:TypeId} (ht:P.underlying t=some .bool) (h1:P.cellsOf t=1):Opens P t (fun b:Bool=>.v (.bool b)) (fun _=>True) where
 len a:=by rw [h1];rfl
 st a:=rfl
 rd enc w fuel cs x hx hw:=by
  obtain ⟨n,rfl,rfl⟩:=DataW.trod_bool ht hx
  exact ⟨n,trivial,by rw [h1];rfl,one_rd (.v _)⟩
 up a w r b v hv _ h:=one_up (t:=t) (fun cs e=>by subst e;simp [Value.okWide,Cell.okWide,Cell.ok,ht] at hv) h
theorem Opens.string {t:TypeId} (ht:P.underlying t=some .string) (h1:P.cellsOf t=1):Opens P t (fun s:ByteArray=>.v (.string s)) (fun s=>s.size≤reachBytes) where
 len a:=by rw [h1];rfl
 st a:=rfl
 rd enc w fuel cs x hx hw:=by
  obtain ⟨s,rfl,rfl,h⟩:=DataW.trod_string ht hx
  have:=List.all_eq_true.1 hw s.data.toList.length (by simp [DataW.weights])
  rw [bytes_size] at this
  exact ⟨s,by simpa using this,by rw [h1];rfl,one_rd (.v _)⟩
 up a w r b v hv _ h:=one_up (t:=t) (fun cs e=>by subst e;simp [Value.okWide,Cell.okWide,Cell.ok,ht] at hv) h
theorem spot_of_cell {w:World} {a:Addr} {u:Value} (h:w.cell? a=some u):a.spot=none:=by
 unfold World.cell? at h
 split at h
 ·split at h
  ·cases h
  ·rename_i hs;simpa using hs
 ·cases h
theorem add_add {a:Addr} (hs:a.spot=none) (i j:Nat):(a.add i).add j=⟨a.block,a.off+(i+j),none⟩:=by
 obtain ⟨b,o,s⟩:=a
 simp only at hs
 subst hs
 unfold Addr.add
 split<;>split<;>simp_all<;>omega
theorem flatF_at {sz:Nat} {es:List FV} (hu:UniF sz es) (h0:0<sz) {j:Nat} {c:FV} (h:(flatF es)[j]?=some c):∃e,es[j/sz]?=some e∧e.cells[j%sz]?=some c:=by
 have h1:=flat_get (uni_f.2 hu) (i:=j/sz) (Nat.mod_lt j h0)
 rw [Nat.mul_comm,Nat.div_add_mod,flat_f,List.getElem?_map,h,List.getElem?_map] at h1
 cases he:es[j/sz]? with
 | none=>rw [he] at h1;cases h1
 | some e =>
  rw [he] at h1
  simp only [Option.map_some,Option.bind_some,cells_f,List.getElem?_map] at h1
  cases hc:e.cells[j%sz]? with
  | none=>rw [hc] at h1;cases h1
  | some d=>rw [hc] at h1;cases h1;exact ⟨e,rfl,hc⟩
theorem Opens.slice {t e:TypeId} {α:Type} {F:α→FV} {Ok:α→Prop} (h:Opens P e F Ok) {n:Nat} (ht:P.underlying t=some (.slice e)) (hn:P.cellsOf e=n) (h0:0<n) (h1:P.cellsOf t=1) :
  Opens P t (fun l:List α=>.fz n (l.map F)) (fun l=>l.length*P.bytesOf e≤reachBytes∧∀a∈l,Ok a) where
 len a:=by rw [h1];rfl
 st a:=rfl
 rd {H} enc w fuel cs x hx hw:=by
  rcases DataW.trod_slice ht hx with ⟨rfl,rfl⟩|⟨a,len,cap,elems,rest,m,_,rfl,rfl,_,hl,hm,hlen,hel,_,_⟩
  ·exact ⟨[],⟨by simp,by simp⟩,by rw [h1];rfl,one_rd (.fz0 _ _ _ (by simp))⟩
  ·rw [hn] at hel
   have hwa:∀y∈elems,(y.1.weights P e).all (·≤ reachBytes)=true:=fun y hy=>List.all_eq_true.2 fun k hk=>List.all_eq_true.1 hw k (by
    simp only [DataW.weights,ht,List.mem_cons,List.mem_append]
    exact .inr (.inl (mem_weightsAll (List.mem_map.2 ⟨y,hy,rfl⟩) k hk)))
   have hwl:len*P.bytesOf e≤reachBytes:=by
    have:=List.all_eq_true.1 hw ((elems.length+rest.length)*P.bytesOf e) (by simp [DataW.weights,ht])
    have h2:(elems.length+rest.length)*P.bytesOf e≤reachBytes:=by simpa using this
    rw [Nat.add_mul,hlen] at h2
    omega
   have each:∀i:Fin len,∃b:α,Ok b∧∀(j:Nat) c,(F b).cells[j]?=some c→∃u,w.cell? ((a.add (i.1*n)).add j)=some u∧RepF w (Old w) c u:=fun i=>by
    have hi:=hel i.1 i.2
    have hy:elems[i.1]?=some (elems[i.1]'(by rw [hlen];exact i.2)):=List.getElem?_eq_getElem _
    rw [hy] at hi
    obtain ⟨cs',hc,hd⟩:=Option.bind_eq_some_iff.1 hi
    obtain ⟨b,hb1,hb2,hb3⟩:=h.rd enc w m cs' _ hd (hwa _ (List.getElem_mem _))
    refine ⟨b,hb1,fun j c hj=>⟨cs'.getD j undef,?_,hb3 j c hj⟩⟩
    have hjn:j<n:=by rw [←hn,←h.len b];exact glt hj
    rw [(World.cells?_some hc).2.2 j hjn,List.getD_eq_getElem?_getD]
    have:j<cs'.length:=by rw [(World.cells?_some hc).2.1];exact hjn
    rw [List.getElem?_eq_getElem this];rfl
   let A:Fin len→α:=fun i=>Classical.choose (each i)
   have hA:∀i,Ok (A i)∧∀(j:Nat) c,(F (A i)).cells[j]?=some c→∃u,w.cell? ((a.add (i.1*n)).add j)=some u∧RepF w (Old w) c u:=fun i=>Classical.choose_spec (each i)
   refine ⟨List.ofFn A,⟨by rw [List.length_ofFn];exact hwl,fun b hb=>by obtain ⟨i,rfl⟩:=List.mem_ofFn.1 hb;exact (hA i).1⟩,by rw [h1];rfl,one_rd ?_⟩
   by_cases hz:len=0
   ·subst hz
    have:List.ofFn A=[]:=by simp
    rw [this]
    exact .fz0 _ _ _ hm
   ·have hpos:0<len:=by omega
    have hfirst:∃u,w.cell? a=some u:=by
     obtain ⟨_,h3⟩:=hA ⟨0,hpos⟩
     have hl0:0<(F (A ⟨0,hpos⟩)).cells.length:=by rw [h.len,hn];exact h0
     obtain ⟨u,hu,_⟩:=h3 0 _ (List.getElem?_eq_getElem hl0)
     exact ⟨u,by simpa [Addr.add] using hu⟩
    obtain ⟨u0,hu0⟩:=hfirst
    have hs:=spot_of_cell hu0
    have hblk:a.block<w.heap.size:=block_lt_of_cell hu0
    have hel2:∀x∈(List.ofFn A).map F,x.cells.length=n∧x.st=true:=fun x hx=>by
     obtain ⟨b,_,rfl⟩:=List.mem_map.1 hx
     exact ⟨by rw [h.len,hn],h.st b⟩
    have key:∀(j:Nat) c,(flatF ((List.ofFn A).map F))[j]?=some c→∃u,w.cell? ⟨a.block,a.off+j,none⟩=some u∧RepF w (Old w) c u:=fun j c hj=>by
     obtain ⟨e',he1,he2⟩:=flatF_at hel2 h0 hj
     rw [List.getElem?_map] at he1
     cases hb:(List.ofFn A)[j/n]? with
     | none=>rw [hb] at he1;cases he1
     | some b =>
      rw [hb] at he1
      cases he1
      have hjl:j/n<len:=by have:=glt hb;simpa using this
      have hbe:b=A ⟨j/n,hjl⟩:=by
       rw [List.getElem?_eq_getElem (by simpa using hjl)] at hb
       simpa using hb.symm
      subst hbe
      obtain ⟨u,h3,h4⟩:=(hA ⟨j/n,hjl⟩).2 (j%n) c he2
      rw [add_add hs,Nat.mul_comm,Nat.div_add_mod] at h3
      exact ⟨u,h3,h4⟩
    have hval:(Value.slice (some a) len cap)=.slice (some ⟨a.block,a.off,none⟩) ((List.ofFn A).map F).length cap:=by
     obtain ⟨b,o,s⟩:=a
     simp only at hs
     subst hs
     simp
    rw [hval]
    refine .fz n _ a.block a.off cap hblk (by simpa using hl) hm hel2 (fun j=>(w.cell? ⟨a.block,a.off+j,none⟩).getD undef) (fun j c hj=>?_) fun j c hj=>?_
    ·obtain ⟨u,h3,_⟩:=key j c hj
     rw [h3];rfl
    ·obtain ⟨u,h3,h4⟩:=key j c hj
     rw [h3];exact h4
 up a w r b v hv _ h:=one_up (t:=t) (fun cs e=>by subst e;simp [Value.okWide,Cell.okWide,Cell.ok,ht] at hv) h
theorem struct_up {t:TypeId} {fs:Array Field} {cs:List FV} {w:World} {r:Reach} {b:Nat} {v:Value} (ht:P.underlying t=some (.struct fs)) (hv:Value.okWide P w r b t v) (hl:v.cells.toList.length=cs.length) (h:∀(j:Nat) c,cs[j]?=some c→RepF w (Old w) c (v.cells.toList.getD j undef)):RepF w (Old w) (.agg cs) v:=by
 unfold Value.okWide at hv
 rw [ht] at hv
 obtain ⟨us,rfl,hs,_⟩:=hv
 refine .agg cs us (by rw [←hl];simp [Value.cells]) fun j c hj=>?_
 have:=h j c hj
 simpa [Value.cells,List.getD_eq_getElem?_getD,Array.getD_eq_getD_getElem?] using this
theorem field_at {α:Type} {t:TypeId} {F:α→FV} {Ok:α→Prop} (h:Opens P t F Ok) (h1:P.cellsOf t=1) {enc:TypeId × Value→H} {w:World} {fuel:Nat} {cs:List Value} {o:Nat} {x:DataW H × List MemPlace} (hx:DataW.trod enc P w 0 (fun _=>true) true fuel t ((cs.drop o).take (P.cellsOf t))=some x)
  (hw:(x.1.weights P t).all (·≤ reachBytes)=true):∃a,Ok a∧∀c,(F a).cells=[c]→RepF w (Old w) c (cs.getD o undef):=by
 obtain ⟨a,h2,h3,h4⟩:=h.rd enc w fuel _ x hx hw
 refine ⟨a,h2,fun c hc=>?_⟩
 have:=h4 0 c (by rw [hc];rfl)
 rw [h1] at h3 this
 have hlo:o<cs.length:=by simp at h3;omega
 have e:((cs.drop o).take 1).getD 0 undef=cs.getD o undef:=by
  simp [List.getD_eq_getElem?_getD,List.getElem?_take,List.getElem?_drop]
 rwa [e] at this
theorem Opens.struct2 {t t0 t1:TypeId} {f0 f1:Field} {α0 α1:Type} {F0:α0→FV} {F1:α1→FV} {O0:α0→Prop} {O1:α1→Prop} (ht:P.underlying t=some (.struct #[f0,f1])) (hc:P.cellsOf t=2)
  (h0:Opens P t0 F0 O0) (h1:Opens P t1 F1 O1) (e:f0.type=t0∧f1.type=t1∧f0.offset=0∧f1.offset=1∧P.cellsOf t0=1∧P.cellsOf t1=1) (g:(∀a,(F0 a).oc=true)∧(∀a,(F1 a).oc=true)) :
  Opens P t (fun a:α0 × α1=>.agg [F0 a.1,F1 a.2]) (fun a=>O0 a.1∧O1 a.2) where
 len a:=by rw [hc];rfl
 st a:=by show [F0 a.1,F1 a.2].all FV.oc=true;simp [g.1,g.2]
 rd enc w fuel cs x hx hw:=by
  obtain ⟨rfl,rfl,o0,o1,c0,c1⟩:=e
  obtain ⟨xs,n,_,rfl,hl,hs,hf⟩:=DataW.trod_struct ht hx
  obtain ⟨x0,x1,rfl⟩:∃x0 x1,xs=[x0,x1]:=by
   match xs,hs with
   | [a,b],_=>exact ⟨a,b,rfl⟩
  have hw':(DataW.weightsEach P [f0.type,f1.type] [x0.1,x1.1]).all (·≤ reachBytes)=true:=by simpa [DataW.weights,ht] using hw
  have k0:=hf 0 f0 rfl
  have k1:=hf 1 f1 rfl
  rw [o0] at k0
  rw [o1] at k1
  obtain ⟨a0,p0,q0⟩:=field_at h0 c0 k0 (all_of_each hw' (j:=0) rfl rfl)
  obtain ⟨a1,p1,q1⟩:=field_at h1 c1 k1 (all_of_each hw' (j:=1) rfl rfl)
  have oc1:∀x:FV,x.oc=true→x.cells=[x]:=fun x hx=>by cases x<;>first|rfl|cases hx
  refine ⟨(a0,a1),⟨p0,p1⟩,hl,fun j c hj=>?_⟩
  match j,hj with
  | 0,hj=>cases hj;exact q0 _ (oc1 _ (g.1 _))
  | 1,hj=>cases hj;exact q1 _ (oc1 _ (g.2 _))
 up a w r b v hv hl h:=struct_up ht hv (by rw [hl,hc];rfl) h
theorem Opens.struct3 {t t0 t1 t2:TypeId} {f0 f1 f2:Field} {α0 α1 α2:Type} {F0:α0→FV} {F1:α1→FV} {F2:α2→FV} {O0:α0→Prop} {O1:α1→Prop} {O2:α2→Prop} (ht:P.underlying t=some (.struct #[f0,f1,f2])) (hc:P.cellsOf t=3)
  (h0:Opens P t0 F0 O0) (h1:Opens P t1 F1 O1) (h2:Opens P t2 F2 O2) (e:f0.type=t0∧f1.type=t1∧f2.type=t2∧f0.offset=0∧f1.offset=1∧f2.offset=2∧P.cellsOf t0=1∧P.cellsOf t1=1∧P.cellsOf t2=1)
  (g:(∀a,(F0 a).oc=true)∧(∀a,(F1 a).oc=true)∧(∀a,(F2 a).oc=true)) :
  Opens P t (fun a:α0 × α1 × α2=>.agg [F0 a.1,F1 a.2.1,F2 a.2.2]) (fun a=>O0 a.1∧O1 a.2.1∧O2 a.2.2) where
 len a:=by rw [hc];rfl
 st a:=by show [F0 a.1,F1 a.2.1,F2 a.2.2].all FV.oc=true;simp [g.1,g.2]
 rd enc w fuel cs x hx hw:=by
  obtain ⟨rfl,rfl,rfl,o0,o1,o2,c0,c1,c2⟩:=e
  obtain ⟨xs,n,_,rfl,hl,hs,hf⟩:=DataW.trod_struct ht hx
  obtain ⟨x0,x1,x2,rfl⟩:∃x0 x1 x2,xs=[x0,x1,x2]:=by
   match xs,hs with
   | [a,b,c],_=>exact ⟨a,b,c,rfl⟩
  have hw':(DataW.weightsEach P [f0.type,f1.type,f2.type] [x0.1,x1.1,x2.1]).all (·≤ reachBytes)=true:=by simpa [DataW.weights,ht] using hw
  have k0:=hf 0 f0 rfl
  have k1:=hf 1 f1 rfl
  have k2:=hf 2 f2 rfl
  rw [o0] at k0
  rw [o1] at k1
  rw [o2] at k2
  obtain ⟨a0,p0,q0⟩:=field_at h0 c0 k0 (all_of_each hw' (j:=0) rfl rfl)
  obtain ⟨a1,p1,q1⟩:=field_at h1 c1 k1 (all_of_each hw' (j:=1) rfl rfl)
  obtain ⟨a2,p2,q2⟩:=field_at h2 c2 k2 (all_of_each hw' (j:=2) rfl rfl)
  have oc1:∀x:FV,x.oc=true→x.cells=[x]:=fun x hx=>by cases x<;>first|rfl|cases hx
  refine ⟨(a0,a1,a2),⟨p0,p1,p2⟩,hl,fun j c hj=>?_⟩
  match j,hj with
  | 0,hj=>cases hj;exact q0 _ (oc1 _ (g.1 _))
  | 1,hj=>cases hj;exact q1 _ (oc1 _ (g.2.1 _))
  | 2,hj=>cases hj;exact q2 _ (oc1 _ (g.2.2 _))
 up a w r b v hv hl h:=struct_up ht hv (by rw [hl,hc];rfl) h
theorem repFL_nil {w:World} {F:Nat→Prop}:RepFL w F [] #[]:=⟨rfl,fun j x h=>by simp at h⟩
theorem repFL_cons {w:World} {F:Nat→Prop} {c:FV} {v:Value} {cs:List FV} {vs:List Value} (h:RepF w F c v) (hs:RepFL w F cs vs.toArray):RepFL w F (c::cs) (v::vs).toArray :=
 ⟨by simpa using hs.1,fun j x hj=>by
  cases j with
  | zero=>simp at hj;subst hj;simpa [Array.getD_eq_getD_getElem?] using h
  | succ j=>simpa [Array.getD_eq_getD_getElem?] using hs.2 j x (by simpa using hj)⟩
theorem trodAll_below {enc:TypeId × Value→H} {W W':World} (hl:laidOutB P=true) (hb:Below W.heap.size W W'):∀{ts:List TypeId} {vs:List Value} {ds:List (DataW H)} {ps:List MemPlace},ts.all (fun t=>P.readableRec t&&decide (t<P.types.size))=true →
  DataW.TrodAll enc P W 0 (fun _=>true) true ts vs ds ps→(∀x∈ps,x.block<W.heap.size)→DataW.TrodAll enc P W' 0 (fun b=>decide (b<W.heap.size)) true ts vs ds ps
 | [],vs,ds,ps,_,h,_=>by
  obtain ⟨rfl,rfl,rfl⟩:=trodAll_nil h
  rfl
 | t::ts,vs,ds,ps,hr,h,hlt=>by
  obtain ⟨v,vs',d,ds',p,q,rfl,rfl,rfl,hd,hrest⟩:=trodAll_cons h
  simp only [List.all_cons,Bool.and_eq_true,decide_eq_true_eq] at hr
  exact ⟨p,q,Below.trod hl hr.1.1 hr.1.2 hd hb (fun x hx=>hlt x (List.mem_append.2 (.inl hx))),trodAll_below hl hb hr.2 hrest (fun x hx=>hlt x (List.mem_append.2 (.inr hx))),rfl⟩
theorem post_of_below {enc:TypeId × Value→H} {f:Func} {s:ChangeSpec} {apart fresh handsOn:Bool} {W W':World} {args:Array Value} {v:Value} {ds gs:List (DataW H)} {before:List MemPlace} {ts:List TypeId} (hts:f.params.toList=ts) (hl:laidOutB P=true)
  (hrd:ts.all (fun t=>P.readableRec t&&decide (t<P.types.size))=true) (hvars:s.vars=[])
  (hW:DataW.Whole enc P f.params.toList s.vars apart W args.toList ds gs before) (hsa:(s.fn H (ds++gs)).args=ds) (hsv:(s.fn H (ds++gs)).vars=[])
  (hres:∀(b:Nat) (sp:Nat→Bool) (hd:Bool),DataW.TrodAll enc P W' b sp hd f.resultTypes.toList (v.resultList f.resultTypes.size) (s.fn H (ds++gs)).results [])
  (hb:Below W.heap.size W W'):s.post enc P f apart fresh handsOn false W args v W':=by
 have hW0:=hW
 have hold:∀p∈before,p.block<W.heap.size:=fun p hp=>hW.lt p hp
 obtain ⟨p,q,hA,hV,rfl,hfz,hnd⟩:=hW
 have hV0:=hV
 rw [hvars] at hV0
 obtain ⟨hg0,hq0⟩:=trodVars_none hV0
 subst hq0
 subst hts
 have hA':=trodAll_below hl hb hrd hA (fun x hx=>hold x (List.mem_append.2 (.inl hx)))
 refine ⟨ds,gs,p++[],[],p,[],hW0,hres _ _ _,by rw [hsa];exact hA',?_,World.keptBut_mono (fun x hx=>⟨hx,Or.inr (by simpa using hx)⟩) (hb.frame (·∈ p++[])),fun h=>by cases h⟩
 rw [hvars,hsv];rfl
end
end Go.Proofs.YthehegidpamldaaGreatDoor
set_option linter.unusedVariables false
set_option linter.unusedSimpArgs false
namespace Go.Proofs.YthehegidpamldaaGreatDoor
open Go Go.RowKit
def OkI (n:Int):Prop:=-9223372036854775808≤n∧n≤9223372036854775807
def OkIs (l:List Int):Prop:=l.length≤140737488355328∧∀x∈l,OkI x
theorem reach_8 {n m:Nat} (h:n*m≤reachBytes) (hm:0<m):n≤140737488351232:=by
 have e:reachBytes=140737488351232:=by decide
 rw [e] at h
 exact Nat.le_trans (Nat.le_mul_of_pos_right n hm) h
theorem oI:Opens Tryz.prog 3 I OkI:=(Opens.int Tryz.underlying3 (by kernel_rfl)).map fun n h=>Go.bounds_i64 h
theorem oB:Opens Tryz.prog 4 Bo (fun _=>True):=Opens.bool Tryz.underlying4 (by kernel_rfl)
theorem oIs:Opens Tryz.prog 31 ints OkIs:=(oI.slice Tryz.underlying31 (by kernel_rfl) (by decide) (by kernel_rfl)).map fun l h=>⟨Nat.le_trans (reach_8 h.1 (by decide +kernel)) (by decide),h.2⟩
end Go.Proofs.YthehegidpamldaaGreatDoor
set_option linter.unusedVariables false
set_option linter.unusedSimpArgs false
namespace Go.Proofs.YthehegidpamldaaGreatDoor
open Go Go.RowKit
def OkS (s:ByteArray):Prop:=s.size≤140737488351232
abbrev F3:=Bool × ByteArray × ByteArray
def OkF (x:F3):Prop:=x.2.1.size≤140737488351232∧x.2.2.size≤140737488351232
def OkFs (l:List F3):Prop:=l.length≤140737488355328∧∀x∈l,OkF x
abbrev frF (x:F3):FV:=frR x.1 x.2.1 x.2.2
theorem oNat:Opens Tryz.prog 37 St OkS:=(Opens.string Tryz.underlying37 (by kernel_rfl)).map fun s h=>h
theorem oF3:Opens Tryz.prog 39 frF OkF:=(Opens.struct3 Tryz.underlying39 (by kernel_rfl) oB oNat oNat ⟨rfl,rfl,rfl,rfl,rfl,rfl,by kernel_rfl,by kernel_rfl,by kernel_rfl⟩ ⟨fun _=>rfl,fun _=>rfl,fun _=>rfl⟩).map fun x h=>⟨h.2.1,h.2.2⟩
theorem oFs:Opens Tryz.prog 32 (fun l:List F3=>.fz 3 (l.map frF)) OkFs:=(oF3.slice Tryz.underlying32 (by kernel_rfl) (by decide) (by kernel_rfl)).map fun l h=>⟨Nat.le_trans (reach_8 h.1 (by decide +kernel)) (by decide),h.2⟩
end Go.Proofs.YthehegidpamldaaGreatDoor
set_option linter.unusedVariables false
set_option linter.unusedSimpArgs false
namespace Go.Proofs.YthehegidpamldaaGreatDoor
open Go Go.RowKit
end Go.Proofs.YthehegidpamldaaGreatDoor
set_option linter.unusedVariables false
set_option linter.unusedSimpArgs false
namespace Go.Proofs.YthehegidpamldaaGreatDoor
open Go Go.RowKit
def fbGo (n:Nat):List F3→Nat
 | []=>n
 | x::l=>if n≤4096 then fbGo (n+x.2.1.size+x.2.2.size) l else n
def fbN (l:List F3):Nat:=fbGo l.length l
theorem fbGo_ge {l:List F3}:∀{n:Nat},n≤fbGo n l:=by
 induction l with
 | nil=>intro n;exact Nat.le_refl _
 | cons x l ih =>
  intro n
  unfold fbGo
  split
  ·exact Nat.le_trans (by omega) (ih (n:=n+x.2.1.size+x.2.2.size))
  ·exact Nat.le_refl _
theorem fbGo_each {l:List F3} {b:Nat} (hb:b≤4096):∀{n:Nat},fbGo n l≤b→∀x∈l,x.2.1.size≤b∧x.2.2.size≤b:=by
 induction l with
 | nil=>intro n _ x hx;cases hx
 | cons y l ih =>
  intro n h x hx
  unfold fbGo at h
  have hn:n≤4096:=by
   split at h
   ·assumption
   ·omega
  rw [if_pos hn] at h
  rcases List.mem_cons.1 hx with rfl|hx
  ·have:=fbGo_ge (l:=l) (n:=n+x.2.1.size+x.2.2.size);omega
  ·exact ih h x hx
theorem fbGo_le {l:List F3} (h:∀x∈l,OkF x):∀{n:Nat},fbGo n l≤n+281474976706560:=by
 induction l with
 | nil=>intro n;unfold fbGo;omega
 | cons y l ih =>
  intro n
  unfold fbGo
  split
  ·cases l with
   | nil=>have:=h y (by simp);unfold OkF at this;unfold fbGo;omega
   | cons z l =>
    by_cases hb:n+y.2.1.size+y.2.2.size≤4096
    ·have:=ih (fun x hx=>h x (by simp [hx])) (n:=n+y.2.1.size+y.2.2.size)
     have:=h y (by simp)
     unfold OkF at this
     have h2:∀(l:List F3) (n:Nat),(∀x∈l,OkF x)→n≤4096→fbGo n l≤4096+281474976702464:=by
      intro l
      induction l with
      | nil=>intro n _ hn;unfold fbGo;omega
      | cons x l ih =>
       intro n hx hn
       unfold fbGo
       rw [if_pos hn]
       by_cases hc:n+x.2.1.size+x.2.2.size≤4096
       ·exact ih _ (fun y hy=>hx y (by simp [hy])) hc
       ·have e:fbGo (n+x.2.1.size+x.2.2.size) l=n+x.2.1.size+x.2.2.size:=by
         cases l with
         | nil=>rfl
         | cons a l=>unfold fbGo;rw [if_neg hc]
        have:=hx x (by simp)
        unfold OkF at this
        omega
     have:=h2 (z::l) _ (fun x hx=>h x (by simp [hx])) hb
     omega
    ·unfold fbGo
     rw [if_neg hb]
     have:=h y (by simp)
     unfold OkF at this
     omega
  ·omega
theorem fbN_len {l:List F3}:l.length≤fbN l:=fbGo_ge
theorem fbN_each {l:List F3} {b:Nat} (hb:b≤4096) (h:fbN l≤b):∀x∈l,x.2.1.size≤b∧x.2.2.size≤b:=fbGo_each hb h
def rv3 (x:F3):Rat:=rv x.1 x.2.1 x.2.2
theorem fbN_frs {l:List F3} {b:Nat} (hb:b≤4096) (h:fbN l≤b):Frs b (l.map frF) (l.map rv3):=⟨by simp,fun i q hq=>by
 rw [List.getElem?_map] at hq ⊢
 cases hx:l[i]? with
 | none=>rw [hx] at hq;cases hq
 | some x =>
  rw [hx] at hq
  cases hq
  have:=fbN_each hb h x (List.mem_of_getElem? hx)
  exact ⟨_,rfl,IsFr.raw _ _ _ this.1 this.2⟩⟩
set_option maxRecDepth 100000 in
theorem fracBytes_w (l:List F3) (h:OkFs l):Good Tryz.prog 28 [.fz 3 (l.map frF)] (I (fbN l:Nat)):=by
 have hb:=fbGo_le h.2 (n:=l.length)
 have hl:=h.1
 have hN:fbGo l.length l=fbN l:=rfl
 refine good_of Tryz.func28 rfl (by kernel_rfl) fun X hO hrd=>?_;rw [Tryz.ntmps28,Tryz.results28];simp only [ast0,List.map_cons,List.map_nil,List.length_cons,List.length_nil,Nat.reduceAdd,Nat.reduceSub,List.replicate_succ,List.replicate_zero,List.cons_append,List.nil_append]
 (repeat (with_reducible first|refine W_seq fun K hK=>?_|refine J_block ?_|refine J_region ?_ |(refine Kont.go (by assumption) ?_)|(simp (config:={ maxSteps:=3000000 }) (disch:=omega) only [go_sem,List.length_map])))
 refine W_loop [3,4,7,8,9,10,11,12,13,14,15,16,17,18,19,20,21,22,23,24,25,26,27,28,29,30,31] (fun x:Nat × Nat=>[(4,.f (I x.1)),(3,.f (I x.2))]) (fun x:Nat × Nat=>[]) (fun x:Nat × Nat=>x.1≤l.length∧fbGo x.2 (l.drop x.1)=fbN l) (fun x:Nat × Nat=>l.length-x.1) ((0,l.length)) (⟨Nat.zero_le _,rfl⟩) (by refine weak_of ?_ ?_<;>simp (disch:=omega) only [go_sem]<;>first|rfl|exact ⟨rfl,rfl⟩|exact Or.inl rfl|exact ⟨Or.inl rfl,Or.inl rfl⟩|trivial|assumption|omega|(symm;assumption)|((repeat' apply And.intro)<;>first|rfl|omega|trivial|exact .inl rfl|exact .inr ⟨rfl,rfl⟩|exact .inr rfl|(right;symm;assumption)|(symm;assumption)|assumption)) ?_
 rintro ⟨i,n⟩ ⟨hi,hn⟩
 have hnb:n≤fbN l:=by rw [←hn];exact fbGo_ge
 simp only at hi
 simp only [go_sem]
 by_cases hlt:i<l.length
 ·have hd:l.drop i=l[i]::l.drop (i+1):=List.drop_eq_getElem_cons hlt
  rw [hd] at hn
  simp only at hn
  unfold fbGo at hn
  by_cases hle:n≤4096
  ·rw [if_pos hle] at hn
   have hok:=h.2 _ (List.getElem_mem hlt)
   unfold OkF at hok
   have hnb2:n+l[i].2.1.size+l[i].2.2.size≤fbN l:=by rw [←hn];exact fbGo_ge
   have hle':(n:Int)≤4096:=by omega
   (repeat (with_reducible first|refine W_seq fun K hK=>?_|refine J_block ?_|refine J_skip ?_|refine J_region ?_ |refine J_drawn mixed (by kernel_rfl) ?_|refine J_c ?_|refine Jc_true ?_|(refine Kont.go (by assumption) ?_)|(simp (config:={ maxSteps:=3000000 }) (disch:=omega) only [go_sem,↓reduceIte,List.length_map,hlt,hle',map_get frF l hlt])))
   refine ⟨(i+1,n+l[i].2.1.size+l[i].2.2.size),⟨by simp only;omega,hn⟩,by simp only;omega,weak_of ?_ ?_⟩<;>(try simp (disch:=omega) only [go_sem])<;>(try first|done|omega|rfl|exact ⟨rfl,rfl⟩|trivial)
  ·rw [if_neg hle] at hn
   have hle':¬(n:Int)≤4096:=by omega
   subst hn
   (repeat (with_reducible first|refine W_seq fun K hK=>?_|refine J_exit ?_|refine J_ret ?_|refine J_region ?_ |refine J_c ?_|refine Jc_false ?_|exact Frz.f _|(refine Kont.go (by assumption) ?_)|(simp (config:={ maxSteps:=3000000 }) (disch:=omega) only [go_sem,↓reduceIte,List.length_map,hlt,hle'])))
 ·have hd:l.drop i=[]:=List.drop_of_length_le (by omega)
  rw [hd] at hn
  simp only at hn
  unfold fbGo at hn
  subst hn
  (repeat (with_reducible first|refine W_seq fun K hK=>?_|refine J_exit ?_|refine J_ret ?_|refine J_region ?_ |refine J_c ?_|refine Jc_false ?_|exact Frz.f _|(refine Kont.go (by assumption) ?_)|(simp (config:={ maxSteps:=3000000 }) (disch:=omega) only [go_sem,↓reduceIte,List.length_map,hlt])))
end Go.Proofs.YthehegidpamldaaGreatDoor
set_option linter.unusedVariables false
set_option linter.unusedSimpArgs false
namespace Go.Proofs.YthehegidpamldaaGreatDoor
open Go Go.RowKit
abbrev VarD:=ByteArray × List ByteArray
abbrev NetD:=List VarD × List (List Int) × List (List F3)
abbrev rawF (l:List F3):FV:=.fz 3 (l.map frF)
def txF (l:List ByteArray):FV:=.fz 1 (l.map St)
def varF (x:VarD):FV:=.agg [St x.1,txF x.2]
def netO (n:NetD):FV:=.agg [.fz 2 (n.1.map varF),.fz 1 (n.2.1.map ints),.fz 1 (n.2.2.map rawF)]
def OkTx (l:List ByteArray):Prop:=l.length≤140737488355328∧∀s∈l,OkS s
def OkV (x:VarD):Prop:=OkS x.1∧OkTx x.2
def OkNet (n:NetD):Prop:=(n.1.length≤140737488355328∧∀x∈n.1,OkV x)∧(n.2.1.length≤140737488355328∧∀l∈n.2.1,OkIs l)∧(n.2.2.length≤140737488355328∧∀r∈n.2.2,OkFs r)
def szN (V:List VarD):List Nat:=V.map fun x=>x.2.length
def rwQ (qs:List Rat) (s j:Nat):List Rat:=(qs.drop (j*s)).take s
def rowQ (Z pa:List Nat) (s:Nat) (qs:List Rat):Int:=if qs.length=cntS (szT Z) pa*s then (if (List.range (cntS (szT Z) pa)).all (fun j=>chancesB (rwQ qs s j))=true then 0 else 9) else 8
def varE (x:VarD):Int:=if 1≤x.2.length∧x.2.length≤4 then namesE x.2 else 2
def paN (P:List (List Int)) (v:Nat):List Nat:=(P.getD v []).map Int.toNat
def varsE (V:List VarD) (i:Nat):Int:=varE (V.getD i (⟨#[]⟩,[]))
def rowsE (V:List VarD) (P:List (List Int)) (M:List (List Rat)) (i:Nat):Int:=rowQ (szN V) (paN P i) (szT (szN V) i) (M.getD i [])
def netE (ge:Int) (V:List VarD) (P:List (List Int)) (M:List (List Rat)):Int :=
 if P.length=V.length∧M.length=V.length then (if ge=0 then (if namesE (V.map Prod.fst)=0 then (if fe (varsE V) V.length=0 then fe (rowsE V P M) V.length else fe (varsE V) V.length) else namesE (V.map Prod.fst)) else ge) else 8
abbrev netV (V:List VarD) (PP RR:List FV):FV:=.agg [.fz 2 (V.map varF),.fz 1 PP,.fz 1 RR]
theorem Frs.piece {k:Nat} {xs:List FV} {l:List Rat} (h:Frs k xs l) (a n:Nat):Frs k ((xs.drop a).take n) ((l.drop a).take n):=⟨by simp [h.len],fun i q hq=>by
 rw [List.getElem?_take] at hq
 split at hq
 ·rename_i hi
  rw [List.getElem?_drop] at hq
  obtain ⟨x,h1,h2⟩:=h.get _ q hq
  exact ⟨x,by rw [List.getElem?_take,if_pos hi,List.getElem?_drop];exact h1,h2⟩
 ·cases hq⟩
theorem szT_get {V:List VarD} {v:Nat} (h:v<V.length):szT (szN V) v=V[v].2.length:=by
 unfold szT szN
 rw [lget_lt _ 0 (by rw [List.length_map];exact h),List.getElem_map]
end Go.Proofs.YthehegidpamldaaGreatDoor
set_option linter.unusedVariables false
set_option linter.unusedSimpArgs false
namespace Go.Proofs.YthehegidpamldaaGreatDoor
open Go Go.RowKit Go.Shelf
def jnRen:Go.Shelf.Ren:=⟨fun|156=>30|165=>74|166=>29|169=>34|240=>73|241=>108|276=>107|277=>138|n=>n,fun|31=>61|9=>9|3=>3|4=>4|0=>0|20=>20|72=>68|76=>71|70=>65|37=>66|75=>70|127=>108|164=>131|5=>5|80=>76|n=>n,fun n=>n⟩
theorem jnLays:Lays.n156 Tryz.prog jnRen where
 mixed:=by kernel_rfl
 f156:=Tryz.func30.trans (congrArg some (by kernel_rfl))
 f165:=Tryz.func74.trans (congrArg some (by kernel_rfl))
 f166:=Tryz.func29.trans (congrArg some (by kernel_rfl))
 f169:=Tryz.func34.trans (congrArg some (by kernel_rfl))
 f240:=Tryz.func73.trans (congrArg some (by kernel_rfl))
 f241:=Tryz.func108.trans (congrArg some (by kernel_rfl))
 f276:=Tryz.func107.trans (congrArg some (by kernel_rfl))
 f277:=Tryz.func138.trans (congrArg some (by kernel_rfl))
 t0:=Tryz.underlying0
 a0:=Tryz.isAgg0
 z0:=Tryz.sizeOf0
 v0:=Tryz.zeroValue0
 t3:=Tryz.underlying3
 a3:=Tryz.isAgg3
 z3:=Tryz.sizeOf3
 v3:=Tryz.zeroValue3
 t4:=Tryz.underlying4
 a4:=Tryz.isAgg4
 z4:=Tryz.sizeOf4
 v4:=Tryz.zeroValue4
 t9:=Tryz.underlying9
 a9:=Tryz.isAgg9
 z9:=Tryz.sizeOf9
 v9:=Tryz.zeroValue9
 t20:=Tryz.underlying20
 a20:=Tryz.isAgg20
 z20:=Tryz.sizeOf20
 v20:=Tryz.zeroValue20
 t31:=Tryz.underlying61
 a31:=Tryz.isAgg61
 z31:=Tryz.sizeOf61
 v31:=Tryz.zeroValue61
 t37:=Tryz.underlying66
 a37:=Tryz.isAgg66
 z37:=Tryz.sizeOf66
 v37:=Tryz.zeroValue66
 t70:=Tryz.underlying65
 a70:=Tryz.isAgg65
 z70:=Tryz.sizeOf65
 v70:=Tryz.zeroValue65
 t72:=Tryz.underlying68
 a72:=Tryz.isAgg68
 z72:=Tryz.sizeOf68
 v72:=Tryz.zeroValue68
 t75:=Tryz.underlying70
 a75:=Tryz.isAgg70
 z75:=Tryz.sizeOf70
 v75:=Tryz.zeroValue70
 t76:=Tryz.underlying71
 a76:=Tryz.isAgg71
 z76:=Tryz.sizeOf71
 v76:=Tryz.zeroValue71
 t127:=Tryz.underlying108
 a127:=Tryz.isAgg108
 z127:=Tryz.sizeOf108
 v127:=Tryz.zeroValue108
 t164:=Tryz.underlying131
 a164:=Tryz.isAgg131
 z164:=Tryz.sizeOf131
 v164:=Tryz.zeroValue131

theorem jnX:Builder.Extra Tryz.prog jnRen where
 sizeBuilder:=by kernel_rfl
 liesBuilder:=by kernel_rfl
 t5:=Tryz.underlying5
 a5:=Tryz.isAgg5
 z5:=Tryz.sizeOf5
 v5:=Tryz.zeroValue5
 infoByte:=by kernel_rfl
 cellsByte:=by kernel_rfl
 sizeByte:=by kernel_rfl
 neB5:=by decide
def joinT (sep:ByteArray):List ByteArray→ByteArray
 | []=>⟨#[]⟩
 | [x]=>x
 | x::l=>x++sep++joinT sep l
theorem joinT_lib {sep:ByteArray}:∀{l:List ByteArray},(⟨(Lib.join (l.map (·.data.toList)) sep.data.toList).toArray⟩:ByteArray)=joinT sep l:=by
 intro l
 induction l with
 | nil=>rfl
 | cons x l ih =>
  cases l with
  | nil=>simp [joinT,Lib.join]
  | cons y l =>
   show _=x++sep++joinT sep (y::l)
   rw [←ih]
   apply ByteArray.ext
   simp [Lib.join]
theorem flatF_St {l:List ByteArray}:flatF (l.map St)=l.map St:=by
 induction l with
 | nil=>rfl
 | cons y l ih=>show St y::flatF (l.map St)=_;rw [ih];rfl
theorem join_w (l:List ByteArray) (sep:ByteArray) (hl:l.length≤140737488355328) (hm:(joinT sep l).size≤140737488355328):Good Tryz.prog 30 [txF l,St sep] (St (joinT sep l)):=by
 refine ⟨by kernel_rfl,fun w G ys _ hG hys=>?_⟩
 obtain ⟨h2,hr⟩:=hys
 obtain ⟨p,q,rfl⟩:=arr2 h2.symm
 have h0:RepF w G (.fz 1 (l.map St)) p:=hr 0 _ rfl
 have h1:RepF w G (St sep) q:=hr 1 _ rfl
 cases h1
 have hsz:(Lib.join (l.map (·.data.toList)) sep.data.toList).length≤140737488355328:=by
  have:=congrArg ByteArray.size (joinT_lib (sep:=sep) (l:=l))
  have e:(⟨(Lib.join (l.map (·.data.toList)) sep.data.toList).toArray⟩:ByteArray).size=(Lib.join (l.map (·.data.toList)) sep.data.toList).length:=by simp [ByteArray.size]
  omega
 generalize he:l.map St=es at h0
 cases h0 with
 | fz0 _ ad cap hm =>
  have:l=[]:=List.map_eq_nil_iff.1 he
  subst this
  refine (Any.strings_Join_none jnLays jnX ad cap sep w).mono ?_
  rintro e w' ⟨rfl,rfl⟩
  exact ⟨_,rfl,Beyond.refl _ _,.v _⟩
 | fz _ _ b off cap hF hn hmx hu g hg hc =>
  subst he
  have hll:(l.map St).length=l.length:=List.length_map ..
  rw [hll] at hn ⊢
  refine (Any.strings_Join jnLays jnX b off cap l sep w (fun j x hx=>?_) (hG b hF) hl hn hsz).mono ?_
  ·have hf:(flatF (l.map St))[j]?=some (St x):=by
    rw [flatF_St,List.getElem?_map,hx];rfl
   rw [hg j _ hf]
   have:=hc j _ hf
   generalize g j=z at this
   cases this
   rfl
  ·rintro e w' ⟨rfl,hb⟩
   exact ⟨_,rfl,Below.beyond hb,by rw [joinT_lib];exact .v _⟩
end Go.Proofs.YthehegidpamldaaGreatDoor
set_option linter.unusedVariables false
set_option linter.unusedSimpArgs false
namespace Go.Proofs.YthehegidpamldaaGreatDoor
open Go Go.RowKit
abbrev oNt (V P R:List FV):Option AO:=some ⟨26,3,[.f (.agg [.fz 2 V,.fz 1 P,.fz 1 R])]⟩
theorem szN_take {V:List VarD} {x:Nat} (hx:x<V.length):Ns (szN (V.take x))++[I (V[x].2.length:Nat)]=Ns (szN (V.take (x+1))):=by
 rw [Ns_snoc,List.take_add_one,List.getElem?_eq_getElem hx]
 unfold szN
 rw [List.map_append];rfl
theorem szN_len {V:List VarD}:(szN V).length=V.length:=by unfold szN;rw [List.length_map]
set_option maxRecDepth 100000 in
set_option maxHeartbeats 4000000 in
theorem sizes_w (V:List VarD) (P R:List FV) (hV:V.length≤1000000):Good Tryz.prog 16 [.agg [.fz 2 (V.map varF),.fz 1 P,.fz 1 R]] (.fz 1 (Ns (szN V))):=by
 refine good_of Tryz.func16 rfl (by kernel_rfl) fun X hO hrd=>?_;rw [Tryz.ntmps16,Tryz.results16];simp only [ast0,List.map_cons,List.map_nil,List.length_cons,List.length_nil,Nat.reduceAdd,Nat.reduceSub,List.replicate_succ,List.replicate_zero,List.cons_append,List.nil_append]
 (repeat (with_reducible first|refine W_seq fun K hK=>?_|refine J_block ?_|refine J_region ?_ |(refine Kont.go (by assumption) ?_)|(simp (config:={ maxSteps:=3000000 }) (disch:=omega) only [go_sem,↓reduceIte,Nat.reduceAdd,List.length_map])))
 refine J_reserve ?_
 refine W_loop [3,5,9,10,11,12,13,14,15,16,17,18,19] (fun x:Nat=>[(3,sl 1 1 (Ns (szN (V.take x)))),(9,.f (I x))]) (fun x:Nat=>[oNt (V.map varF) P R,ob 3 1 (Ns (szN (V.take x)))]) (fun x:Nat=>x≤V.length) (fun x:Nat=>V.length-x) (0) (Nat.zero_le _) (by refine weak_of ?_ ?_<;>simp (disch:=omega) only [go_sem,Nat.reduceAdd]<;>first|rfl|exact ⟨rfl,rfl⟩|exact Or.inl rfl|exact ⟨Or.inl rfl,Or.inl rfl⟩|trivial|assumption|omega|(symm;assumption)|((repeat' apply And.intro)<;>first|rfl|omega|trivial|exact .inl rfl|exact .inr ⟨rfl,rfl⟩|exact .inr rfl|(right;symm;assumption)|(symm;assumption)|assumption)) ?_
 rintro x hx
 simp only [go_sem]
 (repeat (with_reducible first|refine W_seq fun K hK=>?_|refine J_region ?_ |refine J_c ?_|(refine Kont.go (by assumption) ?_)|(simp (config:={ maxSteps:=3000000 }) (disch:=omega) only [go_sem])))
 refine Jc_if (fun hxl=>?_) (fun hxl=>?_)<;>try simp only [decide_eq_true_eq,decide_eq_false_iff_not] at hxl
 ·have gx:=map_get varF V hxl
  have hs:=szN_take hxl
  have hl:(Ns (szN (V.take x))).length=x:=by rw [Ns_len,szN_len,List.length_take];omega
  have hb:((Ns (szN (V.take x))).length+1)*8≤140737488355328:=by omega
  have hvf:varF V[x]=.agg [St V[x].1,.fz 1 (V[x].2.map St)]:=rfl
  rw [hvf] at gx
  (repeat (first|(with_reducible first|refine W_seq fun K hK=>?_|refine J_block ?_|refine J_skip ?_|refine J_region ?_ |refine aApp_sl ?_|(refine Kont.go (by assumption) ?_)|(simp (config:={ maxSteps:=3000000 }) (disch:=omega) only [go_sem,Nat.reduceEqDiff,↓reduceIte,Nat.reduceAdd,Nat.reduceLeDiff,gx,List.length_map,hs,hb]))|refine And.intro (by omega) ?_))
  refine ⟨x+1,by omega,by omega,weak_of ?_ ?_⟩<;>(try simp (disch:=omega) only [go_sem,Nat.reduceAdd])<;>(try first|done|omega|rfl|exact ⟨rfl,rfl⟩|trivial)
 ·have he:x=V.length:=by omega
  subst he
  rw [List.take_length]
  (repeat (with_reducible first|refine W_seq fun K hK=>?_|refine J_exit ?_|refine J_ret ?_|refine J_region ?_ |(refine Kont.go (by assumption) ?_)|(simp (config:={ maxSteps:=3000000 }) (disch:=omega) only [go_sem,↓reduceIte])))
  exact Frz.sl rfl
set_option maxRecDepth 100000 in
set_option maxHeartbeats 4000000 in
theorem rsizes_w (V:List VarD) (P R:List FV) (hV:V.length≤1000000):Good Tryz.prog 17 [.agg [.fz 2 (V.map varF),.fz 1 P,.fz 1 R]] (.fz 1 (Ns (szN V))):=by
 refine good_of Tryz.func17 rfl (by kernel_rfl) fun X hO hrd=>?_;rw [Tryz.ntmps17,Tryz.results17];simp only [ast0,List.map_cons,List.map_nil,List.length_cons,List.length_nil,Nat.reduceAdd,Nat.reduceSub,List.replicate_succ,List.replicate_zero,List.cons_append,List.nil_append]
 (repeat (with_reducible first|refine W_seq fun K hK=>?_|refine J_block ?_|refine J_region ?_ |(refine Kont.go (by assumption) ?_)|(simp (config:={ maxSteps:=3000000 }) (disch:=omega) only [go_sem,Nat.reduceAdd])))
 refine J_reserve ?_
 refine W_loop [3,4,5,6,7,8,9,10,11,12,13,14,15,16,17,18,19,20,21] (fun x:Nat=>[(3,sl 1 1 (Ns (szN (V.take x)))),(4,.f (I x))]) (fun x:Nat=>[oNt (V.map varF) P R,ob 3 1 (Ns (szN (V.take x)))]) (fun x:Nat=>x≤V.length) (fun x:Nat=>V.length-x) (0) (Nat.zero_le _) (by refine weak_of ?_ ?_<;>simp (disch:=omega) only [go_sem,Nat.reduceAdd]<;>first|rfl|exact ⟨rfl,rfl⟩|exact Or.inl rfl|exact ⟨Or.inl rfl,Or.inl rfl⟩|trivial|assumption|omega|(symm;assumption)|((repeat' apply And.intro)<;>first|rfl|omega|trivial|exact .inl rfl|exact .inr ⟨rfl,rfl⟩|exact .inr rfl|(right;symm;assumption)|(symm;assumption)|assumption)) ?_
 rintro x hx
 simp only [go_sem]
 (repeat (with_reducible first|refine W_seq fun K hK=>?_|refine J_region ?_ |refine J_c ?_|(refine Kont.go (by assumption) ?_)|(simp (config:={ maxSteps:=3000000 }) (disch:=omega) only [go_sem,↓reduceIte])))
 refine Jc_if (fun hxl=>?_) (fun hxl=>?_)<;>try simp only [decide_eq_true_eq,decide_eq_false_iff_not] at hxl
 ·have gx:=map_get varF V hxl
  have hs:=szN_take hxl
  have hl:(Ns (szN (V.take x))).length=x:=by rw [Ns_len,szN_len,List.length_take];omega
  have hb:((Ns (szN (V.take x))).length+1)*8≤140737488355328:=by omega
  have hvf:varF V[x]=.agg [St V[x].1,.fz 1 (V[x].2.map St)]:=rfl
  rw [hvf] at gx
  (repeat (first|(with_reducible first|refine W_seq fun K hK=>?_|refine J_block ?_|refine J_skip ?_|refine J_region ?_ |refine aApp_sl ?_|(refine Kont.go (by assumption) ?_)|(simp (config:={ maxSteps:=3000000 }) (disch:=omega) only [go_sem,Nat.reduceEqDiff,↓reduceIte,Nat.reduceAdd,Nat.reduceLeDiff,gx,List.length_map,hs,hb]))|refine And.intro (by omega) ?_))
  refine ⟨x+1,by omega,by omega,weak_of ?_ ?_⟩<;>(try simp (disch:=omega) only [go_sem,Nat.reduceAdd])<;>(try first|done|omega|rfl|exact ⟨rfl,rfl⟩|trivial)
 ·have he:x=V.length:=by omega
  subst he
  rw [List.take_length]
  (repeat (with_reducible first|refine W_seq fun K hK=>?_|refine J_exit ?_|refine J_ret ?_|refine J_region ?_ |(refine Kont.go (by assumption) ?_)|(simp (config:={ maxSteps:=3000000 }) (disch:=omega) only [go_sem,↓reduceIte])))
  exact Frz.sl rfl
end Go.Proofs.YthehegidpamldaaGreatDoor
set_option linter.unusedVariables false
set_option linter.unusedSimpArgs false
namespace Go.Proofs.YthehegidpamldaaGreatDoor
section
variable {Z l la lb m : List Nat} {qs qa qb : List Rat} {u v : Nat} {op : Rat → Rat → Rat} {a : Nat → Nat} {G F : (Nat → Nat) → Rat}
end
end Go.Proofs.YthehegidpamldaaGreatDoor
