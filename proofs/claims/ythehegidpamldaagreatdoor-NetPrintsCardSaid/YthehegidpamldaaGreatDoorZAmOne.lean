/- Joined: AmA AmB AmC AmD AmE. Conditions: as said at each part. -/
import Derived.Lib.TrailingZeros
import Derived.Test.YthehegidpamldaaGreatDoorZNatTwo
import Derived.Test.YthehegidpamldaaGreatDoorZNatOne
set_option linter.unusedVariables false
set_option linter.unusedSimpArgs false
namespace Go.Proofs.YthehegidpamldaaGreatDoor
section
open Go Go.RowKit

inductive FV where
  | v (x : Value)
  | agg (cs : List FV)
  | tup (cs : List FV)
  | fz (sz : Nat) (es : List FV)
  | fp (x : FV) (j : Nat)
  | fn (f : FuncId) (first captured : List FV)
  deriving Inhabited
inductive AV where
  | any
  | one
  | f (x : FV)
  | agg (cs : List AV)
  | tup (cs : List AV)
  | own (r sz off k : Nat)
  | ptr (r sz i j : Nat)
  | fn (f : FuncId) (first captured : List AV)
  deriving Inhabited

def FV.cells:FV→List FV
 | .agg cs=>cs
 | x=>[x]
def flatF (es:List FV):List FV:=es.flatMap FV.cells
def FV.oc:FV→Bool
 | .v (.agg _)|.v (.tuple _)|.agg _|.tup _=>false
 | _=>true
def AV.oc:AV→Bool
 | .f x=>x.oc
 | .agg _|.tup _|.any=>false
 | _=>true
def FV.st:FV→Bool
 | .agg cs=>cs.all FV.oc
 | x=>x.oc
def AV.st:AV→Bool
 | .agg cs=>cs.all AV.oc
 | .f x=>x.st
 | x=>x.oc
def UniF (sz:Nat) (es:List FV):Prop:=∀e∈es,e.cells.length=sz∧e.st=true
def AV.cells:AV→List AV
 | .agg cs=>cs
 | .f x=>x.cells.map .f
 | x=>[x]
def flat (es:List AV):List AV:=es.flatMap AV.cells
def Uni (sz:Nat) (es:List AV):Prop:=∀e∈es,e.cells.length=sz∧e.st=true

theorem cells_f (x:FV):(AV.f x).cells=x.cells.map .f:=rfl
theorem cells_f_len (x:FV):(AV.f x).cells.length=x.cells.length:=by rw [cells_f,List.length_map]
theorem flat_f (es:List FV):flat (es.map .f)=(flatF es).map .f:=by
 induction es with
 | nil=>rfl
 | cons e es ih =>
  show (AV.f e).cells++flat (es.map .f)=(e.cells++flatF es).map .f
  rw [ih,List.map_append];rfl
theorem uni_f {sz:Nat} {es:List FV}:Uni sz (es.map .f)↔UniF sz es:=by
 constructor
 ·intro h e he;rw [←cells_f_len];exact h (.f e) (List.mem_map.2 ⟨e,he,rfl⟩)
 ·intro h e he
  obtain ⟨x,hx,rfl⟩:=List.mem_map.1 he
  rw [cells_f_len];exact h x hx
theorem flat_cons (e:AV) (es:List AV):flat (e::es)=e.cells++flat es:=rfl
theorem flat_append (a b:List AV):flat (a++b)=flat a++flat b:=by unfold flat;rw [List.flatMap_append]
theorem Uni.nil (sz:Nat):Uni sz []:=fun e h=>by cases h
theorem Uni.cons {sz:Nat} {e:AV} {es:List AV} (h:e.cells.length=sz∧e.st=true) (h':Uni sz es):Uni sz (e::es):=fun x hx=>by
 rcases List.mem_cons.1 hx with rfl|hx
 ·exact h
 ·exact h' x hx
theorem Uni.append {sz:Nat} {a b:List AV} (h:Uni sz a) (h':Uni sz b):Uni sz (a++b):=fun x hx=>by
 rcases List.mem_append.1 hx with hx|hx
 ·exact h x hx
 ·exact h' x hx
theorem Uni.take {sz:Nat} {a:List AV} (h:Uni sz a) (k:Nat):Uni sz (a.take k):=fun x hx=>h x (List.mem_of_mem_take hx)
theorem Uni.drop {sz:Nat} {a:List AV} (h:Uni sz a) (k:Nat):Uni sz (a.drop k):=fun x hx=>h x (List.mem_of_mem_drop hx)
theorem Uni.set {sz:Nat} {a:List AV} (h:Uni sz a) (i:Nat) {e:AV} (he:e.cells.length=sz∧e.st=true):Uni sz (a.set i e):=fun x hx=>by
 rcases List.mem_or_eq_of_mem_set hx with hx|rfl
 ·exact h x hx
 ·exact he
theorem Uni.map {α:Type} {sz:Nat} {l:List α} {f:α→AV} (h:∀x∈l,(f x).cells.length=sz∧(f x).st=true):Uni sz (l.map f):=fun x hx=>by
 obtain ⟨y,hy,rfl⟩:=List.mem_map.1 hx
 exact h y hy
theorem flat_len {sz:Nat} {es:List AV} (h:Uni sz es):(flat es).length=es.length*sz:=by
 induction es with
 | nil=>simp [flat]
 | cons e es ih=>rw [flat_cons,List.length_append,ih fun x hx=>h x (by simp [hx]),(h e (by simp)).1,List.length_cons,Nat.add_mul];omega
theorem flat_get {sz:Nat} {es:List AV} (h:Uni sz es) {i j:Nat} (hj:j<sz):(flat es)[i*sz+j]?=(es[i]?).bind (·.cells[j]?):=by
 induction es generalizing i with
 | nil=>simp [flat]
 | cons e es ih =>
  have he:=(h e (by simp)).1
  rw [flat_cons]
  cases i with
  | zero=>rw [List.getElem?_append_left (by rw [he];omega)];simp
  | succ i =>
   rw [List.getElem?_append_right (by rw [he,Nat.add_mul];omega),he,show (i+1)*sz+j-sz=i*sz+j by rw [Nat.add_mul];omega,ih fun x hx=>h x (by simp [hx])]
   simp
theorem flat_take {sz:Nat} {es:List AV} (h:Uni sz es) (k:Nat):flat (es.take k)=(flat es).take (k*sz):=by
 induction es generalizing k with
 | nil=>simp [flat]
 | cons e es ih =>
  have he:=(h e (by simp)).1
  cases k with
  | zero=>simp [flat]
  | succ k=>rw [List.take_succ_cons,flat_cons,flat_cons,ih fun x hx=>h x (by simp [hx]),List.take_append,he,List.take_of_length_le (l:=e.cells) (by rw [he,Nat.add_mul];omega),show (k+1)*sz-sz=k*sz by rw [Nat.add_mul];omega]
theorem flat_drop {sz:Nat} {es:List AV} (h:Uni sz es) (k:Nat):flat (es.drop k)=(flat es).drop (k*sz):=by
 induction es generalizing k with
 | nil=>simp [flat]
 | cons e es ih =>
  have he:=(h e (by simp)).1
  cases k with
  | zero=>simp
  | succ k=>rw [List.drop_succ_cons,flat_cons,ih fun x hx=>h x (by simp [hx]),List.drop_append,he,List.drop_of_length_le (l:=e.cells) (by rw [he,Nat.add_mul];omega),show (k+1)*sz-sz=k*sz by rw [Nat.add_mul];omega];rfl
theorem flat_set {sz:Nat} {es:List AV} (h:Uni sz es) {i:Nat} {e:AV} (he:e.cells.length=sz) (hi:i<es.length) :
  flat (es.set i e)=(flat es).take (i*sz)++(e.cells++(flat es).drop (i*sz+sz)):=by
 rw [List.set_eq_take_append_cons_drop,if_pos hi,flat_append,flat_cons,flat_take h,flat_drop h,Nat.add_mul,Nat.one_mul]

inductive RepF (w : World) (F : Nat → Prop) : FV → Value → Prop
  | v (x : Value) : RepF w F (.v x) x
  | agg (cs : List FV) (vs : Array Value) (hl : cs.length = vs.size) (hc : ∀ (j : Nat) c, cs[j]? = some c → RepF w F c (vs.getD j undef)) : RepF w F (.agg cs) (.agg vs)
  | tup (cs : List FV) (vs : Array Value) (hl : cs.length = vs.size) (hc : ∀ (j : Nat) c, cs[j]? = some c → RepF w F c (vs.getD j undef)) : RepF w F (.tup cs) (.tuple vs)
  | fz0 (sz : Nat) (a : Option Addr) (cap : Nat) (hm : cap ≤ maxLen) : RepF w F (.fz sz []) (.slice a 0 cap)
  | fz (sz : Nat) (es : List FV) (b off cap : Nat) (hF : F b) (hn : es.length ≤ cap) (hm : cap ≤ maxLen) (hu : UniF sz es) (g : Nat → Value)
      (hg : ∀ (j : Nat) c, (flatF es)[j]? = some c → w.cell? ⟨b, off + j, none⟩ = some (g j)) (hc : ∀ (j : Nat) c, (flatF es)[j]? = some c → RepF w F c (g j)) :
      RepF w F (.fz sz es) (.slice (some ⟨b, off, none⟩) es.length cap)
  | fp (x : FV) (i b off : Nat) (hF : F b) (g : Nat → Value) (hg : ∀ (j : Nat) c, x.cells[j]? = some c → w.cell? ⟨b, off + j, none⟩ = some (g j)) (hc : ∀ (j : Nat) c, x.cells[j]? = some c → RepF w F c (g j)) :
      RepF w F (.fp x i) (.pointer (some ⟨b, off + i, none⟩))
  | fn (f : FuncId) (first captured : List FV) (vs us : Array Value) (hl : first.length = vs.size) (hc : ∀ (j : Nat) c, first[j]? = some c → RepF w F c (vs.getD j undef))
      (hl' : captured.length = us.size) (hc' : ∀ (j : Nat) c, captured[j]? = some c → RepF w F c (us.getD j undef)) : RepF w F (.fn f first captured) (.func (.func f) vs us)
inductive Rep (w : World) (F : Nat → Prop) (loc : Nat → Nat × Nat) (N : Nat) : AV → Value → Prop
  | any (y : Value) : Rep w F loc N .any y
  | one (y : Value) (h : y.oneCell' = true) : Rep w F loc N .one y
  | f (x : FV) (y : Value) (h : RepF w F x y) : Rep w F loc N (.f x) y
  | agg (cs : List AV) (vs : Array Value) (hl : cs.length = vs.size) (hc : ∀ (j : Nat) c, cs[j]? = some c → Rep w F loc N c (vs.getD j undef)) : Rep w F loc N (.agg cs) (.agg vs)
  | tup (cs : List AV) (vs : Array Value) (hl : cs.length = vs.size) (hc : ∀ (j : Nat) c, cs[j]? = some c → Rep w F loc N c (vs.getD j undef)) : Rep w F loc N (.tup cs) (.tuple vs)
  | own (r sz off k cap : Nat) (hr : r < N) (hk : k ≤ cap) (hm : cap ≤ maxLen) (hs : (loc r).2 = (off + cap) * sz) :
      Rep w F loc N (.own r sz off k) (.slice (some ⟨(loc r).1, off * sz, none⟩) k cap)
  | ptr (r sz i j : Nat) (hr : r < N) : Rep w F loc N (.ptr r sz i j) (.pointer (some ⟨(loc r).1, i * sz + j, none⟩))
  | fn (f : FuncId) (first captured : List AV) (vs us : Array Value) (hl : first.length = vs.size) (hc : ∀ (j : Nat) c, first[j]? = some c → Rep w F loc N c (vs.getD j undef))
      (hl' : captured.length = us.size) (hc' : ∀ (j : Nat) c, captured[j]? = some c → Rep w F loc N c (us.getD j undef)) : Rep w F loc N (.fn f first captured) (.func (.func f) vs us)

section
variable {w w' : World} {F F' : Nat → Prop} {loc loc' : Nat → Nat × Nat} {N N' : Nat}
theorem RepF.mono {x:FV} {y:Value} (h:RepF w F x y) (hF:∀b,F b→F' b) (hc:∀b o u,F b→w.cell? ⟨b,o,none⟩=some u→w'.cell? ⟨b,o,none⟩=some u):RepF w' F' x y:=by
 induction h with
 | v x=>exact .v x
 | agg cs vs hlen _ ih=>exact .agg cs vs hlen fun j c hj=>ih j c hj
 | tup cs vs hlen _ ih=>exact .tup cs vs hlen fun j c hj=>ih j c hj
 | fz0 sz a cap hm=>exact .fz0 sz a cap hm
 | fz sz es b off cap hb hn hm hu g hg _ ih=>exact .fz sz es b off cap (hF b hb) hn hm hu g (fun j c hj=>hc _ _ _ hb (hg j c hj)) fun j c hj=>ih j c hj
 | fp x i b off hb g hg _ ih=>exact .fp x i b off (hF b hb) g (fun j c hj=>hc _ _ _ hb (hg j c hj)) fun j c hj=>ih j c hj
 | fn f a b vs us h1 _ h2 _ ih1 ih2=>exact .fn f a b vs us h1 (fun j c hj=>ih1 j c hj) h2 fun j c hj=>ih2 j c hj
theorem Rep.mono {x:AV} {y:Value} (h:Rep w F loc N x y) (hF:∀b,F b→F' b) (hc:∀b o u,F b→w.cell? ⟨b,o,none⟩=some u→w'.cell? ⟨b,o,none⟩=some u)
  (hN:N≤N') (hl:∀r,r<N→loc' r=loc r):Rep w' F' loc' N' x y:=by
 induction h with
 | any y=>exact .any y
 | one y h=>exact .one y h
 | f x y h=>exact .f x y (h.mono hF hc)
 | agg cs vs hlen _ ih=>exact .agg cs vs hlen fun j c hj=>ih j c hj
 | tup cs vs hlen _ ih=>exact .tup cs vs hlen fun j c hj=>ih j c hj
 | own r sz off k cap hr hk hm h=>rw [←hl r hr];exact .own r sz off k cap (by omega) hk hm (by rw [hl r hr];exact h)
 | ptr r sz i j hr=>rw [←hl r hr];exact .ptr r sz i j (by omega)
 | fn f a b vs us h1 _ h2 _ ih1 ih2=>exact .fn f a b vs us h1 (fun j c hj=>ih1 j c hj) h2 fun j c hj=>ih2 j c hj

def RepFL (w:World) (F:Nat→Prop) (xs:List FV) (ys:Array Value):Prop :=
 xs.length=ys.size∧∀(j:Nat) x,xs[j]?=some x→RepF w F x (ys.getD j undef)
def FV.ofV:Value→FV
 | .agg vs=>.agg (vs.toList.map .v)
 | x=>.v x
theorem RepF.ofV (x:Value):RepF w F (.ofV x) x:=by
 cases x with
 | agg vs =>
  refine .agg _ _ (by simp) fun j c hj=>?_
  have hj':vs[j]?.map FV.v=some c:=by simpa using hj
  cases hv:vs[j]? with
  | none=>rw [hv] at hj';cases hj'
  | some u =>
   rw [hv] at hj'
   cases hj'
   have:vs.getD j undef=u:=by simp [Array.getD_eq_getD_getElem?,hv]
   rw [this];exact .v u
 | _=>exact .v _
theorem RepF.oc {x:FV} {y:Value} (h:RepF w F x y) (hx:x.oc=true):y.oneCell'=true:=by
 cases h with
 | v=>cases y<;>first|rfl|simp [FV.oc] at hx
 | _=>first|rfl|simp [FV.oc] at hx
theorem Rep.oc {x:AV} {y:Value} (h:Rep w F loc N x y) (hx:x.oc=true):y.oneCell'=true:=by
 cases h with
 | f x y h=>exact h.oc hx
 | one y h=>exact h
 | _=>first|rfl|simp [AV.oc] at hx
theorem oneCell_cells {y:Value} (h:y.oneCell'=true):y.cells=#[y]:=by
 cases y<;>first|rfl|simp [Value.oneCell'] at h
theorem getD_lt {vs:Array Value} {j:Nat} (h:j<vs.size):vs.getD j undef=vs[j]∧vs[j]?=some vs[j]:=by simp [Array.getD_eq_getD_getElem?,h]
theorem glt {α:Type} {l:List α} {j:Nat} {c:α} (h:l[j]?=some c):j<l.length:=by
 rcases Nat.lt_or_ge j l.length with h'|h'
 ·exact h'
 ·rw [List.getElem?_eq_none h'] at h;cases h
theorem RepF.cells {x:FV} {y:Value} (h:RepF w F x y) (hx:x.st=true) :
  x.cells.length=y.cells.size∧∀(j:Nat) c,x.cells[j]?=some c→∃u,y.cells[j]?=some u∧RepF w F c u∧u.oneCell'=true:=by
 by_cases ha:∃cs,x=.agg cs
 ·obtain ⟨cs,rfl⟩:=ha
  cases h with
  | agg _ vs hl hc =>
   refine ⟨hl,fun j c hj=>?_⟩
   obtain ⟨e1,e2⟩:=getD_lt (vs:=vs) (j:=j) (by have:=glt hj;rw [←hl];exact this)
   have hr:=hc j c hj
   rw [e1] at hr
   exact ⟨_,e2,hr,hr.oc (List.all_eq_true.1 (show cs.all FV.oc=true from hx) c (List.mem_of_getElem? hj))⟩
 ·have hx':x.oc=true:=by cases x<;>first|exact hx|exact absurd ⟨_,rfl⟩ ha
  have e:x.cells=[x]:=by cases x<;>first|rfl|exact absurd ⟨_,rfl⟩ ha
  rw [e,oneCell_cells (h.oc hx')]
  refine ⟨rfl,fun j c hj=>?_⟩
  cases j with
  | zero=>simp at hj;subst hj;exact ⟨y,rfl,h,h.oc hx'⟩
  | succ j=>simp at hj
theorem Rep.cells {x:AV} {y:Value} (h:Rep w F loc N x y) (hx:x.st=true) :
  x.cells.length=y.cells.size∧∀(j:Nat) c,x.cells[j]?=some c→∃u,y.cells[j]?=some u∧Rep w F loc N c u∧u.oneCell'=true:=by
 cases h with
 | f x y h =>
  obtain ⟨h1,h2⟩:=h.cells hx
  refine ⟨by rw [cells_f_len];exact h1,fun j c hj=>?_⟩
  rw [cells_f,List.getElem?_map] at hj
  cases hc:x.cells[j]? with
  | none=>rw [hc] at hj;cases hj
  | some c' =>
   rw [hc] at hj
   cases hj
   obtain ⟨u,a1,a2,a3⟩:=h2 j c' hc
   exact ⟨u,a1,.f _ _ a2,a3⟩
 | agg cs vs hl hc =>
  refine ⟨hl,fun j c hj=>?_⟩
  obtain ⟨e1,e2⟩:=getD_lt (vs:=vs) (j:=j) (by have:=glt hj;rw [←hl];exact this)
  have hr:=hc j c hj
  rw [e1] at hr
  exact ⟨_,e2,hr,hr.oc (List.all_eq_true.1 (show cs.all AV.oc=true from hx) c (List.mem_of_getElem? hj))⟩
 | one y h =>
  rw [oneCell_cells h]
  refine ⟨rfl,fun j c hj=>?_⟩
  cases j with
  | zero=>cases hj;exact ⟨y,rfl,.one y h,h⟩
  | succ j=>cases hj
 | own r sz off k cap hr hk hm hs =>
  refine ⟨rfl,fun j c hj=>?_⟩
  cases j with
  | zero=>cases hj;exact ⟨_,rfl,.own r sz off k cap hr hk hm hs,rfl⟩
  | succ j=>cases hj
 | ptr r sz i j' hr =>
  refine ⟨rfl,fun j c hj=>?_⟩
  cases j with
  | zero=>cases hj;exact ⟨_,rfl,.ptr r sz i j' hr,rfl⟩
  | succ j=>cases hj
 | fn f a b vs us h1 h2 h3 h4 =>
  refine ⟨rfl,fun j c hj=>?_⟩
  cases j with
  | zero=>cases hj;exact ⟨_,rfl,.fn f a b vs us h1 h2 h3 h4,rfl⟩
  | succ j=>cases hj
 | _=>cases hx
end
end

section
open Go Go.RowKit

structure AO where
  e : TypeId
  sz : Nat
  es : List AV
structure AS where
  t : List AV
  H : List (Option AO)
structure Cx where
  w0 : World
  G : Nat → Prop
  O : Nat → Prop
  rd : Option Nat
  kp : Nat → Bool
  tm : Array Value
  hold : Nat → Option Obj

def tabs:List (Nat × List Nat):=[]
def TabW (w:World):Prop:=∀t∈tabs,t.2≠[]∧∀(j:Nat) v,t.2[j]?=some v→w.cell? ⟨t.1,j,none⟩=some (.int .u8 (v:Nat))
structure Beyond (O : Nat → Prop) (w w' : World) : Prop where
  os : w'.os = w.os
  tape : w'.tape = w.tape
  output : w'.output = w.output
  size : w.heap.size ≤ w'.heap.size
  block : ∀ k, k < w.heap.size → ¬ O k → w'.heap[k]? = w.heap[k]?
theorem Beyond.refl (O:Nat→Prop) (w:World):Beyond O w w:=⟨rfl,rfl,rfl,Nat.le_refl _,fun _ _ _=>rfl⟩
theorem Beyond.trans {O:Nat→Prop} {a b c:World} (h:Beyond O a b) (k:Beyond (fun i=>O i∨a.heap.size≤i) b c):Beyond O a c :=
 ⟨k.os.trans h.os,k.tape.trans h.tape,k.output.trans h.output,Nat.le_trans h.size k.size,fun i hi ho=>(k.block i (Nat.lt_of_lt_of_le hi h.size) (by rintro (h'|h');exact ho h';omega)).trans (h.block i hi ho)⟩
theorem Beyond.below {w w':World} (h:Beyond (fun _=>False) w w'):Below w.heap.size w w':=⟨h.os,h.tape,h.output,h.size,fun k hk=>h.block k hk id⟩
theorem Below.beyond {w w':World} (h:Below w.heap.size w w'):Beyond (fun _=>False) w w':=⟨h.os,h.tape,h.output,h.size,fun k hk _=>h.block k hk⟩

def ObjAt (w:World) (F:Nat→Prop) (loc:Nat→Nat × Nat) (N r:Nat) (o:AO):Prop :=
 Uni o.sz o.es∧∃vs:Array Value,w.heap[(loc r).1]?=some (.cells vs o.e (0,0))∧vs.size=(loc r).2∧∀(j:Nat) c,(flat o.es)[j]?=some c→∃u,vs[j]?=some u∧Rep w F loc N c u

def DefOk (B:Nat) (F:Nat→Prop) (w:World) (l:List Deferred):Prop:=(∀d∈l,∃D,d={ target:=.collected D,args:=#[] }∧F D∧B≤D∧w.heap[D]?=some (.deferred (some [])))∧l.Pairwise (·≠ ·)
theorem DefOk.mono {B:Nat} {F F':Nat→Prop} {w w':World} {l:List Deferred} (h:DefOk B F w l) (hF:∀b,F b→F' b) (hw:∀b,F b→w'.heap[b]?=w.heap[b]?):DefOk B F' w' l:=by
 refine ⟨fun d hd=>?_,h.2⟩
 obtain ⟨D,e,hf,hB,hD⟩:=h.1 d hd
 exact ⟨D,e,hF D hf,hB,by rw [hw D hf];exact hD⟩
theorem DefOk.nil {B:Nat} {F:Nat→Prop} {w:World}:DefOk B F w []:=⟨fun d hd=>absurd hd (by simp),List.Pairwise.nil⟩
def TabX (X:Cx):Prop:=TabW X.w0∧∀t∈tabs,¬X.O t.1
def HoldX (X:Cx) (F:Nat→Prop) (w:World):Prop:=∀b o,X.hold b=some o→(∃es c,o=.map es c)∧F b∧w.heap[b]?=some o
theorem HoldX.mono {X:Cx} {F F':Nat→Prop} {w w':World} (h:HoldX X F w) (hF:∀b,F b→F' b) (hw:∀b o,F b→w.heap[b]?=some o→(∃es c,o=.map es c)→w'.heap[b]?=w.heap[b]?):HoldX X F' w':=fun b o hb=>by
 obtain ⟨h1,h2,h3⟩:=h b o hb
 exact ⟨h1,hF b h2,(hw b o h2 h3 h1).trans h3⟩
def DfOk (X:Cx) (F:Nat→Prop) (w:World) (a:Act):Prop:=DefOk X.w0.heap.size F w a.defers∧(∀j,X.kp j=true→a.tmps.getD j undef=X.tm.getD j undef)∧(X.rd.isSome=true→a.defers=[])∧TabX X∧HoldX X F w
theorem DfOk.mono {X:Cx} {F F':Nat→Prop} {w w':World} {a:Act} (h:DfOk X F w a) (hF:∀b,F b→F' b) (hw:∀b,F b→w'.heap[b]?=w.heap[b]?):DfOk X F' w' a:=⟨h.1.mono hF hw,h.2.1,h.2.2.1,h.2.2.2.1,h.2.2.2.2.mono hF fun b _ hb _ _=>hw b hb⟩
structure RelF (X : Cx) (F : Nat → Prop) (loc : Nat → Nat × Nat) (s : AS) (a : Act) (w : World) : Prop where
  hF : ∀ b, F b → b < w.heap.size
  hG : ∀ b, X.G b → F b
  hN : ∀ b, F b → X.G b ∨ X.O b ∨ X.w0.heap.size ≤ b
  below : Beyond X.O X.w0 w
  defers : DfOk X F w a
  len : s.t.length = a.tmps.size
  tmps : ∀ (j : Nat) x, s.t[j]? = some x → Rep w F loc s.H.length x (a.tmps.getD j undef)
  obj : ∀ (r : Nat) o, s.H[r]? = some (some o) → ObjAt w F loc s.H.length r o
  new : ∀ (r : Nat) o, s.H[r]? = some (some o) → X.w0.heap.size ≤ (loc r).1 ∨ X.O (loc r).1
  nF : ∀ (r : Nat) o, s.H[r]? = some (some o) → ¬ F (loc r).1
  inj : ∀ (r r' : Nat) o o', s.H[r]? = some (some o) → s.H[r']? = some (some o') → (loc r).1 = (loc r').1 → r = r'
def Rel (X:Cx) (s:AS) (a:Act) (w:World):Prop:=∃F loc,RelF X F loc s a w

section
variable {X : Cx} {F F' : Nat → Prop} {loc loc' : Nat → Nat × Nat} {s : AS} {a : Act} {w w' : World}

theorem RelF.tabW (R:RelF X F loc s a w):TabW w:=fun t ht=>by
 obtain ⟨h1,h2⟩:=R.defers.2.2.2.1
 obtain ⟨h3,h4⟩:=h1 t ht
 refine ⟨h3,fun j v hv=>?_⟩
 have hc:=h4 j v hv
 have hb:=R.below.block t.1 (block_lt_of_cell hc) (h2 t ht)
 unfold World.cell? at hc ⊢
 rw [hb];exact hc
theorem RelF.tabO (R:RelF X F loc s a w):∀t∈tabs,∀(r:Nat) o,s.H[r]?=some (some o)→(loc r).1≠t.1:=fun t ht r o hr e=>by
 obtain ⟨h1,h2⟩:=R.defers.2.2.2.1
 obtain ⟨h3,h4⟩:=h1 t ht
 obtain ⟨v,l,hl⟩:=List.exists_cons_of_ne_nil h3
 have hc:=h4 0 v (by rw [hl];rfl)
 have hlt:=block_lt_of_cell hc
 rcases R.new r o hr with h|h
 ·rw [e] at h;exact absurd hlt (Nat.not_lt.2 h)
 ·rw [e] at h;exact h2 t ht h
structure Tr (F : Nat → Prop) (loc : Nat → Nat × Nat) (N : Nat) (w : World) (F' : Nat → Prop) (loc' : Nat → Nat × Nat) (N' : Nat) (w' : World) : Prop where
  sub : ∀ b, F b → F' b
  cell : ∀ b o u, F b → w.cell? ⟨b, o, none⟩ = some u → w'.cell? ⟨b, o, none⟩ = some u
  le : N ≤ N'
  agree : ∀ r, r < N → loc' r = loc r
def ext (loc:Nat→Nat × Nat) (n:Nat) (b:Nat × Nat):Nat→Nat × Nat:=fun r=>if r=n then b else loc r
theorem ext_lt {loc:Nat→Nat × Nat} {n r:Nat} {b:Nat × Nat} (h:r<n):ext loc n b r=loc r:=if_neg (by omega)
theorem ext_self {loc:Nat→Nat × Nat} {n:Nat} {b:Nat × Nat}:ext loc n b n=b:=if_pos rfl
theorem Rep.tr {N N':Nat} {x:AV} {y:Value} (h:Rep w F loc N x y) (T:Tr F loc N w F' loc' N' w'):Rep w' F' loc' N' x y:=h.mono T.sub T.cell T.le T.agree
theorem Tr.refl (F:Nat→Prop) (loc:Nat→Nat × Nat) (N:Nat) (w:World):Tr F loc N w F loc N w:=⟨fun _ h=>h,fun _ _ _ _ h=>h,Nat.le_refl _,fun _ _=>rfl⟩
theorem cell_lt {b o:Nat} {u:Value} (h:w.cell? ⟨b,o,none⟩=some u):b<w.heap.size:=block_lt_of_cell (a:=⟨b,o,none⟩) h
theorem cell_of_block {b o:Nat} (h:w'.heap[b]?=w.heap[b]?):w'.cell? ⟨b,o,none⟩=w.cell? ⟨b,o,none⟩:=World.cell?_of_block h
theorem Tr.old {N N':Nat} (h:∀b,b<w.heap.size→w'.heap[b]?=w.heap[b]?) (hF:∀b,F b→F' b) (hN:N≤N') (hl:∀r,r<N→loc' r=loc r):Tr F loc N w F' loc' N' w' :=
 ⟨hF,fun b o u _ hc=>by rw [cell_of_block (h b (cell_lt hc))];exact hc,hN,hl⟩

theorem ObjAt.tr {N N' r:Nat} {o:AO} (h:ObjAt w F loc N r o) (T:Tr F loc N w F' loc' N' w') (hr:r<N) (hb:w'.heap[(loc r).1]?=w.heap[(loc r).1]?):ObjAt w' F' loc' N' r o:=by
 obtain ⟨hu,vs,hv,hz,hc⟩:=h
 refine ⟨hu,vs,by rw [T.agree r hr,hb];exact hv,by rw [T.agree r hr];exact hz,fun j c hj=>?_⟩
 obtain ⟨u,h1,h2⟩:=hc j c hj
 exact ⟨u,h1,h2.tr T⟩

theorem hlt {l:List (Option AO)} {r:Nat} {o:Option AO} (h:l[r]?=some o):r<l.length:=by
 rcases Nat.lt_or_ge r l.length with h'|h'
 ·exact h'
 ·rw [List.getElem?_eq_none h'] at h;cases h

theorem RelF.stepO (R:RelF X F loc s a w) {O:Nat→Prop} (hO:∀b,O b→X.O b∨X.w0.heap.size≤b) (hFO:∀b,F b→¬O b) (hLO:∀r o,s.H[r]?=some (some o)→¬O (loc r).1) (hb:Beyond O w w') (hF:∀b,F b→F' b) (hF':∀b,F' b→b<w'.heap.size)
  (hnew:∀b,F' b→F b∨O b∨w.heap.size≤b):RelF X F' loc s a w':=by
 have hbig:=R.below.size
 have T:Tr F loc s.H.length w F' loc s.H.length w':=⟨hF,fun b o u hf h=>by
  have hlt:=cell_lt h
  unfold World.cell? at h ⊢
  rw [hb.block b hlt (hFO b hf)];exact h,Nat.le_refl _,fun _ _=>rfl⟩
 refine ⟨hF',fun b h=>hF _ (R.hG b h),fun b h=>?_,R.below.trans ⟨hb.os,hb.tape,hb.output,hb.size,fun k hk hno=>hb.block k hk fun h=>hno ((hO k h).imp id fun h=>h)⟩,R.defers.mono hF fun b h=>hb.block b (R.hF b h) (hFO b h),R.len,fun j x h=>(R.tmps j x h).tr T,fun r o h=>?_,R.new,fun r o h hf=>?_,R.inj⟩
 ·rcases hnew b h with h|h|h
  ·exact R.hN b h
  ·exact .inr (hO b h)
  ·exact .inr (.inr (by omega))
 ·obtain ⟨_,vs,hv,_⟩:=R.obj r o h
  have:(loc r).1<w.heap.size:=(Array.getElem?_eq_some_iff.1 hv).1
  exact (R.obj r o h).tr T (hlt h) (hb.block _ this (hLO r o h))
 ·obtain ⟨_,vs,hv,_⟩:=R.obj r o h
  have:(loc r).1<w.heap.size:=(Array.getElem?_eq_some_iff.1 hv).1
  rcases hnew _ hf with h'|h'|h'
  ·exact R.nF r o h h'
  ·exact hLO r o h h'
  ·omega
theorem RelF.step (R:RelF X F loc s a w) (hb:Beyond (fun _=>False) w w') (hF:∀b,F b→F' b) (hF':∀b,F' b→b<w'.heap.size) (hnew:∀b,F' b→F b∨w.heap.size≤b):RelF X F' loc s a w' :=
 R.stepO (O:=fun _=>False) (fun _ h=>h.elim) (fun _ _ h=>h) (fun _ _ _ h=>h) hb hF hF' fun b h=>(hnew b h).imp id .inr
theorem RelF.drew (R:RelF X F loc s a w):RelF X F loc s a w.drew:=R.step ⟨rfl,rfl,rfl,Nat.le_refl _,fun _ _ _=>rfl⟩ (fun _ h=>h) R.hF (fun _ h=>.inl h)
theorem beyond_alloc (w:World) (o:Obj):Beyond (fun _=>False) w (w.alloc o):=⟨rfl,rfl,rfl,by simp,fun k hk _=>Below.heap_alloc w o k hk⟩
theorem RelF.alloc (R:RelF X F loc s a w) (o:AO) (vs:Array Value) (hu:Uni o.sz o.es) (hc:∀(j:Nat) c,(flat o.es)[j]?=some c→∃u,vs[j]?=some u∧Rep w F loc s.H.length c u) :
  RelF X F (ext loc s.H.length (w.heap.size,vs.size)) { s with H:=s.H++[some o] } a (w.alloc (.cells vs o.e)):=by
 have hb:=beyond_alloc w (.cells vs o.e)
 have hll:∀r,r<s.H.length→ext loc s.H.length (w.heap.size,vs.size) r=loc r:=fun r h=>ext_lt h
 have T:Tr F loc s.H.length w F (ext loc s.H.length (w.heap.size,vs.size)) (s.H++[some o]).length (w.alloc (.cells vs o.e)):=Tr.old (fun b h=>hb.block b h id) (fun _ h=>h) (by simp) hll
 have hbig:=R.below.size
 have hobj:∀r q,(s.H++[some o])[r]?=some (some q)→(s.H[r]?=some (some q)∧r<s.H.length)∨(r=s.H.length∧q=o):=fun r q h=>by
  rcases Nat.lt_trichotomy r s.H.length with h'|h'|h'
  ·rw [List.getElem?_append_left h'] at h;exact .inl ⟨h,h'⟩
  ·subst h';simp at h;exact .inr ⟨rfl,h.symm⟩
  ·rw [List.getElem?_eq_none (by simp;omega)] at h;cases h
 have hloc:∀r q,s.H[r]?=some (some q)→(loc r).1<w.heap.size:=fun r q h=>by
  obtain ⟨_,vs,hv,_⟩:=R.obj r q h
  exact (Array.getElem?_eq_some_iff.1 hv).1
 refine ⟨fun b h=>by have:=R.hF b h;simp;omega,R.hG,R.hN,R.below.trans ⟨hb.os,hb.tape,hb.output,hb.size,fun k hk _=>hb.block k hk id⟩,R.defers.mono (fun _ h=>h) fun b h=>hb.block b (R.hF b h) id,R.len,fun j x h=>(R.tmps j x h).tr T,fun r q h=>?_,fun r q h=>?_,fun r q h hf=>?_,fun r r' q q' h h' e=>?_⟩
 ·rcases hobj r q h with ⟨h,hr⟩|⟨rfl,rfl⟩
  ·exact (R.obj r q h).tr T hr (hb.block _ (hloc r q h) id)
  ·refine ⟨hu,vs,by rw [ext_self];exact heap_alloc_new w _,by rw [ext_self],fun j c hj=>?_⟩
   obtain ⟨u,h1,h2⟩:=hc j c hj
   exact ⟨u,h1,h2.tr T⟩
 ·rcases hobj r q h with ⟨h,hr⟩|⟨rfl,rfl⟩
  ·rw [hll r hr];exact R.new r q h
  ·rw [ext_self];exact .inl hbig
 ·rcases hobj r q h with ⟨h,hr⟩|⟨rfl,rfl⟩
  ·rw [hll r hr] at hf;exact R.nF r q h hf
  ·rw [ext_self] at hf;have:=R.hF _ hf;omega
 ·rcases hobj r q h with ⟨h1,hr⟩|⟨rfl,h1⟩<;>rcases hobj r' q' h' with ⟨h2,hr'⟩|⟨rfl,h2⟩
  ·rw [hll r hr,hll r' hr'] at e;exact R.inj r r' q q' h1 h2 e
  ·rw [hll r hr] at e;rw [ext_self] at e;have:=hloc r q h1;omega
  ·rw [hll r' hr'] at e;rw [ext_self] at e;have:=hloc r' q' h2;omega
  ·rfl
theorem RelF.upd (R:RelF X F loc s a w) {r:Nat} {o o':AO} (hr:s.H[r]?=some (some o)) {vs vs':Array Value} (hv:w.heap[(loc r).1]?=some (.cells vs o.e (0,0))) (hs:vs'.size=vs.size) (he:o'.e=o.e)
  (hw:w'.heap[(loc r).1]?=some (.cells vs' o.e (0,0))) (hold:∀b,b≠(loc r).1→w'.heap[b]?=w.heap[b]?) (hsz:w'.heap.size=w.heap.size) (hos:w'.os=w.os) (htp:w'.tape=w.tape) (hout:w'.output=w.output)
  (hu:Uni o'.sz o'.es) (hc:∀(j:Nat) c,(flat o'.es)[j]?=some c→∃u,vs'[j]?=some u∧Rep w F loc s.H.length c u) :
  RelF X F loc { s with H:=s.H.set r (some o') } a w':=by
 have hnF:=R.nF r o hr
 have T:Tr F loc s.H.length w F loc (s.H.set r (some o')).length w':=by
  refine ⟨fun _ h=>h,fun b p u hb hcell=>?_,by simp,fun _ _=>rfl⟩
  rw [cell_of_block (hold b fun e=>hnF (e▸hb))];exact hcell
 have hobj:∀q p,(s.H.set r (some o'))[q]?=some (some p)→(q≠r∧s.H[q]?=some (some p))∨(q=r∧p=o'):=fun q p h=>by
  by_cases e:q=r
  ·subst e;rw [List.getElem?_set_self (hlt hr)] at h;exact .inr ⟨rfl,by simpa using h.symm⟩
  ·rw [List.getElem?_set_ne (Ne.symm e)] at h;exact .inl ⟨e,h⟩
 have hany:∀q p,(s.H.set r (some o'))[q]?=some (some p)→∃p',s.H[q]?=some (some p'):=fun q p h=>by
  rcases hobj q p h with ⟨_,h⟩|⟨rfl,_⟩
  ·exact ⟨p,h⟩
  ·exact ⟨o,hr⟩
 refine ⟨fun b h=>by have:=R.hF b h;omega,R.hG,R.hN,R.below.trans ⟨hos,htp,hout,by omega,fun k hk hn=>hold k fun e=>hn ?_⟩,R.defers.mono (fun _ h=>h) fun b h=>hold b fun e=>hnF (e▸h),R.len,fun j x h=>(R.tmps j x h).tr T,fun q p h=>?_,fun q p h=>?_,fun q p h hf=>?_,fun q q' p p' h h' e=>?_⟩
 ·rw [e];exact (R.new r o hr).symm
 ·rcases hobj q p h with ⟨hne,h⟩|⟨rfl,rfl⟩
  ·exact (R.obj q p h).tr T (hlt h) (hold _ fun e=>hne (R.inj q r p o h hr e))
  ·refine ⟨hu,vs',by rw [hw,he],?_,fun j c hj=>?_⟩
   ·obtain ⟨_,v0,hv0,hz0,_⟩:=R.obj _ o hr
    rw [hv] at hv0;cases hv0;omega
   obtain ⟨u,h1,h2⟩:=hc j c hj
   exact ⟨u,h1,h2.tr T⟩
 ·obtain ⟨p',h'⟩:=hany q p h;exact R.new q p' h'
 ·obtain ⟨p',h'⟩:=hany q p h;exact R.nF q p' h' hf
 ·obtain ⟨p1,h1⟩:=hany q p h;obtain ⟨p2,h2⟩:=hany q' p' h';exact R.inj q q' p1 p2 h1 h2 e
theorem RelF.kill (R:RelF X F loc s a w) (r:Nat):RelF X F loc { s with H:=s.H.set r none } a w:=by
 have hobj:∀q p,(s.H.set r none)[q]?=some (some p)→s.H[q]?=some (some p):=fun q p h=>by
  by_cases e:q=r
  ·subst e
   rcases Nat.lt_or_ge q s.H.length with h'|h'
   ·rw [List.getElem?_set_self h'] at h;cases h
   ·rw [List.getElem?_eq_none (by simpa using h')] at h;cases h
  ·rwa [List.getElem?_set_ne (Ne.symm e)] at h
 have hl:(s.H.set r none).length=s.H.length:=by simp
 refine ⟨R.hF,R.hG,R.hN,R.below,R.defers,R.len,fun j x h=>by rw [hl];exact R.tmps j x h,fun q p h=>by rw [hl];exact R.obj q p (hobj q p h),fun q p h=>R.new q p (hobj q p h),fun q p h=>R.nF q p (hobj q p h),fun q q' p p' h h'=>R.inj q q' p p' (hobj q p h) (hobj q' p' h')⟩
theorem RelF.freeze (R:RelF X F loc s a w) {r:Nat} {o:AO} (hr:s.H[r]?=some (some o)):RelF X (fun b=>F b∨b=(loc r).1) loc { s with H:=s.H.set r none } a w:=by
 have R':=R.kill r
 have T:Tr F loc s.H.length w (fun b=>F b∨b=(loc r).1) loc (s.H.set r none).length w:=Tr.old (fun _ _=>rfl) (fun _ h=>.inl h) (by simp) (fun _ _=>rfl)
 have hobj:∀q p,(s.H.set r none)[q]?=some (some p)→s.H[q]?=some (some p)∧q≠r:=fun q p h=>by
  by_cases e:q=r
  ·subst e
   rw [List.getElem?_set_self (hlt hr)] at h;cases h
  ·rw [List.getElem?_set_ne (Ne.symm e)] at h;exact ⟨h,e⟩
 have hb:(loc r).1<w.heap.size:=by
  obtain ⟨_,vs,hv,_⟩:=R.obj r o hr
  exact (Array.getElem?_eq_some_iff.1 hv).1
 refine ⟨fun b h=>by rcases h with h|rfl;exact R.hF b h;exact hb,fun b h=>.inl (R.hG b h),fun b h=>by rcases h with h|rfl;exact R.hN b h;exact .inr (R.new r o hr).symm,R.below,R.defers.mono (fun _ h=>.inl h) fun _ _=>rfl,R.len,fun j x h=>(R.tmps j x h).tr T,fun q p h=>(R.obj q p (hobj q p h).1).tr T (hlt (hobj q p h).1) rfl,fun q p h=>R.new q p (hobj q p h).1,fun q p h hf=>?_,fun q q' p p' h h'=>R.inj q q' p p' (hobj q p h).1 (hobj q' p' h').1⟩
 rcases hf with hf|hf
 ·exact R.nF q p (hobj q p h).1 hf
 ·exact (hobj q p h).2 (R.inj q r p o (hobj q p h).1 hr hf)
end

def AV.lt1 (N:Nat):AV→Bool
 | .f _|.any|.one=>true
 | .own r _ _ _|.ptr r _ _ _=>decide (r<N)
 | _=>false
def AV.lt0 (N:Nat):AV→Bool
 | .agg cs|.tup cs=>cs.all (AV.lt1 N)
 | .fn _ a b=>a.all (AV.lt1 N)&&b.all (AV.lt1 N)
 | x=>x.lt1 N
theorem Rep.lt1 {w:World} {F:Nat→Prop} {loc:Nat→Nat × Nat} {N N':Nat} {x:AV} {y:Value} (h:Rep w F loc N x y) (hx:x.lt1 N'=true):Rep w F loc N' x y:=by
 cases h with
 | any y=>exact .any y
 | one y h=>exact .one y h
 | f x y h=>exact .f x y h
 | own r sz off k cap hr hk hm hs=>exact .own r sz off k cap (of_decide_eq_true hx) hk hm hs
 | ptr r sz i j hr=>exact .ptr r sz i j (of_decide_eq_true hx)
 | _=>cases hx
theorem Rep.lt0 {w:World} {F:Nat→Prop} {loc:Nat→Nat × Nat} {N N':Nat} {x:AV} {y:Value} (h:Rep w F loc N x y) (hx:x.lt0 N'=true):Rep w F loc N' x y:=by
 cases h with
 | any y=>exact .any y
 | one y h=>exact .one y h
 | f x y h=>exact .f x y h
 | agg cs vs hl hc=>exact .agg cs vs hl fun j c hj=>(hc j c hj).lt1 (List.all_eq_true.1 (show cs.all (AV.lt1 N')=true from hx) c (List.mem_of_getElem? hj))
 | tup cs vs hl hc=>exact .tup cs vs hl fun j c hj=>(hc j c hj).lt1 (List.all_eq_true.1 (show cs.all (AV.lt1 N')=true from hx) c (List.mem_of_getElem? hj))
 | own r sz off k cap hr hk hm hs=>exact .own r sz off k cap (of_decide_eq_true hx) hk hm hs
 | ptr r sz i j hr=>exact .ptr r sz i j (of_decide_eq_true hx)
 | fn f a b vs us h1 h2 h3 h4 =>
  have hx':=Bool.and_eq_true_iff.1 (show (a.all (AV.lt1 N')&&b.all (AV.lt1 N'))=true from hx)
  exact .fn f a b vs us h1 (fun j c hj=>(h2 j c hj).lt1 (List.all_eq_true.1 hx'.1 c (List.mem_of_getElem? hj))) h3 (fun j c hj=>(h4 j c hj).lt1 (List.all_eq_true.1 hx'.2 c (List.mem_of_getElem? hj)))
theorem lt0_cells {N:Nat} {x:AV} (h:x.lt0 N=true):∀c∈x.cells,c.lt0 N=true:=fun c hc=>by
 have up:∀{z:AV},z.lt1 N=true→z.lt0 N=true:=fun {z} hz=>by cases z<;>first|exact hz|cases hz
 cases x with
 | agg cs=>exact up (List.all_eq_true.1 (show cs.all (AV.lt1 N)=true from h) c hc)
 | f x=>rw [cells_f] at hc;obtain ⟨d,_,rfl⟩:=List.mem_map.1 hc;rfl
 | _=>simp only [AV.cells,List.mem_singleton] at hc;subst hc;exact h
def AV.ren1 (g:Nat→Nat):AV→AV
 | .own r sz o k=>.own (g r) sz o k
 | .ptr r sz i j=>.ptr (g r) sz i j
 | x=>x
def AV.ren (g:Nat→Nat):AV→AV
 | .agg cs=>.agg (cs.map (AV.ren1 g))
 | .tup cs=>.tup (cs.map (AV.ren1 g))
 | .fn c p q=>.fn c (p.map (AV.ren1 g)) (q.map (AV.ren1 g))
 | x=>x.ren1 g
theorem ren1_id {x:AV}:x.ren1 (fun r=>r)=x:=by cases x<;>rfl
theorem ren1_map_id (l:List AV):l.map (AV.ren1 fun r=>r)=l:=by
 induction l with
 | nil=>rfl
 | cons a l ih=>rw [List.map_cons,ih,ren1_id]
theorem ren_id {x:AV}:x.ren (fun r=>r)=x:=by
 cases x with
 | agg cs=>exact congrArg AV.agg (ren1_map_id cs)
 | tup cs=>exact congrArg AV.tup (ren1_map_id cs)
 | fn c p q=>show AV.fn c (p.map _) (q.map _)=_;rw [ren1_map_id,ren1_map_id]
 | _=>rfl
theorem Rep.ren1 {w:World} {F:Nat→Prop} {loc:Nat→Nat × Nat} {N N':Nat} {g:Nat→Nat} {x:AV} {y:Value} (h:Rep w F loc N (x.ren1 g) y) (hx:x.lt1 N'=true):Rep w F (fun r=>loc (g r)) N' x y:=by
 cases x with
 | any=>exact .any y
 | one=>cases h with|one _ h=>exact .one y h
 | f x=>cases h with|f _ _ h=>exact .f x y h
 | own r sz off k=>cases h with|own _ _ _ _ cap hr hk hm hs=>exact .own r sz off k cap (of_decide_eq_true hx) hk hm hs
 | ptr r sz i j=>cases h with|ptr _ _ _ _ hr=>exact .ptr (loc:=fun r=>loc (g r)) r sz i j (of_decide_eq_true hx)
 | _=>cases hx
theorem ren1_get {g:Nat→Nat} {l:List AV} {j:Nat} {c:AV} (h:l[j]?=some c):(l.map (AV.ren1 g))[j]?=some (c.ren1 g):=by rw [List.getElem?_map,h];rfl
theorem Rep.ren0 {w:World} {F:Nat→Prop} {loc:Nat→Nat × Nat} {N N':Nat} {g:Nat→Nat} {x:AV} {y:Value} (h:Rep w F loc N (x.ren g) y) (hx:x.lt0 N'=true):Rep w F (fun r=>loc (g r)) N' x y:=by
 cases x with
 | any=>exact .any y
 | one=>cases h with|one _ h=>exact .one y h
 | f x=>cases h with|f _ _ h=>exact .f x y h
 | own r sz off k=>exact Rep.ren1 (x:=.own r sz off k) h hx
 | ptr r sz i j=>exact Rep.ren1 (x:=.ptr r sz i j) h hx
 | agg cs=>cases h with|agg _ vs hl hc=>exact .agg cs vs (by simpa using hl) fun j c hj=>(hc j _ (ren1_get hj)).ren1 (List.all_eq_true.1 (show cs.all (AV.lt1 N')=true from hx) c (List.mem_of_getElem? hj))
 | tup cs=>cases h with|tup _ vs hl hc=>exact .tup cs vs (by simpa using hl) fun j c hj=>(hc j _ (ren1_get hj)).ren1 (List.all_eq_true.1 (show cs.all (AV.lt1 N')=true from hx) c (List.mem_of_getElem? hj))
 | fn f a b =>
  have hx':=Bool.and_eq_true_iff.1 (show (a.all (AV.lt1 N')&&b.all (AV.lt1 N'))=true from hx)
  cases h with
  | fn _ _ _ vs us h1 h2 h3 h4 =>
   exact .fn f a b vs us (by simpa using h1) (fun j c hj=>(h2 j _ (ren1_get hj)).ren1 (List.all_eq_true.1 hx'.1 c (List.mem_of_getElem? hj))) (by simpa using h3) (fun j c hj=>(h4 j _ (ren1_get hj)).ren1 (List.all_eq_true.1 hx'.2 c (List.mem_of_getElem? hj)))
theorem ren_lt1 {N:Nat} {g:Nat→Nat} {x:AV} (h:x.lt1 N=true):x.ren g=x.ren1 g:=by
 cases x with
 | agg _=>cases h
 | tup _=>cases h
 | fn _ _ _=>cases h
 | _=>rfl
theorem ren_cells {N:Nat} {g:Nat→Nat} {x:AV} (h:x.lt0 N=true):(x.ren g).cells=x.cells.map (AV.ren g):=by
 cases x with
 | agg cs=>exact List.map_congr_left fun c hc=>(ren_lt1 (List.all_eq_true.1 (show cs.all (AV.lt1 N)=true from h) c hc)).symm
 | f x=>show x.cells.map AV.f=(x.cells.map AV.f).map _;rw [List.map_map];rfl
 | _=>rfl
theorem ren1_oc {g:Nat→Nat} (x:AV):(x.ren1 g).oc=x.oc:=by cases x<;>rfl
theorem ren_st {g:Nat→Nat} (x:AV):(x.ren g).st=x.st:=by
 cases x with
 | agg cs=>show (cs.map (AV.ren1 g)).all AV.oc=cs.all AV.oc;rw [List.all_map];congr 1;funext c;exact ren1_oc c
 | _=>rfl
theorem ren_flat {N:Nat} {g:Nat→Nat} {es:List AV} (h:∀e∈es,e.lt0 N=true):flat (es.map (AV.ren g))=(flat es).map (AV.ren g):=by
 induction es with
 | nil=>rfl
 | cons e es ih =>
  show (e.ren g).cells++flat (es.map (AV.ren g))=(e.cells++flat es).map (AV.ren g)
  rw [List.map_append,ren_cells (h e (by simp)),ih fun e' he'=>h e' (by simp [he'])]
structure WeakR (g : Nat → Nat) (s s' : AS) : Prop where
  len : s'.t.length = s.t.length
  t : ∀ (j : Nat) x, s'.t[j]? = some x → x = .any ∨ (s.t[j]? = some (x.ren g) ∧ x.lt0 s'.H.length = true)
  H : ∀ (r : Nat) o, s'.H[r]? = some (some o) → s.H[g r]? = some (some ⟨o.e, o.sz, o.es.map (AV.ren g)⟩) ∧ ∀ e ∈ o.es, e.lt0 s'.H.length = true
  inj : ∀ (r r' : Nat), r < s'.H.length → r' < s'.H.length → g r = g r' → r = r'
def Weak (s s':AS):Prop:=∃g,WeakR g s s'
theorem RelF.weak {X:Cx} {F:Nat→Prop} {loc:Nat→Nat × Nat} {s s':AS} {a:Act} {w:World} (R:RelF X F loc s a w) (hw:Weak s s'):∃loc',RelF X F loc' s' a w:=by
 obtain ⟨g,h⟩:=hw
 refine ⟨fun r=>loc (g r),R.hF,R.hG,R.hN,R.below,R.defers,by rw [h.len];exact R.len,fun j x hj=>?_,fun r o hr=>?_,fun r o hr=>R.new (g r) _ (h.H r o hr).1,fun r o hr=>R.nF (g r) _ (h.H r o hr).1,fun r r' o o' hr hr' he=>h.inj r r' (List.getElem?_eq_some_iff.1 hr).1 (List.getElem?_eq_some_iff.1 hr').1 (R.inj (g r) (g r') _ _ (h.H r o hr).1 (h.H r' o' hr').1 he)⟩
 ·rcases h.t j x hj with rfl|⟨h',hlt⟩
  ·exact .any _
  ·exact (R.tmps j _ h').ren0 hlt
 ·obtain ⟨h1,h2⟩:=h.H r o hr
  obtain ⟨hu,vs,hv,hz,hc⟩:=R.obj _ _ h1
  refine ⟨fun e he=>?_,vs,hv,hz,fun j c hj=>?_⟩
  ·have:=hu _ (List.mem_map.2 ⟨e,he,rfl⟩)
   rw [ren_cells (h2 e he),List.length_map,ren_st] at this
   exact this
  ·obtain ⟨e,he,hce⟩:=List.mem_flatMap.1 (List.mem_of_getElem? hj)
   obtain ⟨u,h3,h4⟩:=hc j (c.ren g) (by rw [show flat (List.map (AV.ren g) o.es)=_ from ren_flat h2,List.getElem?_map,hj];rfl)
   exact ⟨u,h3,h4.ren0 (lt0_cells (h2 e he) c hce)⟩

def AS.ev (s:AS):Operand→AV
 | .tmp t=>s.t.getD t .any
 | .const x=>.f (.ofV x)
 | .global _=>.any
 | .func f=>.f (.fn f [] [])
def AS.put (s:AS) (d:Option Tmp) (x:AV):AS :=
 match d with
 | some d=>{ s with t:=s.t.set d x }
 | none=>s
theorem AS.put_H (s:AS) (d:Option Tmp) (x:AV):(s.put d x).H=s.H:=by cases d<;>rfl
section
variable {X : Cx} {F : Nat → Prop} {loc : Nat → Nat × Nat} {s : AS} {a : Act} {w : World}
theorem RelF.ev (R:RelF X F loc s a w) (x:Operand):Rep w F loc s.H.length (s.ev x) (a.eval x):=by
 cases x with
 | tmp t =>
  show Rep w F loc s.H.length (s.t.getD t .any) (a.tmps.getD t undef)
  rw [List.getD_eq_getElem?_getD]
  cases h:s.t[t]? with
  | none=>exact .any _
  | some x=>exact R.tmps t x h
 | const x=>exact .f _ _ (RepF.ofV x)
 | global g=>exact .any _
 | func f=>exact .f _ _ (.fn f [] [] #[] #[] rfl (fun j c h=>by simp at h) rfl (fun j c h=>by simp at h))
theorem RelF.put (R:RelF X F loc s a w) (d:Option Tmp) {x:AV} {y:Value} (h:Rep w F loc s.H.length x y) (hd:∀j,d=some j→X.kp j=false):RelF X F loc (s.put d x) (a.put d y) w:=by
 cases d with
 | none=>exact R
 | some d =>
  refine ⟨R.hF,R.hG,R.hN,R.below,⟨R.defers.1,fun j hj=>?_,R.defers.2.2⟩,?_,fun j z hj=>?_,R.obj,R.new,R.nF,R.inj⟩
  ·have hne:d≠j:=fun e=>by rw [hd j (by rw [e])] at hj;cases hj
   rw [←R.defers.2.1 j hj]
   show (a.tmps.setIfInBounds d y).getD j undef=a.tmps.getD j undef
   simp [Array.getD_eq_getD_getElem?,hne]
  ·show (s.t.set d x).length=(a.tmps.setIfInBounds d y).size
   simp [R.len]
  ·have hj':(s.t.set d x)[j]?=some z:=hj
   show Rep w F loc s.H.length z ((a.tmps.setIfInBounds d y).getD j undef)
   by_cases e:d=j
   ·subst e
    have hd:d<s.t.length:=by
     rcases Nat.lt_or_ge d s.t.length with h'|h'
     ·exact h'
     ·rw [List.getElem?_eq_none (by simpa using h')] at hj';cases hj'
    rw [List.getElem?_set_self hd] at hj'
    cases hj'
    have:(a.tmps.setIfInBounds d y).getD d undef=y:=by simp [Array.getD_eq_getD_getElem?,←R.len,hd]
    rw [this];exact h
   ·rw [List.getElem?_set_ne e] at hj'
    have:(a.tmps.setIfInBounds d y).getD j undef=a.tmps.getD j undef:=by simp [Array.getD_eq_getD_getElem?,e]
    rw [this];exact R.tmps j z hj'
end
end

section
open Go Go.RowKit

structure TI where
  agg : Bool
  size : Nat
  bytes : Nat
  zero : Option FV
  offs : List (Option Nat)
  str : Bool
  fsz : List Nat
  deriving Inhabited
def tI (P:Program) (t:TypeId):Option TI :=
 match P.info? t,P.underlying t with
 | some i,some d=>some ⟨match d with|.struct _|.array _ _=>true|_=>false,i.size,i.bytes,i.zero.map FV.ofV,
   match d with|.struct fs=>fs.toList.map (fun f=>match P.info? f.type with|some j=>if j.size=0 then none else some f.offset|none=>none)|_=>[],match d with|.string=>true|_=>false,
   match d with|.struct fs=>fs.toList.map (fun f=>match P.info? f.type with|some j=>j.size|none=>0)|_=>[]⟩
 | _,_=>none
def tS (P:Program) (t:TypeId):Option (TypeId × TI) :=
 match P.underlying t with
 | some (.slice e)=>(tI P e).map (e,·)
 | _=>none
section
variable {P : Program} {t : TypeId} {T : TI}
theorem tI_info (h:tI P t=some T):∃i d,P.info? t=some i∧P.underlying t=some d∧T.size=i.size∧T.bytes=i.bytes∧T.zero=i.zero.map FV.ofV∧T.agg=(match d with|.struct _|.array _ _=>true|_=>false) ∧
  T.offs=(match d with|.struct fs=>fs.toList.map (fun f=>match P.info? f.type with|some j=>if j.size=0 then none else some f.offset|none=>none)|_=>[])∧T.str=(match d with|.string=>true|_=>false) ∧
  T.fsz=(match d with|.struct fs=>fs.toList.map (fun f=>match P.info? f.type with|some j=>j.size|none=>0)|_=>[]):=by
 unfold tI at h
 cases hi:P.info? t with
 | none=>rw [hi] at h;cases h
 | some i =>
  rw [hi] at h
  cases hd:P.underlying t with
  | none=>rw [hd] at h;cases h
  | some d=>rw [hd] at h;cases h;exact ⟨i,d,rfl,rfl,rfl,rfl,rfl,rfl,rfl,rfl,rfl⟩
theorem tI_size (h:tI P t=some T) (w:World):(sizeOf t).run P w=.ok T.size w:=by
 obtain ⟨i,d,hi,_,hs,_⟩:=tI_info h
 simp [Go.sizeOf,typeInfo,hi,hs]
theorem tI_agg (h:tI P t=some T) (w:World):(isAgg t).run P w=.ok T.agg w:=by
 obtain ⟨i,d,hi,hd,_,_,_,ha,_⟩:=tI_info h
 rw [ha]
 simp only [isAgg,Sem.run_bind,run_underlying hd,Result.andThen_ok]
 cases d<;>rfl
theorem tI_zero (h:tI P t=some T) {z:FV} (hz:T.zero=some z) (w:World):∃y,(zeroValue t).run P w=.ok y w∧z=.ofV y:=by
 obtain ⟨i,d,hi,hd,_,_,h0,_⟩:=tI_info h
 rw [hz] at h0
 cases hy:i.zero with
 | none=>rw [hy] at h0;cases h0
 | some y=>rw [hy] at h0;exact ⟨y,by simp [zeroValue,typeInfo,hi,hy],by simpa using h0⟩
theorem tI_str (h:tI P t=some T) (hs:T.str=true):P.underlying t=some .string:=by
 obtain ⟨i,d,hi,hd,_,_,_,_,_,h1,_⟩:=tI_info h
 rw [hs] at h1
 cases d<;>first|exact hd|cases h1
theorem tS_elem {e:TypeId} (h:tS P t=some (e,T)):P.underlying t=some (.slice e)∧tI P e=some T:=by
 unfold tS at h
 split at h
 ·rename_i e' he
  cases hT:tI P e' with
  | none=>rw [hT] at h;cases h
  | some T'=>rw [hT] at h;cases h;exact ⟨he,hT⟩
 ·cases h
end

def FV.isA:FV→Bool
 | .agg _=>true
 | _=>false
def AV.isA:AV→Bool
 | .agg _=>true
 | .f x=>x.isA
 | _=>false
def ldF (T:TI) (x:FV) (j:Nat) (k:FV→Prop):Prop :=
 if T.agg then (if j=0∧T.size=x.cells.length∧x.isA=true then k x else j+T.size≤x.cells.length∧k (.agg ((x.cells.drop j).take T.size)))
 else ∃c,x.cells[j]?=some c∧k c
def ld (T:TI) (x:AV) (j:Nat) (k:AV→Prop):Prop :=
 if T.agg then (if j=0∧T.size=x.cells.length∧x.isA=true then k x else j+T.size≤x.cells.length∧k (.agg ((x.cells.drop j).take T.size)))
 else ∃c,x.cells[j]?=some c∧k c
section
variable {P : Program} {w : World} {F : Nat → Prop} {loc : Nat → Nat × Nat} {N : Nat}
theorem addr_add (b o j:Nat):(⟨b,o,none⟩:Addr).add j=⟨b,o+j,none⟩:=by unfold Addr.add;split<;>simp_all
theorem loadVar_one {t:TypeId} {T:TI} (hT:tI P t=some T) (ha:T.agg=false) {b o:Nat} {u:Value} (h:w.cell? ⟨b,o,none⟩=some u):(loadVar t ⟨b,o,none⟩).run P w=.ok u w:=by
 simp [loadVar,tI_agg hT,ha,h]
theorem loadVar_agg {t:TypeId} {T:TI} (hT:tI P t=some T) (ha:T.agg=true) {b o:Nat} {vs:List Value} (hl:vs.length=T.size) (h:∀(j:Nat) u,vs[j]?=some u→w.cell? ⟨b,o+j,none⟩=some u) :
  (loadVar t ⟨b,o,none⟩).run P w=.ok (.agg vs.toArray) w:=by
 simp only [loadVar,Sem.run_bind,tI_agg hT,ha,Result.andThen_ok,if_true,tI_size hT]
 rw [←hl,run_loadCells_list (P:=P) w ⟨b,o,none⟩ vs fun j u hj=>by rw [addr_add];exact h j u hj]
 rfl
theorem listOf (g:Nat→Value) (n m:Nat):∃vs:List Value,vs.length=n∧∀j:Nat,j<n→vs[j]?=some (g (m+j)) :=
 ⟨(List.range n).map fun j=>g (m+j),by simp,fun j hj=>by simp [hj]⟩
theorem ldF_sound {t:TypeId} {T:TI} (hT:tI P t=some T) {x:FV} {i b off:Nat} {k:FV→Prop} (h:ldF T x i k) {g:Nat→Value}
  (hg:∀(j:Nat) c,x.cells[j]?=some c→w.cell? ⟨b,off+j,none⟩=some (g j)) (hc:∀(j:Nat) c,x.cells[j]?=some c→RepF w F c (g j)) :
  ∃v u,k v∧(loadVar t ⟨b,off+i,none⟩).run P w=.ok u w∧RepF w F v u:=by
 unfold ldF at h
 split at h
 ·rename_i ha
  split at h
  ·rename_i hw
   obtain ⟨rfl,hs,hA⟩:=hw
   obtain ⟨vs,hl,hv⟩:=listOf g T.size 0
   refine ⟨x,_,h,loadVar_agg hT ha hl fun j u hj=>?_,?_⟩
   ·have hjl:=glt hj
    rw [hv j (by omega)] at hj
    cases hj
    have:=List.getElem?_eq_getElem (l:=x.cells) (i:=j) (by omega)
    rw [Nat.zero_add,Nat.add_zero]
    exact hg j _ this
   ·cases x with
    | agg cs =>
     have hs':T.size=cs.length:=hs
     refine .agg cs _ (by simp [hl,hs']) fun j c hj=>?_
     have hjl:=glt hj
     have:vs.toArray.getD j undef=g j:=by simp [Array.getD_eq_getD_getElem?,hv j (by omega)]
     rw [this];exact hc j c hj
    | _=>cases hA
  ·obtain ⟨hle,h⟩:=h
   obtain ⟨vs,hl,hv⟩:=listOf g T.size i
   refine ⟨_,_,h,loadVar_agg hT ha hl fun j u hj=>?_,?_⟩
   ·have hjl:=glt hj
    rw [hv j (by omega)] at hj
    cases hj
    have:=List.getElem?_eq_getElem (l:=x.cells) (i:=i+j) (by omega)
    rw [Nat.add_assoc]
    exact hg _ _ this
   ·refine .agg _ _ (by simp [hl];omega) fun j c hj=>?_
    have hjl:=glt hj
    have hjT:j<T.size:=by simp at hjl;omega
    have:vs.toArray.getD j undef=g (i+j):=by simp [Array.getD_eq_getD_getElem?,hv j hjT]
    rw [this]
    rw [List.getElem?_take,if_pos hjT,List.getElem?_drop] at hj
    exact hc _ c hj
 ·rename_i ha
  obtain ⟨c,h1,h2⟩:=h
  exact ⟨c,_,h2,loadVar_one hT (by simpa using ha) (hg i c h1),hc i c h1⟩
theorem ld_sound {t:TypeId} {T:TI} (hT:tI P t=some T) {x:AV} {i b off:Nat} {k:AV→Prop} (h:ld T x i k) {g:Nat→Value}
  (hg:∀(j:Nat) c,x.cells[j]?=some c→w.cell? ⟨b,off+j,none⟩=some (g j)) (hc:∀(j:Nat) c,x.cells[j]?=some c→Rep w F loc N c (g j)) :
  ∃v u,k v∧(loadVar t ⟨b,off+i,none⟩).run P w=.ok u w∧Rep w F loc N v u:=by
 unfold ld at h
 split at h
 ·rename_i ha
  split at h
  ·rename_i hw
   obtain ⟨rfl,hs,hA⟩:=hw
   obtain ⟨vs,hl,hv⟩:=listOf g T.size 0
   refine ⟨x,_,h,loadVar_agg hT ha hl fun j u hj=>?_,?_⟩
   ·have hjl:=glt hj
    rw [hv j (by omega)] at hj
    cases hj
    have:=List.getElem?_eq_getElem (l:=x.cells) (i:=j) (by omega)
    rw [Nat.zero_add,Nat.add_zero]
    exact hg j _ this
   ·cases x with
    | agg cs =>
     have hs':T.size=cs.length:=hs
     refine .agg cs _ (by simp [hl,hs']) fun j c hj=>?_
     have hjl:=glt hj
     have:vs.toArray.getD j undef=g j:=by simp [Array.getD_eq_getD_getElem?,hv j (by omega)]
     rw [this];exact hc j c hj
    | f y =>
     cases y with
     | agg cs =>
      have hs':T.size=cs.length:=by rw [hs,cells_f_len];rfl
      refine .f _ _ (.agg cs _ (by simp [hl,hs']) fun j c hj=>?_)
      have hjl:=glt hj
      have:vs.toArray.getD j undef=g j:=by simp [Array.getD_eq_getD_getElem?,hv j (by omega)]
      rw [this]
      have:=hc j (.f c) (by rw [cells_f,List.getElem?_map];show cs[j]?.map AV.f=_;rw [hj];rfl)
      cases this with
      | f _ _ h=>exact h
     | _=>cases hA
    | _=>cases hA
  ·obtain ⟨hle,h⟩:=h
   obtain ⟨vs,hl,hv⟩:=listOf g T.size i
   refine ⟨_,_,h,loadVar_agg hT ha hl fun j u hj=>?_,?_⟩
   ·have hjl:=glt hj
    rw [hv j (by omega)] at hj
    cases hj
    have:=List.getElem?_eq_getElem (l:=x.cells) (i:=i+j) (by omega)
    rw [Nat.add_assoc]
    exact hg _ _ this
   ·refine .agg _ _ (by simp [hl];omega) fun j c hj=>?_
    have hjl:=glt hj
    have hjT:j<T.size:=by simp at hjl;omega
    have:vs.toArray.getD j undef=g (i+j):=by simp [Array.getD_eq_getD_getElem?,hv j hjT]
    rw [this]
    rw [List.getElem?_take,if_pos hjT,List.getElem?_drop] at hj
    exact hc _ c hj
 ·rename_i ha
  obtain ⟨c,h1,h2⟩:=h
  exact ⟨c,_,h2,loadVar_one hT (by simpa using ha) (hg i c h1),hc i c h1⟩
end
def aload (T:TI) (H:List (Option AO)) (x:AV) (k:AV→Prop):Prop :=
 match x with
 | .ptr r sz i j=>∃o,H[r]?=some (some o)∧o.sz=sz∧∃e,o.es[i]?=some e∧ld T e j k
 | .f (.fp x j)=>ldF T x j fun v=>k (.f v)
 | _=>False
section
variable {P : Program} {X : Cx} {w : World} {F : Nat → Prop} {loc : Nat → Nat × Nat} {s : AS} {a : Act}
theorem aload_sound (R:RelF X F loc s a w) {t:TypeId} {T:TI} (hT:tI P t=some T) {x:AV} {y:Value} (hx:Rep w F loc s.H.length x y) {k:AV→Prop} (h:aload T s.H x k) :
  ∃v u,k v∧(Instr.loadAt t y).run P w=.ok u w∧Rep w F loc s.H.length v u:=by
 cases hx with
 | ptr r sz i j hr =>
  obtain ⟨o,ho,rfl,e,he,h⟩:=h
  obtain ⟨hu,vs,hv,_,hc⟩:=R.obj r o ho
  have hil:=glt he
  have hel:e.cells.length=o.sz:=(hu e (List.mem_of_getElem? he)).1
  have key:∀(j:Nat) c,e.cells[j]?=some c→∃u,vs[i*o.sz+j]?=some u∧Rep w F loc s.H.length c u:=fun j c hj=>by
   refine hc _ c ?_
   rw [flat_get hu (by have:=glt hj;omega),he]
   exact hj
  have h2:=ld_sound (P:=P) (w:=w) (F:=F) (loc:=loc) (N:=s.H.length) hT h (b:=(loc r).1) (off:=i*o.sz) (g:=fun j=>vs.getD (i*o.sz+j) undef) (fun j c hj=>by
   obtain ⟨u,h1,_⟩:=key j c hj
   unfold World.cell?
   rw [show w.heap[(⟨(loc r).1,i*o.sz+j,none⟩:Addr).block]?=_ from hv]
   simp only [Option.isSome_none,Bool.false_eq_true,if_false]
   rw [h1,Array.getD_eq_getD_getElem?,h1];rfl) (fun j c hj=>by
   obtain ⟨u,h1,h2⟩:=key j c hj
   rw [Array.getD_eq_getD_getElem?,h1];exact h2)
  obtain ⟨v,u,h3,h4,h5⟩:=h2
  exact ⟨v,u,h3,by simpa [Instr.loadAt,Instr.sureAddr] using h4,h5⟩
 | f x y hx =>
  cases hx with
  | fp x i b off hb g hg hc =>
   obtain ⟨v,u,h3,h4,h5⟩:=ldF_sound (P:=P) (w:=w) (F:=F) hT h hg hc
   exact ⟨_,u,h3,by simpa [Instr.loadAt,Instr.sureAddr] using h4,.f _ _ h5⟩
  | _=>cases h
 | _=>cases h
end
end

section
open Go Go.RowKit

def aFieldAddr (T:TI) (x:AV) (f:Nat) (k:AV→Prop):Prop :=
 match T.offs.getD f none,x with
 | some o,.ptr r sz i j=>k (.ptr r sz i (j+o))
 | some o,.f (.fp x j)=>k (.f (.fp x (j+o)))
 | _,_=>False
def aIndexAddr (S:TI) (x i:AV) (k:AV→Prop):Prop :=
 match x,i with
 | .own r sz off n,.f (.v (.int _ z))=>S.size=sz∧(0≤z∧z<n)∧k (.ptr r sz (off+z.toNat) 0)
 | .f (.fz sz es),.f (.v (.int _ z))=>S.size=sz∧0≤z∧∃x,es[z.toNat]?=some x∧k (.f (.fp x 0))
 | _,_=>False
def bound (d:Int):Option AV→Option Int
 | none=>some d
 | some (.f (.v (.int _ n)))=>some n
 | _=>none
def aSliceS (x:AV) (lo hi:Option AV) (k:AV→Prop):Prop :=
 match x with
 | .f (.v (.string s))=>match bound 0 lo,bound s.size hi with
  | some l,some h=>0≤l∧l≤h∧h≤s.size∧k (.f (.v (.string (s.extract l.toNat h.toNat))))
  | _,_=>False
 | _=>False
def aSlice (T:TI) (x:AV) (lo hi:Option AV) (k:AV→Prop):Prop :=
 match x with
 | .own r sz off n=>match bound 0 lo,bound n hi with
  | some l,some h=>T.size=sz∧0≤l∧l≤h∧h≤n∧(if l=0∨l<n then k (.own r sz (off+l.toNat) (h-l).toNat) else k (.f (.fz sz [])))
  | _,_=>False
 | .f (.fz sz es)=>match bound 0 lo,bound es.length hi with
  | some l,some h=>T.size=sz∧0≤l∧l≤h∧h≤es.length∧k (.f (.fz sz ((es.drop l.toNat).take (h-l).toNat)))
  | _,_=>False
 | _=>False
def aLen (x:AV) (k:AV→Prop):Prop :=
 match x with
 | .own _ _ _ n=>k (.f (.v (.int .i64 n)))
 | .f (.fz _ es)=>k (.f (.v (.int .i64 es.length)))
 | .f (.v (.slice _ n _))=>k (.f (.v (.int .i64 n)))
 | _=>False
def vals:List FV→Option (List Value)
 | []=>some []
 | .v x::cs=>(vals cs).map (x::·)
 | _::_=>none
def FV.val:FV→Option Value
 | .v x=>some x
 | .agg cs=>(vals cs).map fun l=>.agg l.toArray
 | _=>none
def abin (op:BinOp) (x y:Value):Option Value :=
 match x,y with
 | .int k a,.int k' b=>if k=k' then (match op with
  | .add=>some (.int k (k.wrap (a+b)))|.sub=>some (.int k (k.wrap (a-b)))|.mul=>some (.int k (k.wrap (a*b)))
  | .eql=>some (.bool (decide (a=b)))|.neq=>some (.bool (!decide (a=b)))|.lss=>some (.bool (decide (a<b)))|.leq=>some (.bool (decide (a≤b)))|.gtr=>some (.bool (decide (b<a)))|.geq=>some (.bool (decide (b≤a)))
  | _=>none) else none
 | .string a,.string b=>match op with
  | .eql=>some (.bool (decide (a=b)))|.neq=>some (.bool (!decide (a=b)))|_=>none
 | _,_=>none
def aDiv (op:BinOp) (k:IntKind) (a b:Int) (K:AV→Prop):Prop :=
 match op with
 | .quo=>b≠0∧K (.f (.v (.int k (k.wrap (a.tdiv b)))))
 | .rem=>b≠0∧K (.f (.v (.int k (a.tmod b))))
 | _=>False
def aNil (op:BinOp) (b:Bool) (K:AV→Prop):Prop :=
 match op with
 | .eql=>K (.f (.v (.bool b)))
 | .neq=>K (.f (.v (.bool (!b))))
 | _=>False
def aBin (P:Program) (op:BinOp) (t:TypeId) (X Y:Operand) (x y:AV) (K:AV→Prop):Prop :=
 match x,y with
 | .f (.v (.int k a)),.f (.v (.int k' b))=>match op with
  | .add|.sub|.mul|.eql|.neq|.lss|.leq|.gtr|.geq=>match abin op (.int k a) (.int k' b) with|some r=>K (.f (.v r))|none=>False
  | .quo|.rem=>k=k'∧aDiv op k a b K
  | .and|.or|.xor|.andNot=>k=k'∧K (.f (.v (.int k (bits op k a b))))
  | .shl=>0≤b∧K (.f (.v (.int k (k.wrap (a*2^min b.toNat k.bits)))))
  | .shr=>0≤b∧K (.f (.v (.int k (a.fdiv (2^min b.toNat k.bits)))))
 | .f (.v (.string a)),.f (.v (.string b))=>match op with
  | .eql|.neq=>match abin op (.string a) (.string b) with|some r=>K (.f (.v r))|none=>False
  | .add=>a.size+b.size≤9223372036854775807∧K (.f (.v (.string (a++b))))
  | _=>False
 | .f (.fz _ (_::_)),.f (.v (.slice none 0 0))=>(tS P t).isSome=true∧aNil op false K
 | .own _ _ _ _,.f (.v (.slice none 0 0))=>(tS P t).isSome=true∧aNil op false K
 | .f x,.f y=>∃u v r,x.val=some u∧y.val=some v∧(∀w:World,(do eqGuard op t X Y u v;binOp op t u v).run P w=.ok (.bool r) w)∧K (.f (.v (.bool r)))
 | _,_=>False
def aUn (op:UnOp) (x:AV) (K:AV→Prop):Prop :=
 match op,x with
 | .not,.f (.v (.bool b))=>K (.f (.v (.bool (!b))))
 | .neg,.f (.v (.int k n))=>K (.f (.v (.int k (k.wrap (0-n)))))
 | .xor,.f (.v (.int k n))=>K (.f (.v (.int k (bits .xor k (if k.signed then -1 else k.max) n))))
 | _,_=>False
def aConv (P:Program) (src dst:TypeId) (x:AV) (K:AV→Prop):Prop :=
 match x with
 | .f (.v (.string s))=>(tI P dst).any (·.str)=true∧(tI P src).any (·.str)=true∧K (.f (.v (.string s)))
 | .f x=>∃u r,x.val=some u∧(∀w:World,(convert src dst u).run P w=.ok r w)∧K (.f (.ofV r))
 | _=>False
def aIndex (T:TI) (x i:AV) (K:AV→Prop):Prop :=
 match x,i with
 | .f (.v (.string s)),.f (.v (.int _ n))=>T.str=true∧(0≤n∧n<s.size)∧K (.f (.v (.int .u8 (s.data.toList.getD n.toNat 0).toNat)))
 | _,_=>False
def aExtract (x:AV) (i:Nat) (K:AV→Prop):Prop :=
 match x with
 | .tup cs=>∃c,cs[i]?=some c∧K c
 | .f (.tup cs)=>∃c,cs[i]?=some c∧K (.f c)
 | _=>False
def setR (cs:List AV) (o:Nat) (ds:List AV):List AV:=cs.take o++(ds++cs.drop (o+ds.length))
def allF:List AV→Option (List FV)
 | []=>some []
 | .f x::l=>(allF l).map (x::·)
 | _=>none
def mkA (cs:List AV):AV:=match allF cs with|some ds=>.f (.agg ds)|none=>.agg cs
theorem allF_eq:∀{cs:List AV} {ds:List FV},allF cs=some ds→cs=ds.map .f
 | [],ds,h=>by cases h;rfl
 | .f x::l,ds,h=>by
  unfold allF at h
  cases hl:allF l with
  | none=>rw [hl] at h;cases h
  | some ys=>rw [hl] at h;cases h;rw [allF_eq hl];rfl
 | .any::_,ds,h=>by cases h
 | .one::_,ds,h=>by cases h
 | .agg _::_,ds,h=>by cases h
 | .tup _::_,ds,h=>by cases h
 | .own ..::_,ds,h=>by cases h
 | .ptr ..::_,ds,h=>by cases h
 | .fn ..::_,ds,h=>by cases h
theorem mkA_rep {w:World} {F:Nat→Prop} {loc:Nat→Nat × Nat} {N:Nat} {cs:List AV} {v:Value} (h:Rep w F loc N (.agg cs) v):Rep w F loc N (mkA cs) v:=by
 unfold mkA
 cases ha:allF cs with
 | none=>exact h
 | some ds =>
  obtain rfl:=allF_eq ha
  cases h with
  | agg _ vs hl hc =>
   refine .f _ _ (.agg ds vs (by simpa using hl) fun j c hj=>?_)
   have:=hc j (.f c) (by rw [List.getElem?_map,hj];rfl)
   cases this with|f _ _ h=>exact h
theorem mkA_cells (cs:List AV):(mkA cs).cells=cs:=by
 unfold mkA
 cases ha:allF cs with
 | none=>rfl
 | some ds=>exact (allF_eq ha).symm
theorem mkA_st {cs:List AV} (h:(AV.agg cs).st=true):(mkA cs).st=true:=by
 unfold mkA
 cases ha:allF cs with
 | none=>exact h
 | some ds =>
  obtain rfl:=allF_eq ha
  replace h:(ds.map AV.f).all AV.oc=true:=h
  rw [List.all_map] at h
  exact h
def fillA (T:TI) (cs:List AV):List (Nat × AV)→Option (List AV)
 | []=>some cs
 | (i,x)::rest=>match T.offs.getD i none with
  | some o=>if x.st=true∧x.cells.length=T.fsz.getD i 0∧o+x.cells.length≤cs.length then fillA T (setR cs o x.cells) rest else none
  | none=>none

section
variable {P : Program} {X : Cx} {w : World} {F : Nat → Prop} {loc : Nat → Nat × Nat} {N : Nat}
theorem aFieldAddr_sound {t:TypeId} {T:TI} (hT:tI P t=some T) {x:AV} {y:Value} (hx:Rep w F loc N x y) {f:Nat} {k:AV→Prop} (h:aFieldAddr T x f k) :
  ∃v u,k v∧(Instr.fieldAt t y f).run P w=.ok u w∧Rep w F loc N v u:=by
 obtain ⟨i,d,hi,hd,_,_,_,_,ho,_,_⟩:=tI_info hT
 unfold aFieldAddr at h
 have key:∀o,T.offs.getD f none=some o→∀b p,(Instr.fieldAt t (.pointer (some ⟨b,p,none⟩)) f).run P w=.ok (.pointer (some ⟨b,p+o,none⟩)) w:=fun o hf b p=>by
  rw [ho] at hf
  cases d with
  | struct fs =>
   simp only [List.getD_eq_getElem?_getD,List.getElem?_map,Array.getElem?_toList] at hf
   cases hfs:fs[f]? with
   | none=>rw [hfs] at hf;cases hf
   | some fl =>
    rw [hfs] at hf
    simp only [Option.map_some,Option.getD_some] at hf
    cases hj:P.info? fl.type with
    | none=>rw [hj] at hf;cases hf
    | some jj =>
     rw [hj] at hf
     simp only at hf
     split at hf
     ·cases hf
     ·rename_i hne
      cases hf
      simp [Instr.fieldAt,run_underlying hd,hfs,Instr.sureAddr,fieldPlace,Go.sizeOf,typeInfo,hj,hne,addr_add]
  | _=>simp at hf
 split at h
 ·rename_i o r sz i j hf
  cases hx with
  | ptr _ _ _ _ hr=>exact ⟨_,_,h,key o hf _ _,by rw [Nat.add_assoc];exact .ptr r sz i (j+o) hr⟩
 ·rename_i o x j hf
  cases hx with
  | f _ _ hx =>
   cases hx with
   | fp _ _ b off hF g hg hc=>exact ⟨_,_,h,key o hf _ _,.f _ _ (by rw [Nat.add_assoc];exact .fp x (j+o) b off hF g hg hc)⟩
 ·cases h
theorem int_rep {k:IntKind} {z:Int} {y:Value} (h:Rep w F loc N (.f (.v (.int k z))) y):y=.int k z:=by cases h with|f _ _ h=>cases h;rfl
theorem aIndexAddr_sound {t e:TypeId} {T:TI} (hT:tS P t=some (e,T)) {x i:AV} {y z:Value} (hx:Rep w F loc N x y) (hi:Rep w F loc N i z) {k:AV→Prop} (h:aIndexAddr T x i k) :
  ∃v u,k v∧(Instr.indexAt t y z).run P w=.ok u w∧Rep w F loc N v u:=by
 obtain ⟨hu,hE⟩:=tS_elem hT
 unfold aIndexAddr at h
 have key:∀(b p n c:Nat) (kd:IntKind) (q:Int),0≤q→q<(n:Int)→(Instr.indexAt t (.slice (some ⟨b,p,none⟩) n c) (.int kd q)).run P w=.ok (.pointer (some ⟨b,p+q.toNat*T.size,none⟩)) w:=fun b p n c kd q h0 h1=>by
  simp [Instr.indexAt,asIntOf,run_underlying hu,h0,h1,tI_size hE,addr_add]
 split at h
 ·rename_i r sz off n kd z'
  obtain ⟨rfl,⟨h0,h1⟩,hk⟩:=h
  have:=int_rep hi;subst this
  cases hx with
  | own _ _ _ _ cap hr hkc hm hs =>
   refine ⟨_,_,hk,key _ _ _ _ _ _ h0 h1,?_⟩
   have:=Rep.ptr (w:=w) (F:=F) (loc:=loc) r T.size (off+z'.toNat) 0 hr
   rwa [Nat.add_zero,Nat.add_mul] at this
 ·rename_i sz es kd z'
  obtain ⟨rfl,h0,c,hc,hk⟩:=h
  have:=int_rep hi;subst this
  have hl:=glt hc
  cases hx with
  | f _ _ hx =>
   cases hx with
   | fz0=>simp at hl
   | fz _ _ b off cap hF hn hm hun g hg hcc =>
    refine ⟨_,_,hk,key _ _ _ _ _ _ h0 (by omega),.f _ _ ?_⟩
    have hce:=(hun c (List.mem_of_getElem? hc)).1
    have hfl:∀(j:Nat) d,c.cells[j]?=some d→(flatF es)[z'.toNat*T.size+j]?=some d:=fun j d hd=>by
     have h1:(flat (es.map AV.f))[z'.toNat*T.size+j]?=some (.f d):=by
      rw [flat_get (uni_f.2 hun) (by have:=glt hd;omega),List.getElem?_map,hc]
      show (c.cells.map AV.f)[j]?=_
      rw [List.getElem?_map,hd];rfl
     rw [flat_f,List.getElem?_map] at h1
     cases h2:(flatF es)[z'.toNat*T.size+j]? with
     | none=>rw [h2] at h1;cases h1
     | some d'=>rw [h2] at h1;simpa using h1
    have:=RepF.fp (w:=w) (F:=F) c 0 b (off+z'.toNat*T.size) hF (fun j=>g (z'.toNat*T.size+j)) (fun j d hd=>by rw [Nat.add_assoc];exact hg _ d (hfl j d hd)) (fun j d hd=>hcc _ d (hfl j d hd))
    rwa [Nat.add_zero] at this
 ·cases h
theorem bound_rep {d:Int} {o:Option AV} {p:Option Value} {n:Int} (h:bound d o=some n) (hp:∀x,o=some x→∃y,p=some y∧Rep w F loc N x y) (hn:o=none→p=none):(p=none∧n=d)∨∃k,p=some (.int k n):=by
 cases o with
 | none=>cases h;exact .inl ⟨hn rfl,rfl⟩
 | some x =>
  obtain ⟨y,rfl,hr⟩:=hp x rfl
  unfold bound at h
  split at h
  ·rename_i e;cases e
  ·rename_i k m e;cases h;cases e;exact .inr ⟨k,by rw [int_rep hr]⟩
  ·cases h
theorem run_bounds (is:Bool) (len cap:Nat) {p q:Option Value} {l h:Int} (hp:(p=none∧l=0)∨∃k,p=some (.int k l)) (hq:(q=none∧h=len)∨∃k,q=some (.int k h)) (h0:0≤l) (h1:l≤h) (h2:h≤len) (h3:len≤cap) :
  (Instr.sliceBounds is len cap p q none).run P w=.ok (l.toNat,h.toNat,cap) w:=by
 have e1:∀(k:IntKind) (i:Int) (y:Nat) c,0≤i→i≤y→(Instr.sliceBound (.int k i) y c).run P w=.ok i.toNat w:=fun k i y c a b=>run_sliceBound w k i y c a b
 rcases hp with ⟨rfl,rfl⟩|⟨k,rfl⟩<;>rcases hq with ⟨rfl,rfl⟩|⟨k',rfl⟩
 ·simp [Instr.sliceBounds]
 ·simp [Instr.sliceBounds,e1 _ h cap _ (by omega) (by omega)]
 ·simp [Instr.sliceBounds,e1 _ l len _ h0 (by omega)]
 ·simp [Instr.sliceBounds,e1 _ h cap _ (by omega) (by omega),e1 _ l h.toNat _ h0 (by omega)]
theorem aSliceS_sound {t:TypeId} (hu:P.underlying t=some .string) {x:AV} {y:Value} (hx:Rep w F loc N x y)
  {lo hi:Option AV} {p q:Option Value} (hp:∀z,lo=some z→∃u,p=some u∧Rep w F loc N z u) (hp':lo=none→p=none) (hq:∀z,hi=some z→∃u,q=some u∧Rep w F loc N z u) (hq':hi=none→q=none) {k:AV→Prop} (h:aSliceS x lo hi k) :
  ∃v u,k v∧(Instr.sliceAt t y p q none).run P w=.ok u w∧Rep w F loc N v u:=by
 unfold aSliceS at h
 split at h
 ·rename_i s
  split at h
  ·rename_i l hh e1 e2
   obtain ⟨h0,h1,h2,hk⟩:=h
   cases hx with
   | f _ _ hx =>
    cases hx
    refine ⟨_,_,hk,?_,.f _ _ (.v _)⟩
    rw [run_sliceAt_string w t _ _ _ _ hu]
    simp [Instr.slice,run_underlying hu,run_bounds (P:=P) (w:=w) false s.size s.size (bound_rep e1 hp hp') (bound_rep e2 hq hq') h0 h1 h2 (Nat.le_refl _)]
  ·cases h
 ·cases h
theorem aSlice_sound {t e:TypeId} {T:TI} (hT:tS P t=some (e,T)) {x:AV} {y:Value} (hx:Rep w F loc N x y)
  {lo hi:Option AV} {p q:Option Value} (hp:∀z,lo=some z→∃u,p=some u∧Rep w F loc N z u) (hp':lo=none→p=none) (hq:∀z,hi=some z→∃u,q=some u∧Rep w F loc N z u) (hq':hi=none→q=none) {k:AV→Prop} (h:aSlice T x lo hi k) :
  ∃v u,k v∧(Instr.sliceAt t y p q none).run P w=.ok u w∧Rep w F loc N v u:=by
 unfold aSlice at h
 split at h
 ·rename_i r sz off n
  split at h
  ·rename_i l hh e1 e2
   obtain ⟨rfl,h0,h1,h2,hk⟩:=h
   obtain ⟨hu,hE⟩:=tS_elem hT
   have hel:P.elem t=e:=by simp [Program.elem,hu]
   have hu':P.underlying t=some (.slice (P.elem t)):=by rw [hel];exact hu
   cases hx with
   | own _ _ _ _ cap hr hkc hm hs =>
    have hrun:(Instr.sliceAt t (.slice (some ⟨(loc r).1,off*T.size,none⟩) n cap) p q none).run P w=.ok (sliced (some ⟨(loc r).1,off*T.size,none⟩) l.toNat hh.toNat cap T.size) w:=by
     rw [run_sliceAt_slice w t _ _ _ _ hu',run_slice_any w t _ _ _ hu',run_bounds (P:=P) (w:=w) true n cap (bound_rep e1 hp hp') (bound_rep e2 hq hq') h0 h1 h2 hkc]
     simp [hel,tI_size hE]
    split at hk
    ·rename_i hc
     refine ⟨_,_,hk,hrun,?_⟩
     have hcl:cap=l.toNat→l.toNat=0:=fun e=>by rcases hc with hc|hc<;>omega
     unfold sliced
     have e3:(hh-l).toNat=hh.toNat-l.toNat:=by omega
     by_cases hz:l.toNat=0
     ·rw [hz,Nat.add_zero,e3,hz,Nat.sub_zero,Nat.sub_zero]
      have:∀ad:Addr,(if cap=0 then some ad else (some ad).map (fun x:Addr=>x.add (0*T.size)))=some ad:=fun ad=>by split<;>simp [Addr.add]
      rw [this]
      exact .own r T.size off _ cap hr (by omega) hm hs
     ·rw [if_neg (fun e=>hz (hcl e)),e3]
      simp only [Option.map_some,addr_add]
      have:=Rep.own (w:=w) (F:=F) (loc:=loc) r T.size (off+l.toNat) (hh.toNat-l.toNat) (cap-l.toNat) hr (by omega) (by omega) (by rw [hs];congr 1;omega)
      rwa [Nat.add_mul] at this
    ·rename_i hc
     refine ⟨_,_,hk,hrun,.f _ _ ?_⟩
     unfold sliced
     have:hh.toNat-l.toNat=0:=by omega
     rw [this]
     exact .fz0 _ _ _ (by omega)
  ·cases h
 ·rename_i sz es
  split at h
  ·rename_i l hh e1 e2
   obtain ⟨rfl,h0,h1,h2,hk⟩:=h
   obtain ⟨hu,hE⟩:=tS_elem hT
   have hel:P.elem t=e:=by simp [Program.elem,hu]
   have hu':P.underlying t=some (.slice (P.elem t)):=by rw [hel];exact hu
   cases hx with
   | f _ _ hx =>
    cases hx with
    | fz0 _ ad cap hm =>
     have hl0:l=0:=by simp at h2;omega
     have hh0:hh=0:=by simp at h2;omega
     subst hl0;subst hh0
     refine ⟨_,_,hk,?_,.f _ _ (.fz0 _ (sliced ad 0 0 cap T.size |> fun v=>match v with|.slice a _ _=>a|_=>none) cap hm)⟩
     rw [run_sliceAt_slice w t _ _ _ _ hu',run_slice_any w t _ _ _ hu',run_bounds (P:=P) (w:=w) true 0 cap (bound_rep e1 hp hp') (bound_rep e2 hq hq') h0 h1 h2 (Nat.zero_le _)]
     simp [hel,tI_size hE,sliced]
    | fz _ _ b off cap hF hn hm hun g hg hcc =>
     have hrun:(Instr.sliceAt t (.slice (some ⟨b,off,none⟩) es.length cap) p q none).run P w=.ok (sliced (some ⟨b,off,none⟩) l.toNat hh.toNat cap T.size) w:=by
      rw [run_sliceAt_slice w t _ _ _ _ hu',run_slice_any w t _ _ _ hu',run_bounds (P:=P) (w:=w) true es.length cap (bound_rep e1 hp hp') (bound_rep e2 hq hq') h0 h1 h2 hn]
      simp [hel,tI_size hE]
     refine ⟨_,_,hk,hrun,.f _ _ ?_⟩
     unfold sliced
     by_cases hz:hh.toNat-l.toNat=0
     ·have:(hh-l).toNat=0:=by omega
      rw [hz,this,List.take_zero]
      exact .fz0 _ _ _ (by omega)
     ·have hne:cap≠l.toNat:=by omega
      rw [if_neg hne]
      simp only [Option.map_some,addr_add]
      have hlen:((es.drop l.toNat).take (hh-l).toNat).length=hh.toNat-l.toNat:=by simp;omega
      have hfl:flatF ((es.drop l.toNat).take (hh-l).toNat)=((flatF es).drop (l.toNat*T.size)).take ((hh-l).toNat*T.size):=by
       have h1:=flat_take ((uni_f.2 hun).drop l.toNat) (hh-l).toNat
       rw [flat_drop (uni_f.2 hun),←List.map_drop,←List.map_take,flat_f,flat_f,←List.map_drop,←List.map_take] at h1
       have inj:∀a b:List FV,a.map AV.f=b.map AV.f→a=b:=fun a b e=>by
        exact (List.map_inj_right (fun x y h=>by injection h)).1 e
       exact inj _ _ h1
      have:=RepF.fz (w:=w) (F:=F) T.size ((es.drop l.toNat).take (hh-l).toNat) b (off+l.toNat*T.size) (cap-l.toNat) hF (by omega) (by omega) (fun e he=>hun e (List.mem_of_mem_drop (List.mem_of_mem_take he)))
       (fun j=>g (l.toNat*T.size+j)) (fun j c hj=>by
        rw [hfl,List.getElem?_take] at hj
        split at hj
        ·rw [List.getElem?_drop] at hj;rw [Nat.add_assoc];exact hg _ c hj
        ·cases hj) (fun j c hj=>by
        rw [hfl,List.getElem?_take] at hj
        split at hj
        ·rw [List.getElem?_drop] at hj;exact hcc _ c hj
        ·cases hj)
      rwa [hlen] at this
  ·cases h
 ·cases h
end
end

section
open Go Go.RowKit

def fieldsOk (P:Program) (t:TypeId):Bool :=
 match P.underlying t with
 | some (.struct fs)=>fs.toList.all fun f=>(P.info? f.type).isSome
 | _=>false
def lenOk (P:Program) (t:TypeId) (x:AV):Bool :=
 match x with
 | .f (.v (.string _))=>(tI P t).any (·.str)
 | _=>(tS P t).isSome
def aLenS (x:AV) (k:AV→Prop):Prop :=
 match x with
 | .f (.v (.string s))=>k (.f (.v (.int .i64 s.size)))
 | x=>aLen x k
def aPick (t:Bool) (a b:AV) (k:AV→Prop):Prop :=
 match a,b with
 | .f (.v (.bool p)),.f (.v (.bool q))=>k (.f (.v (.bool (bif t then p else q))))
 | a,b=>if t=true then k a else k b
def apure (P:Program) (op:Op) (ρ:Operand→AV) (k:AV→Prop):Prop :=
 match op with
 | .move x|.assign x=>k (ρ x)
 | .pick c a b=>match ρ c with|.f (.v (.bool t))=>aPick t (ρ a) (ρ b) k|_=>False
 | .binOp op t x y _=>aBin P op t x y (ρ x) (ρ y) k
 | .unOp op _ x=>aUn op (ρ x) k
 | .convert s d x=>aConv P s d (ρ x) k
 | .fieldAddr t x f=>match tI P t with|some T=>aFieldAddr T (ρ x) f k|none=>False
 | .indexAddr t x i=>match tS P t with|some T=>aIndexAddr T.2 (ρ x) (ρ i) k|none=>False
 | .index t x i=>match tI P t with|some T=>aIndex T (ρ x) (ρ i) k|none=>False
 | .slice t x lo hi none=>match tS P t with|some T=>aSlice T.2 (ρ x) (lo.map ρ) (hi.map ρ) k|none=>(tI P t).any (·.str)=true∧aSliceS (ρ x) (lo.map ρ) (hi.map ρ) k
 | .extract x i=>aExtract (ρ x) i k
 | .makeFunc (.func f) a b=>k (.fn f (a.toList.map ρ) (b.toList.map ρ))
 | .build t ps=>match tI P t with
  | some T=>match T.zero with
   | some z=>T.agg=true∧fieldsOk P t=true∧z.isA=true∧(if ps.size=0 then k (.f z) else ∃cs,fillA T (z.cells.map .f) (ps.toList.map fun p=>(p.1,ρ p.2))=some cs∧k (mkA cs))
   | none=>False
  | none=>False
 | .nilCheck x=>match ρ x with|.ptr r sz i j=>k (.ptr r sz i j)|.f (.fp x j)=>k (.f (.fp x j))|_=>False
 | .call { callee:=.builtin .len,args:=args,argTypes:=ts }=>match args.toList,ts.toList with
  | [x],[t]=>lenOk P t (ρ x)=true∧aLenS (ρ x) k
  | _,_=>False
 | _=>False

section
variable {P : Program} {X : Cx} {w : World} {F : Nat → Prop} {loc : Nat → Nat × Nat} {N : Nat}
theorem aLen_sound {t ty:TypeId} {x:AV} {y:Value} (hx:Rep w F loc N x y) {k:AV→Prop} (h1:lenOk P t x=true) (h:aLenS x k) :
  ∃v u,k v∧(Builtin.len_ #[t] ty #[y]).run P w=.ok u w∧Rep w F loc N v u:=by
 have sl:(tS P t).isSome=true→∀(a:Option Addr) (n c:Nat),(Builtin.len_ #[t] ty #[.slice a n c]).run P w=.ok (.int .i64 n) w:=fun hs a n c=>by
  obtain ⟨⟨e,T⟩,hT⟩:=Option.isSome_iff_exists.1 hs
  obtain ⟨hu,_⟩:=tS_elem hT
  have hel:P.elem t=e:=by simp [Program.elem,hu]
  exact run_len_slice w t ty a n c (by rw [hel];exact hu)
 unfold aLenS at h
 split at h
 ·rename_i s
  cases hx with
  | f _ _ hx =>
   cases hx
   unfold lenOk at h1
   cases hT:tI P t with
   | none=>rw [hT] at h1;cases h1
   | some T =>
    rw [hT] at h1
    exact ⟨_,_,h,run_len_string w t ty s (tI_str hT (by simpa using h1)),.f _ _ (.v _)⟩
 ·rename_i hne
  have hs:(tS P t).isSome=true:=by
   unfold lenOk at h1
   split at h1
   ·exact absurd rfl (hne _)
   ·exact h1
  unfold aLen at h
  split at h
  ·cases hx with
   | own=>exact ⟨_,_,h,sl hs _ _ _,.f _ _ (.v _)⟩
  ·cases hx with
   | f _ _ hx =>
    cases hx with
    | fz0=>exact ⟨_,_,h,sl hs _ _ _,.f _ _ (.v _)⟩
    | fz=>exact ⟨_,_,h,sl hs _ _ _,.f _ _ (.v _)⟩
  ·cases hx with
   | f _ _ hx=>cases hx;exact ⟨_,_,h,sl hs _ _ _,.f _ _ (.v _)⟩
  ·cases h
theorem str_dec (a b:ByteArray):(a.toList==b.toList)=decide (a=b):=by
 rw [←beq_toListBytes]
 obtain ⟨⟨x⟩⟩:=a
 obtain ⟨⟨y⟩⟩:=b
 show ((⟨x⟩:Array UInt8)==⟨y⟩)=_
 by_cases h:x=y
 ·subst h;simp
 ·have:¬(⟨⟨x⟩⟩:ByteArray)=⟨⟨y⟩⟩:=fun e=>h (by injection e with e;injection e)
  simp [h]
theorem vals_rep {cs:List FV} {l:List Value} (h:vals cs=some l) (vs:Array Value) (hl:cs.length=vs.size) (hc:∀(j:Nat) c,cs[j]?=some c→RepF w F c (vs.getD j undef)):vs.toList=l:=by
 obtain ⟨m⟩:=vs
 simp only [List.size_toArray] at hl
 show m=l
 induction cs generalizing l m with
 | nil=>cases h;exact List.eq_nil_of_length_eq_zero (by simpa using hl.symm)
 | cons c cs ih =>
  cases m with
  | nil=>simp at hl
  | cons u m =>
   have h0:=hc 0 c rfl
   cases c with
   | v x =>
    unfold vals at h
    cases hv:vals cs with
    | none=>rw [hv] at h;cases h
    | some l' =>
     rw [hv] at h
     cases h
     have:u=x:=by
      have e:(u::m).toArray.getD 0 undef=u:=rfl
      rw [e] at h0;cases h0;rfl
     subst this
     rw [ih hv m (fun j c hj=>?_) (by simpa using hl)]
     have:=hc (j+1) c (by simpa using hj)
     have e:(u::m).toArray.getD (j+1) undef=m.toArray.getD j undef:=by simp [Array.getD_eq_getD_getElem?]
     rwa [e] at this
   | _=>cases h
theorem val_rep {x:FV} {u y:Value} (h:x.val=some u) (hr:RepF w F x y):y=u:=by
 cases hr with
 | v x=>simpa [FV.val] using h
 | agg cs vs hl hc =>
  replace h:(vals cs).map (fun l=>Value.agg l.toArray)=some u:=h
  cases hv:vals cs with
  | none=>rw [hv] at h;cases h
  | some l =>
   rw [hv] at h
   cases h
   have:=vals_rep hv vs hl hc
   rw [←this]
 | _=>cases h
theorem run_nilS {w:World} {t:TypeId} (hS:(tS P t).isSome=true) {A B:Operand} {a:Addr} {n c:Nat} {op:BinOp} {k:AV→Prop} (h:aNil op false k) :
  ∃v b,k v∧v=.f (.v (.bool b))∧(do eqGuard op t A B (.slice (some a) n c) (.slice none 0 0);binOp op t (.slice (some a) n c) (.slice none 0 0):Sem Value).run P w=.ok (.bool b) w:=by
 obtain ⟨⟨e,T⟩,hT⟩:=Option.isSome_iff_exists.1 hS
 have hU:=(tS_elem hT).1
 have he:(Op.equal t (.slice (some a) n c) (.slice none 0 0)).run P w=.ok false w:=by
  unfold Op.equal
  show (Op.equalIn (_+1) t _ _).run P w=_
  unfold Op.equalIn
  simp only [Sem.run_bind,run_underlying hU,Result.andThen_ok]
  rfl
 unfold aNil at h
 split at h
 ·refine ⟨_,false,h,rfl,?_⟩
  have hg:(eqGuard .eql t A B (.slice (some a) n c) (.slice none 0 0)).run P w=.ok () w:=rfl
  rw [Sem.run_bind,hg,Result.andThen_ok]
  simp only [binOp]
  simp [he]
 ·refine ⟨_,true,h,rfl,?_⟩
  have hg:(eqGuard .neq t A B (.slice (some a) n c) (.slice none 0 0)).run P w=.ok () w:=rfl
  rw [Sem.run_bind,hg,Result.andThen_ok]
  simp only [binOp]
  simp [he]
 ·exact h.elim
theorem aBin_sound {op:BinOp} {t:TypeId} {A B:Operand} {x y:AV} {a b:Value} (hx:Rep w F loc N x a) (hy:Rep w F loc N y b) {k:AV→Prop} (h:aBin P op t A B x y k) :
  ∃v u,k v∧(do eqGuard op t A B a b;binOp op t a b:Sem Value).run P w=.ok u w∧Rep w F loc N v u:=by
 unfold aBin at h
 split at h
 ·rename_i kd p kd' q
  have:=int_rep hx;subst this
  have:=int_rep hy;subst this
  have hg:∀op,(eqGuard op t A B (.int kd p) (.int kd' q)).run P w=.ok () w:=fun op=>by unfold eqGuard;cases op<;>rfl
  have hb:∀{r:Value},abin op (.int kd p) (.int kd' q)=some r→(do eqGuard op t A B (.int kd p) (.int kd' q);binOp op t (.int kd p) (.int kd' q):Sem Value).run P w=.ok r w:=fun {r} e=>by
   rw [Sem.run_bind,hg,Result.andThen_ok]
   unfold abin at e
   simp only at e
   split at e
   ·rename_i hk
    subst hk
    cases op<;>simp only [Option.some.injEq,reduceCtorEq] at e<;>subst e<;>simp [binOp,Op.intArith,Op.intCmp,bne]<;>first|rfl|(congr 1)
   ·cases e
  split at h
  iterate 9
   ·split at h
    ·rename_i r e;exact ⟨_,_,h,hb e,.f _ _ (.v _)⟩
    ·cases h
  iterate 2
   ·obtain ⟨rfl,h⟩:=h
    unfold aDiv at h
    simp only at h
    obtain ⟨h0,hk⟩:=h
    refine ⟨_,_,hk,?_,.f _ _ (.v _)⟩
    rw [Sem.run_bind,hg,Result.andThen_ok]
    simp [binOp,Op.intDiv,h0]
  iterate 4
   ·obtain ⟨rfl,hk⟩:=h
    refine ⟨_,_,hk,?_,.f _ _ (.v _)⟩
    rw [Sem.run_bind,hg,Result.andThen_ok]
    simp [binOp,Op.intBits,bits]
  iterate 2
   ·obtain ⟨h0,hk⟩:=h
    refine ⟨_,_,hk,?_,.f _ _ (.v _)⟩
    rw [Sem.run_bind,hg,Result.andThen_ok]
    have:¬q<0:=by omega
    simp [binOp,Op.shift,this]
 ·rename_i p q
  cases hx with
  | f _ _ hx =>
   cases hy with
   | f _ _ hy =>
    cases hx;cases hy
    have hg:(eqGuard op t A B (.string p) (.string q)).run P w=.ok () w:=by unfold eqGuard;cases op<;>rfl
    split at h
    iterate 2
     ·split at h
      ·rename_i r e
       refine ⟨_,_,h,?_,.f _ _ (.v _)⟩
       rw [Sem.run_bind,hg,Result.andThen_ok]
       simp only [abin,Option.some.injEq] at e
       subst e
       simp [binOp,Op.stringOp,str_dec]
      ·cases h
    ·obtain ⟨h0,hk⟩:=h
     refine ⟨_,_,hk,?_,.f _ _ (.v _)⟩
     rw [Sem.run_bind,hg,Result.andThen_ok]
     have:¬((p.size+q.size:Nat):Int)>IntKind.i64.max:=by
      have:IntKind.i64.max=9223372036854775807:=by decide
      rw [this];omega
     simp only [binOp,Op.stringOp]
     rw [if_neg this];rfl
    ·cases h
 ·obtain ⟨hS,h⟩:=h
  cases hx with
  | f _ _ hx =>
   cases hy with
   | f _ _ hy =>
    cases hy
    cases hx with
    | fz _ _ b off cap _ _ _ _ _ _ _ =>
     obtain ⟨v,r,h1,rfl,h2⟩:=run_nilS (w:=w) hS (A:=A) (B:=B) (a:=⟨b,off,none⟩) (n:=_) (c:=cap) h
     exact ⟨_,_,h1,h2,.f _ _ (.v _)⟩
 ·obtain ⟨hS,h⟩:=h
  cases hy with
  | f _ _ hy =>
   cases hy
   cases hx with
   | own _ _ _ _ cap _ _ _ _ =>
    obtain ⟨v,r,h1,rfl,h2⟩:=run_nilS (w:=w) hS (A:=A) (B:=B) h
    exact ⟨_,_,h1,h2,.f _ _ (.v _)⟩
 ·cases hx with
  | f _ _ hx =>
   cases hy with
   | f _ _ hy =>
    obtain ⟨u,v,r,e1,e2,hr,hk⟩:=h
    have:=val_rep e1 hx;subst this
    have:=val_rep e2 hy;subst this
    exact ⟨_,_,hk,hr w,.f _ _ (.v _)⟩
 ·cases h
theorem aUn_sound {op:UnOp} {x:AV} {a:Value} (hx:Rep w F loc N x a) {k:AV→Prop} (h:aUn op x k) :
  ∃v u,k v∧(Op.unary op a).run P w=.ok u w∧Rep w F loc N v u:=by
 unfold aUn at h
 split at h
 ·cases hx with|f _ _ hx=>cases hx;exact ⟨_,_,h,rfl,.f _ _ (.v _)⟩
 ·have:=int_rep hx;subst this;exact ⟨_,_,h,rfl,.f _ _ (.v _)⟩
 ·have:=int_rep hx;subst this;exact ⟨_,_,h,rfl,.f _ _ (.v _)⟩
 ·cases h
theorem aConv_sound {s d:TypeId} {x:AV} {a:Value} (hx:Rep w F loc N x a) {k:AV→Prop} (h:aConv P s d x k) :
  ∃v u,k v∧(convert s d a).run P w=.ok u w∧Rep w F loc N v u:=by
 unfold aConv at h
 split at h
 ·rename_i t
  obtain ⟨h1,h2,hk⟩:=h
  cases hx with
  | f _ _ hx =>
   cases hx
   cases hT:tI P d with
   | none=>rw [hT] at h1;cases h1
   | some T =>
    cases hS:tI P s with
    | none=>rw [hS] at h2;cases h2
    | some S =>
     rw [hT] at h1;rw [hS] at h2
     have u1:=tI_str hT (by simpa using h1)
     have u2:=tI_str hS (by simpa using h2)
     refine ⟨_,_,hk,?_,.f _ _ (.v _)⟩
     simp [convert,run_underlying u1,run_underlying u2]
 ·obtain ⟨u,r,e,hr,hk⟩:=h
  cases hx with
  | f _ _ hx =>
   have:=val_rep e hx;subst this
   exact ⟨_,_,hk,hr w,.f _ _ (RepF.ofV r)⟩
 ·cases h
theorem aIndex_sound {t:TypeId} {T:TI} (hT:tI P t=some T) {x i:AV} {y z:Value} (hx:Rep w F loc N x y) (hi:Rep w F loc N i z) {k:AV→Prop} (h:aIndex T x i k) :
  ∃v u,k v∧(Instr.index t y z).run P w=.ok u w∧Rep w F loc N v u:=by
 unfold aIndex at h
 split at h
 ·rename_i s kd n
  obtain ⟨hs,⟨h0,h1⟩,hk⟩:=h
  have hu:=tI_str hT hs
  have:=int_rep hi;subst this
  cases hx with
  | f _ _ hx =>
   cases hx
   refine ⟨_,_,hk,?_,.f _ _ (.v _)⟩
   have hl:n.toNat<s.size:=by omega
   have e:s[n.toNat]?=some (s.data.toList.getD n.toNat 0):=by
    rw [getElem?_pos s n.toNat hl,List.getD_eq_getElem?_getD,List.getElem?_eq_getElem (by rw [bytes_size];exact hl),Option.getD_some,bytes_get s n.toNat hl]
   simp only [Instr.index,asIntOf,Sem.run_bind,Sem.run_pure,Result.andThen_ok,run_underlying hu,h0,if_true,e]
 ·cases h
theorem aExtract_sound {x:AV} {a:Value} {i:Nat} (hx:Rep w F loc N x a) {k:AV→Prop} (h:aExtract x i k) :
  ∃v u,k v∧(Instr.extract a i).run P w=.ok u w∧Rep w F loc N v u:=by
 unfold aExtract at h
 split at h
 ·obtain ⟨c,hc,hk⟩:=h
  cases hx with
  | tup _ vs hl hcc =>
   obtain ⟨e1,e2⟩:=getD_lt (vs:=vs) (j:=i) (by have:=glt hc;omega)
   have:=hcc i c hc
   rw [e1] at this
   exact ⟨c,_,hk,by simp [Instr.extract,e2],this⟩
 ·obtain ⟨c,hc,hk⟩:=h
  cases hx with
  | f _ _ hx =>
   cases hx with
   | tup _ vs hl hcc =>
    obtain ⟨e1,e2⟩:=getD_lt (vs:=vs) (j:=i) (by have:=glt hc;omega)
    have:=hcc i c hc
    rw [e1] at this
    exact ⟨_,_,hk,by simp [Instr.extract,e2],.f _ _ this⟩
 ·cases h

def CellsRep (w:World) (F:Nat→Prop) (loc:Nat→Nat × Nat) (N:Nat) (cs:List AV) (vs:Array Value):Prop :=
 cs.length=vs.size∧∀(j:Nat) c,cs[j]?=some c→Rep w F loc N c (vs.getD j undef)
theorem setEach (l:List Value) (off:Nat):∀(n:Nat) (cs:Array Value),off+n+l.length≤cs.size →
  ((l.zipIdx n).foldl (fun cs p=>cs.setIfInBounds (off+p.2) p.1) cs).size=cs.size ∧
  ∀m,((l.zipIdx n).foldl (fun cs p=>cs.setIfInBounds (off+p.2) p.1) cs).getD m undef=if off+n≤m∧m<off+n+l.length then l.getD (m-(off+n)) undef else cs.getD m undef:=by
 induction l with
 | nil=>intro n cs h;exact ⟨rfl,fun m=>by simp;intro a b;omega⟩
 | cons v l ih =>
  intro n cs h
  rw [List.zipIdx_cons,List.foldl_cons]
  simp only [List.length_cons] at h
  obtain ⟨h1,h2⟩:=ih (n+1) (cs.setIfInBounds (off+n) v) (by simp;omega)
  refine ⟨by rw [h1];simp,fun m=>?_⟩
  rw [h2]
  simp only [List.length_cons]
  by_cases e:m=off+n
  ·subst e
   rw [if_neg (by omega),if_pos (by omega)]
   have:off+n<cs.size:=by omega
   simp [Array.getD_eq_getD_getElem?,this]
  ·by_cases e2:off+(n+1)≤m∧m<off+(n+1)+l.length
   ·rw [if_pos e2,if_pos (by omega)]
    rw [show m-(off+n)=(m-(off+(n+1)))+1 by omega]
    simp
   ·rw [if_neg e2,if_neg (by omega)]
    have:off+n≠m:=fun h=>e h.symm
    simp [Array.getD_eq_getD_getElem?,this]
theorem setR_len {cs ds:List AV} {o:Nat} (h:o+ds.length≤cs.length):(setR cs o ds).length=cs.length:=by simp [setR];omega
theorem setR_get {cs ds:List AV} {o:Nat} (h:o+ds.length≤cs.length) (j:Nat):(setR cs o ds)[j]?=if o≤j∧j<o+ds.length then ds[j-o]? else cs[j]?:=by
 unfold setR
 rw [List.getElem?_append]
 have ho:(cs.take o).length=o:=by rw [List.length_take];omega
 rw [ho]
 by_cases h1:j<o
 ·rw [if_pos h1,if_neg (by omega),List.getElem?_take,if_pos h1]
 ·rw [if_neg h1,List.getElem?_append]
  by_cases h2:j-o<ds.length
  ·rw [if_pos h2,if_pos (by omega)]
  ·rw [if_neg h2,if_neg (by omega),List.getElem?_drop]
   congr 1;omega
theorem setR_rep {cs:List AV} {vs:Array Value} (hc:CellsRep w F loc N cs vs) {x:AV} {y:Value} (hx:Rep w F loc N x y) (hs:x.st=true) {o:Nat} (ho:o+x.cells.length≤cs.length) :
  o+y.cells.size≤vs.size∧CellsRep w F loc N (setR cs o x.cells) (y.cells.zipIdx.foldl (fun cs p=>cs.setIfInBounds (o+p.2) p.1) vs):=by
 obtain ⟨h1,h2⟩:=hx.cells hs
 obtain ⟨c1,c2⟩:=hc
 have hle:o+y.cells.size≤vs.size:=by omega
 have e:y.cells.zipIdx.foldl (fun cs p=>cs.setIfInBounds (o+p.2) p.1) vs=(y.cells.toList.zipIdx 0).foldl (fun cs p=>cs.setIfInBounds (o+p.2) p.1) vs:=by
  rw [←Array.foldl_toList,Array.toList_zipIdx]
 obtain ⟨s1,s2⟩:=setEach y.cells.toList o 0 vs (by simpa using hle)
 rw [e]
 refine ⟨hle,by rw [s1,setR_len ho];exact c1,fun j c hj=>?_⟩
 rw [s2]
 rw [setR_get ho] at hj
 have hsz:y.cells.toList.length=y.cells.size:=Array.length_toList
 by_cases hr:o≤j∧j<o+x.cells.length
 ·rw [if_pos hr] at hj
  rw [if_pos (by omega)]
  obtain ⟨u,a1,a2,_⟩:=h2 _ c hj
  have:y.cells.toList.getD (j-(o+0)) undef=u:=by
   rw [Nat.add_zero,List.getD_eq_getElem?_getD,Array.getElem?_toList,a1];rfl
  rw [this];exact a2
 ·rw [if_neg hr] at hj
  rw [if_neg (by omega)]
  exact c2 j c hj
theorem fill_sound {T:TI}:∀(ps:List (Nat × AV)) (qs:List (Nat × Value)) (cs cs':List AV) (vs:Array Value),
  fillA T cs ps=some cs'→CellsRep w F loc N cs vs→ps.length=qs.length→(∀(j:Nat) p,ps[j]?=some p→∃q,qs[j]?=some q∧p.1=q.1∧Rep w F loc N p.2 q.2) →
  ∀(place:Nat→Option (Nat × Nat)),(∀i o,T.offs.getD i none=some o→place i=some (o,T.fsz.getD i 0)) →
  ∃vs',Instr.fill place vs qs=some vs'∧CellsRep w F loc N cs' vs':=by
 intro ps
 induction ps with
 | nil =>
  intro qs cs cs' vs h hc hl _ place _
  cases h
  have:qs=[]:=List.eq_nil_of_length_eq_zero (by simpa using hl.symm)
  subst this
  exact ⟨vs,rfl,hc⟩
 | cons p ps ih =>
  intro qs cs cs' vs h hc hl hr place hp
  cases qs with
  | nil=>simp at hl
  | cons q qs =>
   obtain ⟨i,x⟩:=p
   obtain ⟨i',y⟩:=q
   obtain ⟨q',e0,e1,hxy⟩:=hr 0 (i,x) rfl
   cases e0
   simp only at e1
   subst e1
   unfold fillA at h
   cases ho:T.offs.getD i none with
   | none=>rw [ho] at h;cases h
   | some o =>
    rw [ho] at h
    simp only at h
    split at h
    ·rename_i hcond
     obtain ⟨hs,hz,hle⟩:=hcond
     obtain ⟨k1,k2⟩:=setR_rep hc hxy hs hle
     obtain ⟨vs',a1,a2⟩:=ih qs _ cs' _ h k2 (by simpa using hl) (fun j p hj=>hr (j+1) p (by simpa using hj)) place hp
     refine ⟨vs',?_,a2⟩
     rw [←a1]
     have hyl:y.cells.size=T.fsz.getD i 0:=by rw [←(hxy.cells hs).1,hz]
     have k1':o+y.cells.size≤vs.size:=k1
     have e:Instr.fill place vs ((i,y)::qs)=(match place i with|none=>none|some (off,size)=>if (y.cells.size≠size||off+y.cells.size>vs.size)=true then none else Instr.fill place (y.cells.zipIdx.foldl (fun cs p=>cs.setIfInBounds (off+p.2) p.1) vs) qs):=rfl
     rw [e,hp i o ho]
     have hn:¬((y.cells.size≠T.fsz.getD i 0||o+y.cells.size>vs.size)=true):=by
      rw [←hyl];simp;omega
     simp only
     rw [if_neg hn]
    ·cases h
theorem run_places (fs:Array Field) (hall:∀f∈fs.toList,(P.info? f.type).isSome=true):∀w:World,(fs.mapM fun f=>do pure (f.offset,←Go.sizeOf f.type):Sem (Array (Nat × Nat))).run P w =
  .ok (fs.map fun f=>(f.offset,match P.info? f.type with|some j=>j.size|none=>0)) w:=by
 intro w
 rw [Array.mapM_eq_mapM_toList]
 have key:∀(l:List Field),(∀f∈l,(P.info? f.type).isSome=true)→∀w:World,(l.mapM fun f=>do pure (f.offset,←Go.sizeOf f.type):Sem (List (Nat × Nat))).run P w =
   .ok (l.map fun f=>(f.offset,match P.info? f.type with|some j=>j.size|none=>0)) w:=by
  intro l
  induction l with
  | nil=>intro _ w;rfl
  | cons f l ih =>
   intro h w
   obtain ⟨j,hj⟩:=Option.isSome_iff_exists.1 (h f (by simp))
   rw [List.mapM_cons]
   have hs:(Go.sizeOf f.type).run P w=.ok j.size w:=by simp [Go.sizeOf,typeInfo,hj]
   simp only [Sem.run_bind,hs,Result.andThen_ok,Sem.run_pure]
   rw [ih (fun f hf=>h f (by simp [hf]))]
   simp [hj]
 rw [Sem.run_map,key fs.toList hall w]
 simp only [Result.andThen_ok]
 congr 1
 exact Array.toList_inj.1 (by simp)
theorem aBuild_sound {t:TypeId} {T:TI} (hT:tI P t=some T) {z:FV} (hz:T.zero=some z) (hok:fieldsOk P t=true) {ps:Array (Nat × Operand)} {ρ:Operand→AV} {η:Operand→Value} (hρ:∀x,Rep w F loc N (ρ x) (η x)) {k:AV→Prop}
  (h:if ps.size=0 then k (.f z) else ∃cs,fillA T (z.cells.map .f) (ps.toList.map fun p=>(p.1,ρ p.2))=some cs∧k (mkA cs)) (hza:z.isA=true) :
  ∃v u,k v∧(Instr.build t (ps.map fun p=>(p.1,η p.2))).run P w=.ok u w∧Rep w F loc N v u:=by
 obtain ⟨i,d,hi,hd,_,_,h0,_,ho,_,hf⟩:=tI_info hT
 obtain ⟨y,hy,rfl⟩:=tI_zero hT hz w
 unfold fieldsOk at hok
 rw [hd] at hok
 cases d with
 | struct fs =>
  have hall:∀f∈fs.toList,(P.info? f.type).isSome=true:=List.all_eq_true.1 hok
  have hya:∃vs,y=.agg vs:=by
   cases y<;>first|exact ⟨_,rfl⟩|cases hza
  obtain ⟨vs,rfl⟩:=hya
  have hc0:CellsRep w F loc N ((FV.ofV (.agg vs)).cells.map .f) vs:=by
   refine ⟨by simp [FV.ofV,FV.cells],fun j c hj=>?_⟩
   have hj':(vs.toList.map FV.v).map AV.f=((FV.ofV (.agg vs)).cells.map .f):=rfl
   rw [←hj',List.getElem?_map,List.getElem?_map,Array.getElem?_toList] at hj
   cases hv:vs[j]? with
   | none=>rw [hv] at hj;cases hj
   | some u =>
    rw [hv] at hj
    cases hj
    have:vs.getD j undef=u:=by rw [Array.getD_eq_getD_getElem?,hv];rfl
    rw [this];exact .f _ _ (.v u)
  have hplace:∀i o,T.offs.getD i none=some o→(fs.map fun f=>(f.offset,match P.info? f.type with|some j=>j.size|none=>0))[i]?=some (o,T.fsz.getD i 0):=fun i o hio=>by
   rw [ho,List.getD_eq_getElem?_getD,List.getElem?_map,Array.getElem?_toList] at hio
   rw [hf,List.getD_eq_getElem?_getD,List.getElem?_map,Array.getElem?_toList,Array.getElem?_map]
   cases hfi:fs[i]? with
   | none=>rw [hfi] at hio;cases hio
   | some f =>
    rw [hfi] at hio
    simp only [Option.map_some,Option.getD_some] at hio ⊢
    cases hj:P.info? f.type with
    | none=>rw [hj] at hio;cases hio
    | some j =>
     rw [hj] at hio
     simp only at hio ⊢
     split at hio
     ·cases hio
     ·cases hio;rfl
  split at h
  ·rename_i hps
   have:ps=#[]:=Array.eq_empty_of_size_eq_zero hps
   subst this
   refine ⟨_,.agg vs,h,?_,.f _ _ (RepF.ofV _)⟩
   simp only [Instr.build,Sem.run_bind,hy,Result.andThen_ok,run_underlying hd,run_places fs hall]
   have e0:(Array.map (fun p:Nat × Operand=>(p.1,η p.2)) #[]).toList=[]:=by simp
   rw [e0];rfl
  ·obtain ⟨cs,hcs,hk⟩:=h
   obtain ⟨vs',a1,a2⟩:=fill_sound (w:=w) (F:=F) (loc:=loc) (N:=N) (T:=T) (ps.toList.map fun p=>(p.1,ρ p.2)) (ps.map fun p=>(p.1,η p.2)).toList _ cs vs hcs hc0 (by simp) (fun j p hj=>by
    rw [List.getElem?_map] at hj
    cases hp:ps.toList[j]? with
    | none=>rw [hp] at hj;cases hj
    | some q =>
     rw [hp] at hj
     cases hj
     exact ⟨(q.1,η q.2),by rw [Array.toList_map,List.getElem?_map,hp];rfl,rfl,hρ _⟩) _ hplace
   refine ⟨_,.agg vs',hk,?_,mkA_rep (.agg cs vs' a2.1 a2.2)⟩
   simp only [Instr.build,Sem.run_bind,hy,Result.andThen_ok,run_underlying hd,run_places fs hall]
   have a1':Instr.fill (fun x=>(fs.map fun f=>(f.offset,match P.info? f.type with|some j=>j.size|none=>0))[x]?) (Value.agg vs).cells (ps.map fun p=>(p.1,η p.2)).toList=some vs':=a1
   rw [a1']
   rfl
 | _=>cases hok

theorem v_rep {x y:Value} (h:Rep w F loc N (.f (.v x)) y):y=x:=by cases h with|f _ _ h=>cases h;rfl
theorem pure_sound {s:AS} {a:Act} (R:RelF X F loc s a w) {o:Oper} {k:AV→Prop} (h:apure P o.op s.ev k) :
  ∃v u,k v∧(execOp a.eval o).run P w=.ok (.value u) w∧Rep w F loc s.H.length v u:=by
 have wrap:∀{m:Sem Value} {e:Sem Next},e=(do pure (.value (←m)))→(∃v u,k v∧m.run P w=.ok u w∧Rep w F loc s.H.length v u)→∃v u,k v∧e.run P w=.ok (.value u) w∧Rep w F loc s.H.length v u:=by
  rintro m e rfl ⟨v,u,hk,hm,hr⟩
  exact ⟨v,u,hk,by simp [hm],hr⟩
 have hmap:∀(o:Option Operand),(∀z,o.map s.ev=some z→∃u,o.map a.eval=some u∧Rep w F loc s.H.length z u)∧(o.map s.ev=none→o.map a.eval=none):=fun o=>by
  cases o with
  | none=>exact ⟨fun z h=>(by cases h),fun _=>rfl⟩
  | some x=>exact ⟨fun z h=>(by cases h;exact ⟨_,rfl,R.ev x⟩),fun h=>(by cases h)⟩
 unfold apure at h
 split at h
 ·rename_i x hop;exact ⟨_,_,h,by simp only [execOp,hop];rfl,R.ev x⟩
 ·rename_i x hop;exact ⟨_,_,h,by simp only [execOp,hop];rfl,R.ev x⟩
 ·rename_i c x y hop
  split at h
  ·rename_i t ht
   have hc:=R.ev c
   rw [ht] at hc
   have hcv:a.eval c=.bool t:=v_rep hc
   have hrun:(execOp a.eval o).run P w=.ok (.value (if t then a.eval x else a.eval y)) w:=by
    simp only [execOp,hop,hcv,asBool];rfl
   have hx:=R.ev x
   have hy:=R.ev y
   unfold aPick at h
   split at h
   ·rename_i p q hp hq
    rw [hp] at hx;rw [hq] at hy
    have e1:a.eval x=.bool p:=v_rep hx
    have e2:a.eval y=.bool q:=v_rep hy
    refine ⟨_,_,h,hrun,?_⟩
    rw [e1,e2]
    cases t<;>exact .f _ _ (.v _)
   ·split at h
    ·rename_i ht';subst ht';exact ⟨_,_,h,hrun,hx⟩
    ·rename_i ht';have:t=false:=by simpa using ht'
     subst this;exact ⟨_,_,h,hrun,hy⟩
  ·cases h
 ·rename_i op t x y ty hop
  exact wrap (by simp only [execOp,hop]) (aBin_sound (R.ev x) (R.ev y) h)
 ·rename_i op t x hop
  exact wrap (by simp only [execOp,hop]) (aUn_sound (R.ev x) h)
 ·rename_i t d x hop
  exact wrap (by simp only [execOp,hop]) (aConv_sound (R.ev x) h)
 ·rename_i t x f hop
  split at h
  ·rename_i T hT;exact wrap (by simp only [execOp,hop]) (aFieldAddr_sound hT (R.ev x) h)
  ·cases h
 ·rename_i t x i hop
  split at h
  ·rename_i T hT;exact wrap (by simp only [execOp,hop]) (aIndexAddr_sound hT (R.ev x) (R.ev i) h)
  ·cases h
 ·rename_i t x i hop
  split at h
  ·rename_i T hT;exact wrap (by simp only [execOp,hop]) (aIndex_sound hT (R.ev x) (R.ev i) h)
  ·cases h
 ·rename_i t x lo hi hop
  split at h
  ·rename_i T hT;exact wrap (by simp only [execOp,hop];rfl) (aSlice_sound (e:=T.1) (T:=T.2) hT (R.ev x) (hmap lo).1 (hmap lo).2 (hmap hi).1 (hmap hi).2 h)
  ·obtain ⟨h1,h⟩:=h
   cases hT:tI P t with
   | none=>rw [hT] at h1;cases h1
   | some T =>
    rw [hT] at h1
    exact wrap (by simp only [execOp,hop];rfl) (aSliceS_sound (tI_str hT (by simpa using h1)) (R.ev x) (hmap lo).1 (hmap lo).2 (hmap hi).1 (hmap hi).2 h)
 ·rename_i x i hop
  exact wrap (by simp only [execOp,hop]) (aExtract_sound (R.ev x) h)
 ·rename_i f x y hop
  refine wrap (m:=pure (.func (.func f) (x.map a.eval) (y.map a.eval))) (by simp only [execOp,hop];rfl) ⟨_,_,h,rfl,?_⟩
  refine .fn f _ _ _ _ (by simp) (fun j c hj=>?_) (by simp) (fun j c hj=>?_)
  all_goals
   rw [List.getElem?_map,Array.getElem?_toList] at hj
   rw [Array.getD_eq_getD_getElem?,Array.getElem?_map]
   first
   | (cases hv:x[j]? with
    | none=>rw [hv] at hj;cases hj
    | some u=>rw [hv] at hj;cases hj;exact R.ev u)
   | (cases hv:y[j]? with
    | none=>rw [hv] at hj;cases hj
    | some u=>rw [hv] at hj;cases hj;exact R.ev u)
 ·rename_i t ps hop
  split at h
  ·rename_i T hT
   split at h
   ·rename_i z hz
    obtain ⟨h1,h2,h3,h⟩:=h
    exact wrap (by simp only [execOp,hop]) (aBuild_sound hT hz h2 (fun x=>R.ev x) h h3)
   ·cases h
  ·cases h
 ·rename_i x hop
  have hx:=R.ev x
  split at h
  ·rename_i r sz i j e
   rw [e] at hx
   cases hx':a.eval x with
   | _=>rw [hx'] at hx;cases hx<;>exact ⟨_,_,h,by simp only [execOp,hop,hx'];rfl,.ptr r sz i j (by assumption)⟩
  ·rename_i y j e
   rw [e] at hx
   cases hx':a.eval x with
   | _=>rw [hx'] at hx;cases hx with|f _ _ hx=>cases hx<;>exact ⟨_,_,h,by simp only [execOp,hop,hx'];rfl,.f _ _ (.fp _ _ _ _ (by assumption) _ (by assumption) (by assumption))⟩
  ·cases h
 ·rename_i args ts hop
  split at h
  ·rename_i x t hargs hts
   obtain ⟨h1,h⟩:=h
   have ea:args=#[x]:=Array.toList_inj.1 hargs
   have et:ts=#[t]:=Array.toList_inj.1 hts
   subst ea;subst et
   obtain ⟨v,u,hk,hrun,hr⟩:=aLen_sound (P:=P) (ty:=o.type) (R.ev x) h1 h
   refine ⟨v,u,hk,?_,hr⟩
   simp [execOp,hop,resolve,invoke,builtin,hrun]
  ·cases h
 ·cases h
end
end
end Go.Proofs.YthehegidpamldaaGreatDoor
