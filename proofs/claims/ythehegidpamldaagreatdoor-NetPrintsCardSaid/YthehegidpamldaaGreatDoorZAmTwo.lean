/- Joined: AmF AmG AmH AmHB. Conditions: as said at each part. -/
import Derived.Test.YthehegidpamldaaGreatDoorZAmOne
import Derived.Maps.AppendAt
import Derived.Deep.Upon
set_option linter.unusedVariables false
set_option linter.unusedSimpArgs false
namespace Go.Proofs.YthehegidpamldaaGreatDoor
section
open Go Go.RowKit

inductive Frz (H : List (Option AO)) : AV → FV → Prop
  | f (x : FV) : Frz H (.f x) x
  | nil (sz : Nat) : Frz H (.f (.v (.slice none 0 0))) (.fz sz [])
  | agg (cs : List AV) (ds : List FV) (hl : cs.length = ds.length) (h : ∀ (j : Nat) c d, cs[j]? = some c → ds[j]? = some d → Frz H c d) : Frz H (.agg cs) (.agg ds)
  | tup (cs : List AV) (ds : List FV) (hl : cs.length = ds.length) (h : ∀ (j : Nat) c d, cs[j]? = some c → ds[j]? = some d → Frz H c d) : Frz H (.tup cs) (.tup ds)
  | own (r sz off k : Nat) (o : AO) (ds : List FV) (ho : H[r]? = some (some o)) (hs : o.sz = sz) (hk : off + k ≤ o.es.length) (hl : ds.length = k)
      (h : ∀ (j : Nat) e d, o.es[off + j]? = some e → ds[j]? = some d → Frz H e d) : Frz H (.own r sz off k) (.fz sz ds)
  | ptr (r sz i j : Nat) (o : AO) (e : AV) (d : FV) (ho : H[r]? = some (some o)) (hs : o.sz = sz) (he : o.es[i]? = some e) (h : Frz H e d) : Frz H (.ptr r sz i j) (.fp d j)
  | fn (f : FuncId) (a b : List AV) (a' b' : List FV) (h1 : a.length = a'.length) (h2 : ∀ (j : Nat) c d, a[j]? = some c → a'[j]? = some d → Frz H c d)
      (h3 : b.length = b'.length) (h4 : ∀ (j : Nat) c d, b[j]? = some c → b'[j]? = some d → Frz H c d) : Frz H (.fn f a b) (.fn f a' b')
def FrzL (H:List (Option AO)) (xs:List AV) (ys:List FV):Prop:=xs.length=ys.length∧∀(j:Nat) x y,xs[j]?=some x→ys[j]?=some y→Frz H x y
theorem FrzL.nil (H:List (Option AO)):FrzL H [] []:=⟨rfl,fun j x y h=>by simp at h⟩
theorem FrzL.cons {H:List (Option AO)} {x:AV} {y:FV} {xs:List AV} {ys:List FV} (h:Frz H x y) (hs:FrzL H xs ys):FrzL H (x::xs) (y::ys) :=
 ⟨by simp [hs.1],fun j a b ha hb=>by
  cases j with
  | zero=>simp at ha hb;subst ha;subst hb;exact h
  | succ j=>exact hs.2 j a b (by simpa using ha) (by simpa using hb)⟩
theorem Frz.own1 {H:List (Option AO)} {r sz off k:Nat} {e:TypeId} {ds:List FV} (ho:H[r]?=some (some ⟨e,sz,ds.map .f⟩)) (hk:off+k≤ds.length):Frz H (.own r sz off k) (.fz sz ((ds.drop off).take k)) :=
 .own r sz off k _ _ ho rfl (by simpa using hk) (by simp;omega) fun j a b ha hb=>by
  have hj:=glt hb
  simp only [List.length_take,List.length_drop] at hj
  rw [List.getElem?_take,if_pos (by omega),List.getElem?_drop] at hb
  simp only [List.getElem?_map,hb,Option.map_some,Option.some.injEq] at ha
  subst ha;exact .f b
theorem Frz.own0 {H:List (Option AO)} {r sz k:Nat} {e:TypeId} {ds:List FV} (ho:H[r]?=some (some ⟨e,sz,ds.map .f⟩)) (hk:k=ds.length):Frz H (.own r sz 0 k) (.fz sz ds):=by
 subst hk
 have:=Frz.own1 (off:=0) (k:=ds.length) ho (by omega)
 rwa [List.drop_zero,List.take_length] at this
theorem Frz.ptr0 {H:List (Option AO)} {r sz i j:Nat} {e:TypeId} {es:List AV} {d:FV} (ho:H[r]?=some (some ⟨e,sz,es⟩)) (he:es[i]?=some (.f d)):Frz H (.ptr r sz i j) (.fp d j) :=
 .ptr r sz i j _ _ _ ho rfl he (.f d)

theorem Frz.oc {H:List (Option AO)} {x:AV} {y:FV} (h:Frz H x y) (hx:x.oc=true):y.oc=true:=by
 cases h<;>first|exact hx|rfl|cases hx
theorem Frz.st {H:List (Option AO)} {x:AV} {y:FV} (h:Frz H x y) (hx:x.st=true):y.st=true:=by
 cases h with
 | f=>exact hx
 | agg cs ds hl hc =>
  refine List.all_eq_true.2 fun d hd=>?_
  obtain ⟨j,hj⟩:=List.getElem?_of_mem hd
  have hjl:=glt hj
  have he:=List.getElem?_eq_getElem (l:=cs) (i:=j) (by omega)
  exact (hc j _ d he hj).oc (List.all_eq_true.1 (show cs.all AV.oc=true from hx) _ (List.getElem_mem _))
 | tup=>cases hx
 | _=>rfl
section
variable {X : Cx} {w : World} {F : Nat → Prop} {loc : Nat → Nat × Nat} {s : AS} {a : Act}
def Live (s:AS) (loc:Nat→Nat × Nat) (b:Nat):Prop:=∃r o,s.H[r]?=some (some o)∧(loc r).1=b
theorem frz_cells1 {H:List (Option AO)} {x:AV} {y:FV} (hx:x.cells=[x]) (hy:y.cells=[y]) {P:AV→FV→Prop} (h:P x y):x.cells.length=y.cells.length∧∀(j:Nat) c d,x.cells[j]?=some c→y.cells[j]?=some d→P c d:=by
 rw [hx,hy]
 refine ⟨rfl,fun j c d hc hd=>?_⟩
 cases j with
 | zero=>simp at hc hd;subst hc;subst hd;exact h
 | succ j=>simp at hc
theorem Frz.rep (R:RelF X F loc s a w) {x:AV} {y:FV} (h:Frz s.H x y):(∀v,Rep w F loc s.H.length x v→RepF w (fun b=>F b∨Live s loc b) y v) ∧
  (x.cells.length=y.cells.length∧∀(j:Nat) c d,x.cells[j]?=some c→y.cells[j]?=some d→∀v,Rep w F loc s.H.length c v→RepF w (fun b=>F b∨Live s loc b) d v):=by
 have up:∀{z:FV} {v:Value},RepF w F z v→RepF w (fun b=>F b∨Live s loc b) z v:=fun h=>h.mono (fun _ h=>.inl h) (fun _ _ _ _ h=>h)
 induction h with
 | f x =>
  refine ⟨fun v hv=>by cases hv with|f _ _ h=>exact up h,cells_f_len x,fun j c d hc hd v hv=>?_⟩
  rw [cells_f,List.getElem?_map,hd] at hc
  cases hc
  cases hv with|f _ _ h=>exact up h
 | nil sz =>
  have h1:∀v,Rep w F loc s.H.length (.f (.v (.slice none 0 0))) v→RepF w (fun b=>F b∨Live s loc b) (.fz sz []) v:=fun v hv=>by
   cases hv with|f _ _ h=>cases h;exact .fz0 _ _ _ (by unfold maxLen;omega)
  exact ⟨h1,frz_cells1 (H:=s.H) rfl rfl h1⟩
 | agg cs ds hl _ ih =>
  have hcell:∀(j:Nat) c d,cs[j]?=some c→ds[j]?=some d→∀v,Rep w F loc s.H.length c v→RepF w (fun b=>F b∨Live s loc b) d v:=fun j c d hc hd v hv=>(ih j c d hc hd).1 v hv
  refine ⟨fun v hv=>?_,hl,hcell⟩
  cases hv with
  | agg _ vs hlv hc =>
   refine .agg ds vs (by omega) fun j d hd=>?_
   have hj:=glt hd
   exact hcell j _ d (List.getElem?_eq_getElem (by omega)) hd _ (hc j _ (List.getElem?_eq_getElem (by omega)))
 | tup cs ds hl _ ih =>
  have h1:∀v,Rep w F loc s.H.length (.tup cs) v→RepF w (fun b=>F b∨Live s loc b) (.tup ds) v:=fun v hv=>by
   cases hv with
   | tup _ vs hlv hc =>
    refine .tup ds vs (by omega) fun j d hd=>?_
    have hj:=glt hd
    exact (ih j _ d (List.getElem?_eq_getElem (by omega)) hd).1 _ (hc j _ (List.getElem?_eq_getElem (by omega)))
  exact ⟨h1,frz_cells1 (H:=s.H) rfl rfl h1⟩
 | own r sz off k o ds ho hs hk hl hfz ih =>
  have h1:∀v,Rep w F loc s.H.length (.own r sz off k) v→RepF w (fun b=>F b∨Live s loc b) (.fz sz ds) v:=fun v hv=>by
   subst hs
   cases hv with
   | own _ _ _ _ cap hr hkc hm hsh =>
    obtain ⟨hu,vs,hvs,_,hcells⟩:=R.obj r o ho
    cases hds:ds with
    | nil =>
     rw [hds] at hl
     have:k=0:=by simpa using hl.symm
     subst this
     exact .fz0 _ _ _ hm
    | cons d0 dr =>
     rw [←hds]
     have huni:UniF o.sz ds:=fun d hd=>by
      obtain ⟨j,hj⟩:=List.getElem?_of_mem hd
      have hjl:=glt hj
      have he:=List.getElem?_eq_getElem (l:=o.es) (i:=off+j) (by omega)
      rw [←(ih j _ d he hj).2.1]
      exact ⟨(hu _ (List.getElem_mem _)).1,(hfz j _ d he hj).st (hu _ (List.getElem_mem _)).2⟩
     have key:∀(m:Nat) d,(flatF ds)[m]?=some d→∃u,vs[off*o.sz+m]?=some u∧RepF w (fun b=>F b∨Live s loc b) d u:=fun m d hm=>by
      have hz:0<o.sz:=by
       rcases Nat.eq_zero_or_pos o.sz with h0|h0
       ·exfalso
        have h1:=glt hm
        have h2:=flat_len (uni_f.2 huni)
        rw [flat_f,List.length_map,h0,Nat.mul_zero] at h2
        omega
       ·exact h0
      have hq:m=(m/o.sz)*o.sz+m%o.sz:=by rw [Nat.mul_comm];exact (Nat.div_add_mod m o.sz).symm
      have hmod:=Nat.mod_lt m hz
      have hmd:(flat (ds.map AV.f))[m]?=some (.f d):=by rw [flat_f,List.getElem?_map,hm];rfl
      rw [hq,flat_get (uni_f.2 huni) hmod,List.getElem?_map] at hmd
      cases hdj:ds[m/o.sz]? with
      | none=>rw [hdj] at hmd;cases hmd
      | some dj =>
       rw [hdj] at hmd
       have hmd':(dj.cells.map AV.f)[m%o.sz]?=some (.f d):=hmd
       rw [List.getElem?_map] at hmd'
       cases hdc:dj.cells[m%o.sz]? with
       | none=>rw [hdc] at hmd';cases hmd'
       | some d' =>
        rw [hdc] at hmd'
        have:d'=d:=by simpa using hmd'
        subst this
        have hjl:=glt hdj
        have he:=List.getElem?_eq_getElem (l:=o.es) (i:=off+m/o.sz) (by omega)
        obtain ⟨_,hclen,hcc⟩:=ih _ _ dj he hdj
        have hec:=List.getElem?_eq_getElem (l:=(o.es[off+m/o.sz]'(by omega)).cells) (i:=m%o.sz) (by rw [hclen];exact glt hdc)
        obtain ⟨u,h1,h2⟩:=hcells ((off+m/o.sz)*o.sz+m%o.sz) _ (by rw [flat_get hu hmod,he];exact hec)
        refine ⟨u,?_,hcc _ _ _ hec hdc u h2⟩
        rw [←h1,Nat.add_mul,Nat.add_assoc,←hq]
     have hlen:ds.length=k:=hl
     rw [←hlen]
     refine .fz _ ds (loc r).1 (off*o.sz) cap (.inr ⟨r,o,ho,rfl⟩) (by omega) hm huni (fun m=>vs.getD (off*o.sz+m) undef) (fun m d hmd=>?_) (fun m d hmd=>?_)
     ·obtain ⟨u,h1,_⟩:=key m d hmd
      unfold World.cell?
      rw [show w.heap[(⟨(loc r).1,off*o.sz+m,none⟩:Addr).block]?=_ from hvs]
      simp only [Option.isSome_none,Bool.false_eq_true,if_false]
      rw [h1,Array.getD_eq_getD_getElem?,h1];rfl
     ·obtain ⟨u,h1,h2⟩:=key m d hmd
      rw [Array.getD_eq_getD_getElem?,h1];exact h2
  exact ⟨h1,frz_cells1 (H:=s.H) rfl rfl h1⟩
 | ptr r sz i j o e d ho hs he _ ih =>
  have h1:∀v,Rep w F loc s.H.length (.ptr r sz i j) v→RepF w (fun b=>F b∨Live s loc b) (.fp d j) v:=fun v hv=>by
   subst hs
   cases hv with
   | ptr _ _ _ _ hr =>
    obtain ⟨hu,vs,hvs,_,hcells⟩:=R.obj r o ho
    have hel:=(hu e (List.mem_of_getElem? he)).1
    have key:∀(m:Nat) c,d.cells[m]?=some c→∃u,vs[i*o.sz+m]?=some u∧RepF w (fun b=>F b∨Live s loc b) c u:=fun m c hc=>by
     have hmz:m<o.sz:=by have:=glt hc;rw [←ih.2.1] at this;omega
     have hec:=List.getElem?_eq_getElem (l:=e.cells) (i:=m) (by omega)
     obtain ⟨u,h1,h2⟩:=hcells (i*o.sz+m) _ (by rw [flat_get hu hmz,he];exact hec)
     exact ⟨u,h1,ih.2.2 m _ _ hec hc u h2⟩
    refine .fp d j (loc r).1 (i*o.sz) (.inr ⟨r,o,ho,rfl⟩) (fun m=>vs.getD (i*o.sz+m) undef) (fun m c hmc=>?_) (fun m c hmc=>?_)
    ·obtain ⟨u,h1,_⟩:=key m c hmc
     unfold World.cell?
     rw [show w.heap[(⟨(loc r).1,i*o.sz+m,none⟩:Addr).block]?=_ from hvs]
     simp only [Option.isSome_none,Bool.false_eq_true,if_false]
     rw [h1,Array.getD_eq_getD_getElem?,h1];rfl
    ·obtain ⟨u,h1,h2⟩:=key m c hmc
     rw [Array.getD_eq_getD_getElem?,h1];exact h2
  exact ⟨h1,frz_cells1 (H:=s.H) rfl rfl h1⟩
 | fn f a b a' b' h1 _ h3 _ ih1 ih2 =>
  have h1:∀v,Rep w F loc s.H.length (.fn f a b) v→RepF w (fun b=>F b∨Live s loc b) (.fn f a' b') v:=fun v hv=>by
   cases hv with
   | fn _ _ _ vs us q1 q2 q3 q4 =>
    refine .fn f a' b' vs us (by omega) (fun j d hd=>?_) (by omega) (fun j d hd=>?_)
    ·have hj:=glt hd
     exact (ih1 j _ d (List.getElem?_eq_getElem (by omega)) hd).1 _ (q2 j _ (List.getElem?_eq_getElem (by omega)))
    ·have hj:=glt hd
     exact (ih2 j _ d (List.getElem?_eq_getElem (by omega)) hd).1 _ (q4 j _ (List.getElem?_eq_getElem (by omega)))
  exact ⟨h1,frz_cells1 (H:=s.H) rfl rfl h1⟩
theorem RelF.live_lt (R:RelF X F loc s a w) {b:Nat} (h:F b∨Live s loc b):b<w.heap.size:=by
 rcases h with h|⟨r,o,ho,rfl⟩
 ·exact R.hF b h
 ·obtain ⟨_,vs,hv,_⟩:=R.obj r o ho
  exact (Array.getElem?_eq_some_iff.1 hv).1
end

inductive FlatF : FV → Prop
  | v (x : Value) : FlatF (.v x)
  | agg (cs : List FV) (h : ∀ (j : Nat) c, cs[j]? = some c → FlatF c) : FlatF (.agg cs)
  | tup (cs : List FV) (h : ∀ (j : Nat) c, cs[j]? = some c → FlatF c) : FlatF (.tup cs)
theorem FlatF.rep {x:FV} (hx:FlatF x) {w w':World} {F F':Nat→Prop} {y:Value} (h:RepF w F x y):RepF w' F' x y:=by
 induction hx generalizing y with
 | v x=>cases h;exact .v x
 | agg cs _ ih=>cases h with|agg _ vs hl hc=>exact .agg cs vs hl fun j c hj=>ih j c hj (hc j c hj)
 | tup cs _ ih=>cases h with|tup _ vs hl hc=>exact .tup cs vs hl fun j c hj=>ih j c hj (hc j c hj)
def enterOk (P:Program) (f:FuncId):Bool :=
 match P.funcs[f]? with
 | some fn => fn.name != "runtime.NumGoroutine" && fn.body.isSome
 | none=>false
def Good (P:Program) (f:FuncId) (xs:List FV) (r:FV):Prop :=
 enterOk P f=true∧∀(w:World) (G:Nat→Prop) (ys:Array Value),TabW w→(∀b,G b→b<w.heap.size)→RepFL w G xs ys →
  Calls P f ys w fun e w'=>∃v,e=.returned v∧Beyond (fun _=>False) w w'∧RepF w' (fun b=>G b∨(w.heap.size≤b∧b<w'.heap.size)) r v
def Fresh (P:Program) (f:FuncId) (xs:List FV) (r:FV):Prop :=
 ∀(w:World) (G:Nat→Prop) (ys:Array Value),TabW w→(∀b,G b→b<w.heap.size)→RepFL w G xs ys →
  Calls P f ys w fun e w'=>∃v,e=.returned v∧Beyond (fun _=>False) w w'∧RepF w' (fun b=>w.heap.size≤b∧b<w'.heap.size) r v
abbrev Hal (P:Program) (f:FuncId) (xs:List AV) (zs:List FV) (r:FV):Prop:=(∀x∈xs,∃y,x=.f y)∨FlatF r∨Fresh P f zs r
inductive RV where
  | f (x : FV)
  | own (e : TypeId) (sz : Nat) (es : List FV)
inductive RepR (w0 w : World) : RV → Value → Prop
  | f (x : FV) (y : Value) (hf : FlatF x) (h : RepF w (fun _ => False) x y) : RepR w0 w (.f x) y
  | own (e : TypeId) (sz : Nat) (es : List FV) (g cap : Nat) (hb : w0.heap.size ≤ g) (hk : es.length ≤ cap) (hm : cap ≤ maxLen) (hf : ∀ x ∈ es, FlatF x) (hu : UniF sz es) (vs : Array Value) (hv : w.heap[g]? = some (.cells vs e (0, 0)))
      (hs : vs.size = cap * sz) (hc : ∀ (j : Nat) c, (flatF es)[j]? = some c → ∃ u, vs[j]? = some u ∧ RepF w (fun _ => False) c u) : RepR w0 w (.own e sz es) (.slice (some ⟨g, 0, none⟩) es.length cap)
def GoodO (P:Program) (f:FuncId) (xs:List FV) (r:RV):Prop :=
 enterOk P f=true∧∀(w:World) (G:Nat→Prop) (ys:Array Value),TabW w→(∀b,G b→b<w.heap.size)→RepFL w G xs ys →
  Calls P f ys w fun e w'=>∃v,e=.returned v∧Beyond (fun _=>False) w w'∧RepR w w' r v
def GoodOT (P:Program) (f:FuncId) (xs:List FV) (r:RV) (rs:List FV):Prop :=
 enterOk P f=true∧∀(w:World) (G:Nat→Prop) (ys:Array Value),TabW w→(∀b,G b→b<w.heap.size)→RepFL w G xs ys →
  Calls P f ys w fun e w'=>∃v vs,e=.returned (.tuple (#[v]++vs))∧Beyond (fun _=>False) w w'∧RepR w w' r v∧(∀x∈rs,FlatF x)∧RepFL w' (fun _=>False) rs vs
def GoodM (P:Program) (f:FuncId) (xs:List AV) (H0:List AO) (r:FV):Prop :=
 enterOk P f=true∧∀(w:World) (G:Nat→Prop) (loc:Nat→Nat × Nat) (ys:Array Value),(TabW w∧∀t∈tabs,∀(i:Nat) o,H0[i]?=some o→(loc i).1≠t.1)→(∀b,G b→b<w.heap.size) →
  (xs.length=ys.size∧∀(j:Nat) x,xs[j]?=some x→Rep w G loc H0.length x (ys.getD j undef)) →
  (∀(i:Nat) o,H0[i]?=some o→ObjAt w G loc H0.length i o∧¬G (loc i).1) →
  (∀(i i':Nat) o o',H0[i]?=some o→H0[i']?=some o'→(loc i).1=(loc i').1→i=i') →
  Calls P f ys w fun e w'=>∃v,e=.returned v∧Beyond (fun b=>∃i o,H0[i]?=some o∧(loc i).1=b) w w'∧RepF w' (fun b=>G b∨(∃i o,H0[i]?=some o∧(loc i).1=b)∨(w.heap.size≤b∧b<w'.heap.size)) r v
theorem Good.mono {P:Program} {f:FuncId} {xs:List FV} {r r':FV} (h:Good P f xs r) (e:r=r'):Good P f xs r':=e▸h

section
variable {P : Program} {X : Cx} {w : World} {F : Nat → Prop} {loc : Nat → Nat × Nat} {s : AS} {a : Act}
theorem beyond_step_le {w w':World} (hb:Beyond (fun _=>False) w w') (b:Nat) (h:b<w.heap.size):b<w'.heap.size:=Nat.lt_of_lt_of_le h hb.size
theorem call_good (R:RelF X F loc s a w) {f:FuncId} {xs:List AV} {ys:Array Value} (hxs:xs.length=ys.size∧∀(j:Nat) x,xs[j]?=some x→Rep w F loc s.H.length x (ys.getD j undef)) {zs:List FV} {r:FV} (hz:FrzL s.H xs zs) (hg:Good P f zs r)
  (hal:Hal P f xs zs r) {d:Option Tmp} (hd:∀j,d=some j→X.kp j=false) {K:Act→World→Prop} (hK:∀a' w',Rel X (s.put d (.f r)) a' w'→K a' w') {Q:Ending→World→Prop} (hQ:∀v w',K (a.put d v) w'→Q (.returned v) w'):Calls P f ys w Q:=by
 rcases hal with hal|hal|hal
 ·refine (hg.2 w F ys R.tabW R.hF ⟨by rw [←hz.1];exact hxs.1,fun j x hj=>?_⟩).mono ?_
  ·have hjl:=glt hj
   have hxj:=List.getElem?_eq_getElem (l:=xs) (i:=j) (by rw [hz.1];exact hjl)
   have h1:=hxs.2 j _ hxj
   have h2:=hz.2 j _ x hxj hj
   obtain ⟨y,hy⟩:=hal _ (List.getElem_mem (by rw [hz.1];exact hjl))
   rw [hy] at h1 h2
   cases h2 with
   | f=>cases h1 with|f _ _ h=>exact h
   | nil=>rw [v_rep h1];exact .fz0 _ _ _ (by unfold maxLen;omega)
  ·rintro e w' ⟨v,rfl,hb,hr⟩
   refine hQ v w' (hK _ _ ⟨_,loc,(R.step (F':=fun b=>F b∨(w.heap.size≤b∧b<w'.heap.size)) hb (fun b h=>.inl h) (fun b h=>?_) (fun b h=>?_)).put d (.f _ _ hr) hd⟩)
   ·rcases h with h|h
    ·exact beyond_step_le hb b (R.hF b h)
    ·exact h.2
   ·rcases h with h|h
    ·exact .inl h
    ·exact .inr h.1
 ·refine (hg.2 w (fun b=>F b∨Live s loc b) ys R.tabW (fun b h=>R.live_lt h) ⟨by rw [←hz.1];exact hxs.1,fun j x hj=>?_⟩).mono ?_
  ·have hjl:=glt hj
   have hxj:=List.getElem?_eq_getElem (l:=xs) (i:=j) (by rw [hz.1];exact hjl)
   exact ((hz.2 j _ x hxj hj).rep R).1 _ (hxs.2 j _ hxj)
  ·rintro e w' ⟨v,rfl,hb,hr⟩
   exact hQ v w' (hK _ _ ⟨F,loc,(R.step hb (fun b h=>h) (fun b h=>beyond_step_le hb b (R.hF b h)) (fun b h=>.inl h)).put d (.f _ _ (hal.rep hr)) hd⟩)
 ·refine (hal w (fun b=>F b∨Live s loc b) ys R.tabW (fun b h=>R.live_lt h) ⟨by rw [←hz.1];exact hxs.1,fun j x hj=>?_⟩).mono ?_
  ·have hjl:=glt hj
   have hxj:=List.getElem?_eq_getElem (l:=xs) (i:=j) (by rw [hz.1];exact hjl)
   exact ((hz.2 j _ x hxj hj).rep R).1 _ (hxs.2 j _ hxj)
  ·rintro e w' ⟨v,rfl,hb,hr⟩
   have hr':RepF w' (fun b=>F b∨(w.heap.size≤b∧b<w'.heap.size)) r v:=hr.mono (fun _ h=>.inr h) fun _ _ _ _ h=>h
   refine hQ v w' (hK _ _ ⟨_,loc,(R.step (F':=fun b=>F b∨(w.heap.size≤b∧b<w'.heap.size)) hb (fun b h=>.inl h) (fun b h=>?_) (fun b h=>?_)).put d (.f _ _ hr') hd⟩)
   ·rcases h with h|h
    ·exact beyond_step_le hb b (R.hF b h)
    ·exact h.2
   ·rcases h with h|h
    ·exact .inl h
    ·exact .inr h.1
theorem RelF.adopt (R:RelF X F loc s a w) {g:Nat} {o:AO} {vs:Array Value} (hg:X.w0.heap.size≤g∨X.O g) (hnF:¬F g) (hnl:¬Live s loc g) (hu:Uni o.sz o.es) (hv:w.heap[g]?=some (.cells vs o.e (0,0)))
  (hc:∀(j:Nat) c,(flat o.es)[j]?=some c→∃u,vs[j]?=some u∧Rep w F loc s.H.length c u):RelF X F (ext loc s.H.length (g,vs.size)) { s with H:=s.H++[some o] } a w:=by
 have hll:∀r,r<s.H.length→ext loc s.H.length (g,vs.size) r=loc r:=fun r h=>ext_lt h
 have T:Tr F loc s.H.length w F (ext loc s.H.length (g,vs.size)) (s.H++[some o]).length w:=Tr.old (fun _ _=>rfl) (fun _ h=>h) (by simp) hll
 have hobj:∀r q,(s.H++[some o])[r]?=some (some q)→(s.H[r]?=some (some q)∧r<s.H.length)∨(r=s.H.length∧q=o):=fun r q h=>by
  rcases Nat.lt_trichotomy r s.H.length with h'|h'|h'
  ·rw [List.getElem?_append_left h'] at h;exact .inl ⟨h,h'⟩
  ·subst h';simp at h;exact .inr ⟨rfl,h.symm⟩
  ·rw [List.getElem?_eq_none (by simp;omega)] at h;cases h
 refine ⟨R.hF,R.hG,R.hN,R.below,R.defers,R.len,fun j x h=>(R.tmps j x h).tr T,fun r q h=>?_,fun r q h=>?_,fun r q h hf=>?_,fun r r' q q' h h' e=>?_⟩
 ·rcases hobj r q h with ⟨h,hr⟩|⟨rfl,rfl⟩
  ·exact (R.obj r q h).tr T hr rfl
  ·refine ⟨hu,vs,by rw [ext_self];exact hv,by rw [ext_self],fun j c hj=>?_⟩
   obtain ⟨u,h1,h2⟩:=hc j c hj
   exact ⟨u,h1,h2.tr T⟩
 ·rcases hobj r q h with ⟨h,hr⟩|⟨rfl,rfl⟩
  ·rw [hll r hr];exact R.new r q h
  ·rw [ext_self];exact hg
 ·rcases hobj r q h with ⟨h,hr⟩|⟨rfl,rfl⟩
  ·rw [hll r hr] at hf;exact R.nF r q h hf
  ·rw [ext_self] at hf;exact hnF hf
 ·rcases hobj r q h with ⟨h1,hr⟩|⟨rfl,h1⟩<;>rcases hobj r' q' h' with ⟨h2,hr'⟩|⟨rfl,h2⟩
  ·rw [hll r hr,hll r' hr'] at e;exact R.inj r r' q q' h1 h2 e
  ·rw [hll r hr] at e;rw [ext_self] at e;exact (hnl ⟨r,q,h1,e⟩).elim
  ·rw [hll r' hr'] at e;rw [ext_self] at e;exact (hnl ⟨r',q',h2,e.symm⟩).elim
  ·rfl
def RV.av (n:Nat):RV→AV
 | .f x=>.f x
 | .own e sz es=>.own n sz 0 es.length
def RV.hp:RV→List (Option AO)
 | .f x=>[]
 | .own e sz es=>[some ⟨e,sz,es.map .f⟩]
theorem RelF.result (R:RelF X F loc s a w) {w0 w':World} (hw:w=w') {r:RV} {v:Value} (h:RepR w0 w r v) (hX:X.w0.heap.size≤w0.heap.size) (hF:∀b,F b→b<w0.heap.size) (hL:∀b,Live s loc b→b<w0.heap.size) :
  ∃loc',RelF X F loc' { s with H:=s.H++r.hp } a w∧Rep w F loc' (s.H++r.hp).length (r.av s.H.length) v:=by
 cases h with
 | f x y hf h=>exact ⟨loc,by simpa [RV.hp] using R,by simpa [RV.hp,RV.av] using (Rep.f x v (hf.rep h):Rep w F loc s.H.length (.f x) v)⟩
 | own e sz es g cap hb hk hm hf hu vs hv hs hc =>
  refine ⟨_,R.adopt (g:=g) (o:=⟨e,sz,es.map .f⟩) (vs:=vs) (.inl (by omega)) (fun h=>by have:=hF g h;omega) (fun h=>by have:=hL g h;omega) (uni_f.2 hu) hv (fun j c hj=>?_),?_⟩
  ·rw [flat_f,List.getElem?_map] at hj
   cases hcj:(flatF es)[j]? with
   | none=>rw [hcj] at hj;cases hj
   | some c' =>
    rw [hcj] at hj
    cases hj
    obtain ⟨u,h1,h2⟩:=hc j c' hcj
    exact ⟨u,h1,.f _ _ (h2.mono (fun _ h=>h.elim) (fun _ _ _ h=>h.elim))⟩
  ·have:=Rep.own (w:=w) (F:=F) (loc:=ext loc s.H.length (g,vs.size)) (N:=(s.H++[some (⟨e,sz,es.map AV.f⟩:AO)]).length) s.H.length sz 0 es.length cap (by simp) hk hm (by rw [ext_self,hs,Nat.zero_add])
   rw [ext_self,Nat.zero_mul] at this
   exact this
theorem call_goodO (R:RelF X F loc s a w) {f:FuncId} {xs:List AV} {ys:Array Value} (hxs:xs.length=ys.size∧∀(j:Nat) x,xs[j]?=some x→Rep w F loc s.H.length x (ys.getD j undef)) {zs:List FV} {r:RV} (hz:FrzL s.H xs zs) (hg:GoodO P f zs r)
  {d:Option Tmp} (hd:∀j,d=some j→X.kp j=false) {K:Act→World→Prop} (hK:∀a' w',Rel X (AS.put ⟨s.t,s.H++r.hp⟩ d (r.av s.H.length)) a' w'→K a' w') {Q:Ending→World→Prop} (hQ:∀v w',K (a.put d v) w'→Q (.returned v) w'):Calls P f ys w Q:=by
 refine (hg.2 w (fun b=>F b∨Live s loc b) ys R.tabW (fun b h=>R.live_lt h) ⟨by rw [←hz.1];exact hxs.1,fun j x hj=>?_⟩).mono ?_
 ·have hjl:=glt hj
  have hxj:=List.getElem?_eq_getElem (l:=xs) (i:=j) (by rw [hz.1];exact hjl)
  exact ((hz.2 j _ x hxj hj).rep R).1 _ (hxs.2 j _ hxj)
 ·rintro e w' ⟨v,rfl,hb,hr⟩
  have R':=R.step hb (fun b h=>h) (fun b h=>beyond_step_le hb b (R.hF b h)) (fun b h=>.inl h)
  obtain ⟨loc',h1,h2⟩:=R'.result rfl hr R.below.size R.hF (fun b h=>R.live_lt (.inr h))
  exact hQ v w' (hK _ _ ⟨F,loc',h1.put d h2 hd⟩)
theorem call_goodOT (R:RelF X F loc s a w) {f:FuncId} {xs:List AV} {ys:Array Value} (hxs:xs.length=ys.size∧∀(j:Nat) x,xs[j]?=some x→Rep w F loc s.H.length x (ys.getD j undef)) {zs:List FV} {r:RV} {rs:List FV} (hz:FrzL s.H xs zs) (hg:GoodOT P f zs r rs)
  {d:Option Tmp} (hd:∀j,d=some j→X.kp j=false) {K:Act→World→Prop} (hK:∀a' w',Rel X (AS.put ⟨s.t,s.H++r.hp⟩ d (.tup (r.av s.H.length::rs.map .f))) a' w'→K a' w') {Q:Ending→World→Prop} (hQ:∀v w',K (a.put d v) w'→Q (.returned v) w'):Calls P f ys w Q:=by
 refine (hg.2 w (fun b=>F b∨Live s loc b) ys R.tabW (fun b h=>R.live_lt h) ⟨by rw [←hz.1];exact hxs.1,fun j x hj=>?_⟩).mono ?_
 ·have hjl:=glt hj
  have hxj:=List.getElem?_eq_getElem (l:=xs) (i:=j) (by rw [hz.1];exact hjl)
  exact ((hz.2 j _ x hxj hj).rep R).1 _ (hxs.2 j _ hxj)
 ·rintro e w' ⟨v,vs,rfl,hb,hr,hrs,hrl⟩
  have R':=R.step hb (fun b h=>h) (fun b h=>beyond_step_le hb b (R.hF b h)) (fun b h=>.inl h)
  obtain ⟨loc',h1,h2⟩:=R'.result rfl hr R.below.size R.hF (fun b h=>R.live_lt (.inr h))
  refine hQ _ w' (hK _ _ ⟨F,loc',h1.put d (.tup _ _ (by have:=hrl.1;simp;omega) fun j c hj=>?_) hd⟩)
  cases j with
  | zero =>
   simp at hj;subst hj
   have:(#[v]++vs).getD 0 undef=v:=by simp [Array.getD_eq_getD_getElem?,Array.getElem?_append]
   rw [this];exact h2
  | succ j =>
   simp only [List.getElem?_cons_succ,List.getElem?_map] at hj
   cases hrj:rs[j]? with
   | none=>rw [hrj] at hj;cases hj
   | some x =>
    rw [hrj] at hj
    cases hj
    have:(#[v]++vs).getD (j+1) undef=vs.getD j undef:=by simp [Array.getD_eq_getD_getElem?,Array.getElem?_append]
    rw [this]
    exact .f _ _ ((hrs x (List.mem_of_getElem? hrj)).rep (hrl.2 j x hrj))
theorem RelF.drop (R:RelF X F loc s a w) {H':List (Option AO)} (hl:H'.length=s.H.length) (hs:∀(q:Nat) o,H'[q]?=some (some o)→s.H[q]?=some (some o)):RelF X F loc { s with H:=H' } a w :=
 ⟨R.hF,R.hG,R.hN,R.below,R.defers,R.len,fun j x h=>by show Rep w F loc H'.length x _;rw [hl];exact R.tmps j x h,fun q p h=>by show ObjAt w F loc H'.length q p;rw [hl];exact R.obj q p (hs q p h),fun q p h=>R.new q p (hs q p h),fun q p h=>R.nF q p (hs q p h),fun q q' p p' h h'=>R.inj q q' p p' (hs q p h) (hs q' p' h')⟩
theorem call_goodM (R:RelF X F loc s a w) {f:FuncId} {xs:List AV} {ys:Array Value} (hxs:xs.length=ys.size∧∀(j:Nat) x,xs[j]?=some x→Rep w F loc s.H.length x (ys.getD j undef)) {zs:List AV} {H0:List AO} {g:Nat→Nat} {r:FV} (hz:zs.map (AV.ren g)=xs)
  (hzl:∀z∈zs,z.lt0 H0.length=true) (hg:GoodM P f zs H0 r) (hinj:∀i i',i<H0.length→i'<H0.length→g i=g i'→i=i')
  (hobj:∀(i:Nat) o,H0[i]?=some o→s.H[g i]?=some (some ⟨o.e,o.sz,o.es.map (AV.ren g)⟩)∧∀e∈o.es,e.lt0 H0.length=true) {H':List (Option AO)} (hl:H'.length=s.H.length)
  (hH':∀(q:Nat) o,H'[q]?=some (some o)→s.H[q]?=some (some o)∧∀i,i<H0.length→g i≠q)
  {d:Option Tmp} (hd:∀j,d=some j→X.kp j=false) {K:Act→World→Prop} (hK:∀a' w',Rel X (AS.put ⟨s.t,H'⟩ d (.f r)) a' w'→K a' w') {Q:Ending→World→Prop} (hQ:∀v w',K (a.put d v) w'→Q (.returned v) w'):Calls P f ys w Q:=by
 have lt:∀{i:Nat} {o:AO},H0[i]?=some o→i<H0.length:=fun h=>(List.getElem?_eq_some_iff.1 h).1
 refine (hg.2 w F (fun i=>loc (g i)) ys ⟨R.tabW,fun t ht i o hi=>R.tabO t ht _ _ (hobj i o hi).1⟩ R.hF ⟨by rw [←hxs.1,←hz,List.length_map],fun j z hj=>?_⟩ (fun i o hi=>⟨?_,R.nF _ _ (hobj i o hi).1⟩) fun i i' o o' h h' e=>hinj i i' (lt h) (lt h') (R.inj _ _ _ _ (hobj i o h).1 (hobj i' o' h').1 e)).mono ?_
 ·have:=hxs.2 j (z.ren g) (by rw [←hz,List.getElem?_map,hj];rfl)
  exact this.ren0 (hzl z (List.mem_of_getElem? hj))
 ·obtain ⟨h1,h2⟩:=hobj i o hi
  obtain ⟨hu,vs,hv,hzz,hc⟩:=R.obj _ _ h1
  refine ⟨fun e he=>?_,vs,hv,hzz,fun j c hj=>?_⟩
  ·have:=hu _ (List.mem_map.2 ⟨e,he,rfl⟩)
   rw [ren_cells (h2 e he),List.length_map,ren_st] at this
   exact this
  ·obtain ⟨e,he,hce⟩:=List.mem_flatMap.1 (List.mem_of_getElem? hj)
   obtain ⟨u,h3,h4⟩:=hc j (c.ren g) (by rw [show flat (List.map (AV.ren g) o.es)=_ from ren_flat h2,List.getElem?_map,hj];rfl)
   exact ⟨u,h3,h4.ren0 (lt0_cells (h2 e he) c hce)⟩
 ·rintro e w' ⟨v,rfl,hb,hr⟩
  have R1:=R.drop hl fun q o h=>(hH' q o h).1
  have blt:∀b,(∃i o,H0[i]?=some o∧(loc (g i)).1=b)→b<w.heap.size:=by
   rintro b ⟨i,o,hi,rfl⟩
   obtain ⟨_,vs,hv,_⟩:=R.obj _ _ (hobj i o hi).1
   exact (Array.getElem?_eq_some_iff.1 hv).1
  refine hQ v w' (hK _ _ ⟨_,loc,(R1.stepO (F':=fun b=>F b∨(∃i o,H0[i]?=some o∧(loc (g i)).1=b)∨(w.heap.size≤b∧b<w'.heap.size)) (O:=fun b=>∃i o,H0[i]?=some o∧(loc (g i)).1=b) ?_ ?_ ?_ hb (fun b h=>.inl h) (fun b h=>?_) fun b h=>?_).put d (.f _ _ hr) hd⟩)
  ·rintro b ⟨i,o,hi,rfl⟩
   exact (R.new _ _ (hobj i o hi).1).symm
  ·rintro b hf ⟨i,o,hi,rfl⟩
   exact R.nF _ _ (hobj i o hi).1 hf
  ·rintro q p hq ⟨i,o,hi,he⟩
   obtain ⟨h1,h2⟩:=hH' q p hq
   exact h2 i (lt hi) (R.inj _ _ _ _ (hobj i o hi).1 h1 he)
  ·rcases h with h|h|h
   ·exact Nat.lt_of_lt_of_le (R.hF b h) hb.size
   ·exact Nat.lt_of_lt_of_le (blt b h) hb.size
   ·exact h.2
  ·rcases h with h|h|h
   ·exact .inl h
   ·exact .inr (.inl h)
   ·exact .inr (.inr h.1)
end
end

section
open Go Go.RowKit

abbrev AH:=List (Option AO)
def aBox (t:TypeId) (T:TI) (H:AH) (x:AV) (k:AV→AH→Prop):Prop :=
 x.st=true∧x.cells.length=T.size∧k (.ptr H.length T.size 0 0) (H++[some ⟨t,T.size,[x]⟩])
def aAlloc (t:TypeId) (T:TI) (H:AH) (k:AV→AH→Prop):Prop :=
 match T.zero with
 | some z=>z.st=true∧z.cells.length=T.size∧k (.ptr H.length T.size 0 0) (H++[some ⟨t,T.size,[.f z]⟩])
 | none=>False
def aStore (T:TI) (H:AH) (x y:AV) (k:AH→Prop):Prop :=
 match x with
 | .ptr r sz i j=>∃o,H[r]?=some (some o)∧o.sz=sz∧y.st=true∧y.cells.length=T.size∧∃e,o.es[i]?=some e ∧
   (if j=0∧T.size=sz then k (H.set r (some ⟨o.e,sz,o.es.set i y⟩)) else j+T.size≤sz∧k (H.set r (some ⟨o.e,sz,o.es.set i (mkA (setR e.cells j y.cells))⟩)))
 | _=>False
def aMake (e:TypeId) (T:TI) (H:AH) (n c:AV) (k:AV→AH→Prop):Prop :=
 match T.zero,n,c with
 | some z,.f (.v (.int _ n)),.f (.v (.int _ c))=>(0≤n∧n≤c)∧((T.bytes:Int)*c≤281474976710656∧c≤9223372036854775807)∧z.st=true∧z.cells.length=T.size∧0<T.size∧k (.own H.length T.size 0 n.toNat) (H++[some ⟨e,T.size,List.replicate n.toNat (.f z)⟩])
 | _,_,_=>False
def fillE (sz:Nat):List AV→List (Nat × AV)→Option (List AV)
 | es,[]=>some es
 | es,(i,x)::ps=>if i<es.length∧x.st=true∧x.cells.length=sz then fillE sz (es.set i x) ps else none
def aBuildSlice (e:TypeId) (T:TI) (H:AH) (len:Nat) (ps:List (Nat × AV)) (k:AV→AH→Prop):Prop :=
 match T.zero with
 | some z=>z.st=true∧z.cells.length=T.size∧0<T.size∧len*T.size≤16777216∧∃es,fillE T.size (List.replicate len (.f z)) ps=some es∧k (.own H.length T.size 0 len) (H++[some ⟨e,T.size,es⟩])
 | none=>False
def newsOf (H:AH) (sz:Nat) (y:AV) (k:List AV→Prop):Prop :=
 match y with
 | .f (.fz sz' es)=>sz'=sz∧k (es.map .f)
 | .own r sz' off n=>sz'=sz∧∃o,H[r]?=some (some o)∧o.sz=sz∧off+n≤o.es.length∧k ((o.es.drop off).take n)
 | .f (.v (.slice none 0 0))=>k []
 | _=>False
def aAppend (e:TypeId) (T:TI) (H:AH) (x y:AV) (k:AV→AH→Prop):Prop :=
 newsOf H T.size y fun news=>match T.zero with
  | some z=>z.cells.length=T.size∧0<T.size∧0<T.bytes∧(match x with
   | .f (.v (.slice none 0 0))=>0<news.length∧news.length*T.bytes≤140737488355328∧k (.own H.length T.size 0 news.length) (H++[some ⟨e,T.size,news⟩])
   | .own r sz 0 n=>sz=T.size∧∃o,H[r]?=some (some o)∧o.e=e∧o.sz=sz∧n≤o.es.length∧(n+news.length)*T.bytes≤140737488355328∧k (.own H.length T.size 0 (n+news.length)) (H.set r none++[some ⟨e,T.size,o.es.take n++news⟩])
   | _=>False)
  | none=>False

section
variable {P : Program} {X : Cx} {w : World} {F : Nat → Prop} {loc : Nat → Nat × Nat} {s : AS} {a : Act}
theorem box_rel (R:RelF X F loc s a w) {t:TypeId} {sz:Nat} {x:AV} {y:Value} (hx:Rep w F loc s.H.length x y) (hs:x.st=true) (hl:x.cells.length=sz) :
  RelF X F (ext loc s.H.length (w.heap.size,y.cells.size)) { s with H:=s.H++[some ⟨t,sz,[x]⟩] } a (w.alloc (.cells y.cells t))∧Rep (w.alloc (.cells y.cells t)) F (ext loc s.H.length (w.heap.size,y.cells.size)) (s.H++[some (⟨t,sz,[x]⟩:AO)]).length (.ptr s.H.length sz 0 0) (.pointer (some ⟨w.heap.size,0,none⟩)):=by
 obtain ⟨_,hc⟩:=hx.cells hs
 refine ⟨R.alloc ⟨t,sz,[x]⟩ y.cells (Uni.cons ⟨hl,hs⟩ (Uni.nil _)) fun j c hj=>?_,?_⟩
 ·have hj':x.cells[j]?=some c:=by simpa [flat] using hj
  obtain ⟨u,h1,h2,_⟩:=hc j c hj'
  exact ⟨u,h1,h2⟩
 ·have:=Rep.ptr (w:=w.alloc (.cells y.cells t)) (F:=F) (loc:=ext loc s.H.length (w.heap.size,y.cells.size)) (N:=(s.H++[some (⟨t,sz,[x]⟩:AO)]).length) s.H.length sz 0 0 (by simp)
  rwa [ext_self,Nat.zero_mul,Nat.add_zero] at this
theorem setCells {e y:AV} {sz j:Nat} (he:e.cells.length=sz∧e.st=true) (hy:y.st=true) (hj:j+y.cells.length≤sz) (hne:¬(j=0∧y.cells.length=sz)):(AV.agg (setR e.cells j y.cells)).cells.length=sz∧(AV.agg (setR e.cells j y.cells)).st=true:=by
 have hoc:∀(z:AV),z.st=true→∀c∈z.cells,c.oc=true:=fun z hz c hc=>by
  cases z with
  | agg cs=>exact List.all_eq_true.1 (show cs.all AV.oc=true from hz) c hc
  | f x =>
   rw [cells_f] at hc
   obtain ⟨d,hd,rfl⟩:=List.mem_map.1 hc
   cases x with
   | agg cs=>exact List.all_eq_true.1 (show cs.all FV.oc=true from hz) d hd
   | _=>simp only [FV.cells,List.mem_singleton] at hd;subst hd;exact hz
  | _=>simp only [AV.cells,List.mem_singleton] at hc;subst hc;first|exact hz|cases hz
 refine ⟨by show (setR e.cells j y.cells).length=sz;rw [setR_len (by omega)];exact he.1,List.all_eq_true.2 fun c hc=>?_⟩
 unfold setR at hc
 rcases List.mem_append.1 hc with hc|hc
 ·exact hoc e he.2 c (List.mem_of_mem_take hc)
 ·rcases List.mem_append.1 hc with hc|hc
  ·exact hoc y hy c hc
  ·exact hoc e he.2 c (List.mem_of_mem_drop hc)
theorem store_rel (R:RelF X F loc s a w) {t:TypeId} {T:TI} (hT:tI P t=some T) {x y:AV} {u v:Value} (hx:Rep w F loc s.H.length x u) (hy:Rep w F loc s.H.length y v) {k:AH→Prop} (h:aStore T s.H x y k) :
  ∃H' w',k H'∧(Instr.storeAt t u v).run P w=.ok () w'∧RelF X F loc ⟨s.t,H'⟩ a w'∧H'.length=s.H.length:=by
 unfold aStore at h
 split at h
 ·rename_i r sz i j
  obtain ⟨o,ho,rfl,hst,hyl,e,he,hk⟩:=h
  cases hx with
  | ptr _ _ _ _ hr =>
   obtain ⟨hu,vs,hvs,_,hcells⟩:=R.obj r o ho
   obtain ⟨hvl,hvc⟩:=hy.cells hst
   have hel:=hu e (List.mem_of_getElem? he)
   have hil:=glt he
   have hjle:j+T.size≤o.sz:=by
    split at hk
    ·rename_i hc;omega
    ·exact hk.1
   -- the new element
   have hnew:∃e':AV,(e'.cells.length=o.sz∧e'.st=true)∧(∀m,e'.cells[m]?=if j≤m∧m<j+y.cells.length then y.cells[m-j]? else e.cells[m]?)∧k (s.H.set r (some ⟨o.e,o.sz,o.es.set i e'⟩)):=by
    split at hk
    ·rename_i hc
     obtain ⟨rfl,hz⟩:=hc
     refine ⟨y,⟨by omega,hst⟩,fun m=>?_,hk⟩
     by_cases hm:m<y.cells.length
     ·rw [if_pos (by omega),Nat.sub_zero]
     ·rw [if_neg (by omega),List.getElem?_eq_none (by omega),List.getElem?_eq_none (by omega)]
    ·rename_i hc
     refine ⟨mkA (setR e.cells j y.cells),⟨by rw [mkA_cells];exact (setCells hel hst (by omega) (by omega)).1,mkA_st (setCells hel hst (by omega) (by omega)).2⟩,fun m=>?_,hk.2⟩
     rw [mkA_cells];exact setR_get (by omega) m
   obtain ⟨e',he',hget,hk⟩:=hnew
   have hvsz:o.es.length*o.sz≤vs.size:=by
    rcases Nat.eq_zero_or_pos (o.es.length*o.sz) with h0|h0
    ·omega
    ·have hfl:=flat_len hu
     have hlast:=List.getElem?_eq_getElem (l:=flat o.es) (i:=o.es.length*o.sz-1) (by omega)
     obtain ⟨_,h1,_⟩:=hcells _ _ hlast
     have:=(Array.getElem?_eq_some_iff.1 h1).1
     omega
   have hpos:i*o.sz+j+v.cells.toList.length≤vs.size:=by
    rw [Array.length_toList,←hvl]
    have:=Nat.mul_le_mul_right o.sz (show i+1≤o.es.length by omega)
    rw [Nat.add_mul] at this
    omega
   have hrun:=run_storeCells_at (P:=P) (loc r).1 (i*o.sz+j) o.e v.cells.toList 0 vs w hvs (by simpa using hpos) (fun z hz=>by
    obtain ⟨m,hm⟩:=List.getElem?_of_mem hz
    rw [Array.getElem?_toList] at hm
    have hml:m<y.cells.length:=by rw [hvl];exact (Array.getElem?_eq_some_iff.1 hm).1
    obtain ⟨z',h1,_,h3⟩:=hvc m _ (List.getElem?_eq_getElem hml)
    rw [h1] at hm;cases hm;exact h3)
   simp only [Nat.add_zero] at hrun
   rw [Array.length_toList] at hpos
   obtain ⟨vs',hvd⟩:∃vs':Array Value,vs'=(vs.toList.take (i*o.sz+j)++v.cells.toList++vs.toList.drop (i*o.sz+j+v.cells.toList.length)).toArray:=⟨_,rfl⟩
   rw [←hvd] at hrun
   have hvsz':vs'.size=vs.size:=by
    rw [hvd,List.size_toArray,List.length_append,List.length_append,List.length_take,List.length_drop,Array.length_toList,Array.length_toList];omega
   have hrun2:(Instr.storeAt t (.pointer (some ⟨(loc r).1,i*o.sz+j,none⟩)) v).run P w=.ok () (w.setRow (loc r).1 vs'):=by
    have hsz:v.cells.size=T.size:=by omega
    simp only [Instr.storeAt,Instr.sureAddr,storeVar,Sem.run_bind,Sem.run_pure,Result.andThen_ok,tI_size hT,hsz,ne_eq,not_true_eq_false,if_false]
    exact hrun
   refine ⟨_,_,hk,hrun2,R.upd ho hvs hvsz' rfl (setRow_heap w (loc r).1 vs _ o.e _ hvs) (fun b hb=>setRow_other w (loc r).1 b _ hb) (by simp) rfl rfl rfl (hu.set i he') (fun m c hm=>?_),by simp⟩
   replace hm:(flat (o.es.set i e'))[m]?=some c:=hm
   ·have hfl:=flat_len hu
    have hfl':(flat (o.es.set i e')).length=o.es.length*o.sz:=by rw [flat_len (hu.set i he')];simp
    have hml:m<o.es.length*o.sz:=by have:=glt hm;omega
    have hcat:(flat (o.es.set i e'))[m]?=if i*o.sz+j≤m∧m<i*o.sz+j+y.cells.length then y.cells[m-(i*o.sz+j)]? else (flat o.es)[m]?:=by
     have hz:0<o.sz:=by
      rcases Nat.eq_zero_or_pos o.sz with h0|h0
      ·rw [h0,Nat.mul_zero] at hml;omega
      ·exact h0
     have hq:m=(m/o.sz)*o.sz+m%o.sz:=by rw [Nat.mul_comm];exact (Nat.div_add_mod m o.sz).symm
     have hmod:=Nat.mod_lt m hz
     have hqi:m/o.sz=i→m=i*o.sz+m%o.sz:=fun e=>by rw [←e];exact hq
     have hqn:m/o.sz≠i→m<i*o.sz∨i*o.sz+o.sz≤m:=fun e=>by
      rcases Nat.lt_or_gt_of_ne e with h'|h'
      ·left
       have:=Nat.mul_le_mul_right o.sz (show m/o.sz+1≤i by omega)
       rw [Nat.add_mul] at this;omega
      ·right
       have:=Nat.mul_le_mul_right o.sz (show i+1≤m/o.sz by omega)
       rw [Nat.add_mul] at this;omega
     by_cases hi:m/o.sz=i
     ·have hmi:=hqi hi
      rw [hmi,flat_get (hu.set i he') hmod,flat_get hu hmod,List.getElem?_set_self hil,he]
      show e'.cells[m%o.sz]?=_
      rw [hget]
      by_cases hc:j≤m%o.sz∧m%o.sz<j+y.cells.length
      ·rw [if_pos hc,if_pos (by omega)]
       congr 1;omega
      ·rw [if_neg hc,if_neg (by omega)];rfl
     ·have hmn:=hqn hi
      rw [if_neg (by omega)]
      conv=>lhs;rw [hq]
      conv=>rhs;rw [hq]
      rw [flat_get (hu.set i he') hmod,flat_get hu hmod,List.getElem?_set_ne (Ne.symm hi)]
    rw [hcat] at hm
    have hvg:vs'[m]?=if i*o.sz+j≤m∧m<i*o.sz+j+v.cells.size then v.cells[m-(i*o.sz+j)]? else vs[m]?:=by
     rw [hvd,List.getElem?_toArray,List.append_assoc,List.getElem?_append]
     have h0:(vs.toList.take (i*o.sz+j)).length=i*o.sz+j:=by rw [List.length_take,Array.length_toList];omega
     rw [h0]
     by_cases h1:m<i*o.sz+j
     ·rw [if_pos h1,if_neg (by omega),List.getElem?_take,if_pos h1,Array.getElem?_toList]
     ·rw [if_neg h1,List.getElem?_append]
      by_cases h2:m-(i*o.sz+j)<v.cells.toList.length
      ·rw [if_pos h2,if_pos (by rw [Array.length_toList] at h2;omega),Array.getElem?_toList]
      ·rw [if_neg h2,if_neg (by rw [Array.length_toList] at h2;omega),List.getElem?_drop,Array.getElem?_toList]
       rw [Array.length_toList] at h2 ⊢
       congr 1;omega
    rw [hvg,←hvl]
    by_cases hc:i*o.sz+j≤m∧m<i*o.sz+j+y.cells.length
    ·rw [if_pos hc] at hm ⊢
     obtain ⟨z,h1,h2,_⟩:=hvc _ c hm
     exact ⟨z,h1,h2⟩
    ·rw [if_neg hc] at hm ⊢
     exact hcells m c hm
 ·cases h
theorem madeCells_get (z:Array Value) (n sz:Nat) (hz:z.size=sz) (m:Nat) (hm:m<n*sz):(madeCells z (n*sz))[m]?=z[m%sz]?:=by
 have h0:0<sz:=by
  rcases Nat.eq_zero_or_pos sz with h|h
  ·subst h;simp at hm
  ·exact h
 have:=Nat.mod_lt m h0
 simp [madeCells,hz,hm,Array.getElem?_eq_getElem (show m%sz<z.size by omega),getElem!_pos z (m%sz) (by omega)]
theorem flat_replicate {sz:Nat} {x:AV} (hx:x.cells.length=sz∧x.st=true) (n:Nat) {m:Nat} {c:AV} (h:(flat (List.replicate n x))[m]?=some c):m<n*sz∧x.cells[m%sz]?=some c:=by
 have hu:Uni sz (List.replicate n x):=fun e he=>by rw [List.eq_of_mem_replicate he];exact hx
 have hl:=glt h
 rw [flat_len hu,List.length_replicate] at hl
 have h0:0<sz:=by
  rcases Nat.eq_zero_or_pos sz with h|h
  ·subst h;simp at hl
  ·exact h
 have hq:m=(m/sz)*sz+m%sz:=by rw [Nat.mul_comm];exact (Nat.div_add_mod m sz).symm
 rw [hq,flat_get hu (Nat.mod_lt m h0)] at h
 refine ⟨hl,?_⟩
 rw [List.getElem?_replicate] at h
 split at h
 ·exact h
 ·cases h
theorem make_rel (R:RelF X F loc s a w) {t e:TypeId} {T:TI} (hT:tS P t=some (e,T)) {x y:AV} {u v:Value} (hx:Rep w F loc s.H.length x u) (hy:Rep w F loc s.H.length y v) {k:AV→AH→Prop} (h:aMake e T s.H x y k) :
  ∃q H' r w' loc',k q H'∧(Instr.makeSlice t u v).run P w=.ok r w'∧RelF X F loc' ⟨s.t,H'⟩ a w'∧Rep w' F loc' H'.length q r:=by
 obtain ⟨hu,hE⟩:=tS_elem hT
 unfold aMake at h
 split at h
 ·rename_i z kn n kc c hz
  obtain ⟨⟨h0,h1⟩,⟨h2,h3⟩,hst,hzl,hpos,hk⟩:=h
  have:=v_rep hx;subst this
  have:=v_rep hy;subst this
  obtain ⟨i,d,hi,hd,hsz,hby,hz0,_⟩:=tI_info hE
  obtain ⟨zv,hzr,hze⟩:=tI_zero hE hz w
  have hzi:i.zero=some zv:=by
   rw [hz] at hz0
   cases hq:i.zero with
   | none=>rw [hq] at hz0;cases hz0
   | some q =>
    have:(zeroValue e).run P w=.ok q w:=by simp [zeroValue,typeInfo,hi,hq]
    rw [this] at hzr;cases hzr;rfl
  have hrun:=run_make (P:=P) w t e i zv hu hi hzi kn kc n c h0 h1 (by rw [←hby];exact h2) h3
  have hzrep:RepF w F z zv:=hze▸RepF.ofV zv
  obtain ⟨hz1,hz2⟩:=hzrep.cells hst
  refine ⟨_,_,_,_,_,hk,hrun,R.alloc ⟨e,T.size,List.replicate n.toNat (.f z)⟩ _ (fun q hq=>by rw [List.eq_of_mem_replicate hq];exact (show (AV.f z).cells.length=T.size∧(AV.f z).st=true from ⟨by rw [cells_f_len];exact hzl,hst⟩)) (fun j c' hj=>?_),?_⟩
  ·obtain ⟨a1,a2⟩:=flat_replicate (sz:=T.size) (show (AV.f z).cells.length=T.size∧(AV.f z).st=true from ⟨by rw [cells_f_len];exact hzl,hst⟩) _ hj
   rw [cells_f,List.getElem?_map] at a2
   cases hcz:z.cells[j%T.size]? with
   | none=>rw [hcz] at a2;cases a2
   | some c'' =>
    rw [hcz] at a2
    cases a2
    obtain ⟨q,b1,b2,_⟩:=hz2 _ c'' hcz
    refine ⟨q,?_,.f _ _ b2⟩
    rw [←hsz]
    have hle:=Nat.mul_le_mul_right T.size (show n.toNat≤c.toNat by omega)
    rw [madeCells_get zv.cells c.toNat T.size (by omega) j (by omega)]
    exact b1
  ·have:=Rep.own (w:=w.alloc (.cells (madeCells zv.cells (c.toNat*i.size)) e)) (F:=F) (loc:=ext loc s.H.length (w.heap.size,(madeCells zv.cells (c.toNat*i.size)).size)) (N:=(s.H++[some (⟨e,T.size,List.replicate n.toNat (.f z)⟩:AO)]).length) s.H.length T.size 0 n.toNat c.toNat (by simp) (by omega) (by unfold maxLen;omega) (by
    rw [ext_self];simp [size_madeCells,hsz])
   rwa [ext_self,Nat.zero_mul] at this
 ·cases h
theorem fillE_sound {sz:Nat}:∀(ps:List (Nat × AV)) (qs:List (Nat × Value)) (es es':List AV) (vs:Array Value),Uni sz es→fillE sz es ps=some es'→CellsRep w F loc s.H.length (flat es) vs→ps.length=qs.length →
  (∀(j:Nat) p,ps[j]?=some p→∃q,qs[j]?=some q∧p.1=q.1∧Rep w F loc s.H.length p.2 q.2) →
  ∃vs',Instr.fill (fun i=>some (i*sz,sz)) vs qs=some vs'∧CellsRep w F loc s.H.length (flat es') vs'∧Uni sz es'∧es'.length=es.length:=by
 intro ps
 induction ps with
 | nil =>
  intro qs es es' vs hu h hc hl _
  cases h
  have:qs=[]:=List.eq_nil_of_length_eq_zero (by simpa using hl.symm)
  subst this
  exact ⟨vs,rfl,hc,hu,rfl⟩
 | cons p ps ih =>
  intro qs es es' vs hu h hc hl hr
  cases qs with
  | nil=>simp at hl
  | cons q qs =>
   obtain ⟨i,x⟩:=p
   obtain ⟨i',y⟩:=q
   obtain ⟨q',e0,e1,hxy⟩:=hr 0 (i,x) rfl
   cases e0
   simp only at e1
   subst e1
   unfold fillE at h
   split at h
   ·rename_i hcond
    obtain ⟨hi,hs,hz⟩:=hcond
    have hfl:=flat_len hu
    have hle:i*sz+x.cells.length≤(flat es).length:=by
     have:=Nat.mul_le_mul_right sz (show i+1≤es.length by omega)
     rw [Nat.add_mul] at this;omega
    obtain ⟨k1,k2⟩:=setR_rep hc hxy hs hle
    have hset:flat (es.set i x)=setR (flat es) (i*sz) x.cells:=by
     rw [flat_set hu hz hi];unfold setR;rw [hz]
    rw [←hset] at k2
    obtain ⟨vs',a1,a2,a3,a4⟩:=ih qs _ es' _ (hu.set i ⟨hz,hs⟩) h k2 (by simpa using hl) (fun j p hj=>hr (j+1) p (by simpa using hj))
    refine ⟨vs',?_,a2,a3,by rw [a4];simp⟩
    rw [←a1]
    have hyl:y.cells.size=sz:=by rw [←(hxy.cells hs).1];exact hz
    have k1':i*sz+y.cells.size≤vs.size:=k1
    have e:Instr.fill (fun i=>some (i*sz,sz)) vs ((i,y)::qs)=(if (y.cells.size≠sz||i*sz+y.cells.size>vs.size)=true then none else Instr.fill (fun i=>some (i*sz,sz)) (y.cells.zipIdx.foldl (fun cs p=>cs.setIfInBounds (i*sz+p.2) p.1) vs) qs):=rfl
    have hn:¬((y.cells.size≠sz||i*sz+y.cells.size>vs.size)=true):=by simp [hyl];omega
    rw [e,if_neg hn]
   ·cases h
theorem buildSlice_rel (R:RelF X F loc s a w) {t e:TypeId} {T:TI} (hT:tS P t=some (e,T)) {len:Nat} {ps:Array (Nat × Operand)} {k:AV→AH→Prop} (h:aBuildSlice e T s.H len (ps.toList.map fun p=>(p.1,s.ev p.2)) k) :
  ∃q H' r w' loc',k q H'∧(Instr.buildSlice t len (ps.map fun p=>(p.1,a.eval p.2))).run P w=.ok r w'∧RelF X F loc' ⟨s.t,H'⟩ a w'∧Rep w' F loc' H'.length q r:=by
 obtain ⟨hu,hE⟩:=tS_elem hT
 unfold aBuildSlice at h
 split at h
 ·rename_i z hz
  obtain ⟨hst,hzl,hpos,hlen,es,hes,hk⟩:=h
  obtain ⟨zv,hzr,hze⟩:=tI_zero hE hz w
  have hzrep:RepF w F z zv:=hze▸RepF.ofV zv
  obtain ⟨hz1,hz2⟩:=hzrep.cells hst
  have hun:Uni T.size (List.replicate len (AV.f z)):=fun q hq=>by rw [List.eq_of_mem_replicate hq];exact (show (AV.f z).cells.length=T.size∧(AV.f z).st=true from ⟨by rw [cells_f_len];exact hzl,hst⟩)
  have hc0:CellsRep w F loc s.H.length (flat (List.replicate len (.f z))) (madeCells zv.cells (len*T.size)):=by
   refine ⟨by rw [flat_len hun,size_madeCells,List.length_replicate],fun j c hj=>?_⟩
   obtain ⟨a1,a2⟩:=flat_replicate (sz:=T.size) (show (AV.f z).cells.length=T.size∧(AV.f z).st=true from ⟨by rw [cells_f_len];exact hzl,hst⟩) _ hj
   rw [cells_f,List.getElem?_map] at a2
   cases hcz:z.cells[j%T.size]? with
   | none=>rw [hcz] at a2;cases a2
   | some c'' =>
    rw [hcz] at a2
    cases a2
    obtain ⟨q,b1,b2,_⟩:=hz2 _ c'' hcz
    rw [Array.getD_eq_getD_getElem?,madeCells_get zv.cells len T.size (by omega) j a1,b1]
    exact .f _ _ b2
  obtain ⟨vs',f1,f2,f3,f4⟩:=fillE_sound (w:=w) (F:=F) (loc:=loc) (s:=s) (ps.toList.map fun p=>(p.1,s.ev p.2)) (ps.map fun p=>(p.1,a.eval p.2)).toList _ es _ hun hes hc0 (by simp) (fun j p hj=>by
   rw [List.getElem?_map] at hj
   cases hp:ps.toList[j]? with
   | none=>rw [hp] at hj;cases hj
   | some q =>
    rw [hp] at hj
    cases hj
    exact ⟨(q.1,a.eval q.2),by rw [Array.toList_map,List.getElem?_map,hp];rfl,rfl,R.ev _⟩)
  have hsize:vs'.size=len*T.size:=by rw [←f2.1,flat_len f3,f4,List.length_replicate]
  refine ⟨_,_,.slice (some ⟨w.heap.size,0,none⟩) len len,w.alloc (.cells vs' e),_,hk,?_,R.alloc ⟨e,T.size,es⟩ vs' f3 (fun j c hj=>?_),?_⟩
  ·have hn:¬(len*T.size>2^24):=by omega
   have hmade:(Array.range (len*T.size)).map (zv.cells[·% zv.cells.size]!)=madeCells zv.cells (len*T.size):=rfl
   simp only [Instr.buildSlice,Sem.run_bind,run_underlying hu,Result.andThen_ok,tI_size hE,hn,if_false]
   by_cases h0:len*T.size=0
   ·have hm0:(Array.range (len*T.size)).map (fun x=>(#[]:Array Value)[x%(#[]:Array Value).size]!)=madeCells zv.cells (len*T.size):=by
     apply Array.ext
     ·simp [size_madeCells]
     ·intro i h1 h2;simp [h0] at h1
    rw [if_pos h0]
    simp only [Sem.run_bind,Sem.run_pure,Result.andThen_ok]
    rw [hm0,f1]
    rfl
   ·rw [if_neg h0]
    simp only [Sem.run_bind,Sem.run_pure,Result.andThen_ok,hzr]
    rw [hmade,f1]
    rfl
  ·have hjl:=glt hj
   have:=f2.2 j c hj
   have hjv:j<vs'.size:=by rw [←f2.1];exact hjl
   obtain ⟨e1,e2⟩:=getD_lt (vs:=vs') hjv
   rw [e1] at this
   exact ⟨_,e2,this⟩
  ·have:=Rep.own (w:=w.alloc (.cells vs' e)) (F:=F) (loc:=ext loc s.H.length (w.heap.size,vs'.size)) (N:=(s.H++[some (⟨e,T.size,es⟩:AO)]).length) s.H.length T.size 0 len len (by simp) (Nat.le_refl _) (by have hle:len≤len*T.size:=(Nat.le_mul_of_pos_right len hpos);unfold maxLen;omega) (by
    rw [ext_self];simp [hsize])
   rwa [ext_self,Nat.zero_mul] at this
 ·cases h
end
end

section
open Go Go.RowKit

section
variable {P : Program} {X : Cx} {w w' : World} {F : Nat → Prop} {loc : Nat → Nat × Nat} {s : AS} {a : Act}
theorem st_cells {z:AV} (hz:z.st=true):∀c∈z.cells,c.oc=true:=fun c hc=>by
 cases z with
 | agg cs=>exact List.all_eq_true.1 (show cs.all AV.oc=true from hz) c hc
 | f x =>
  rw [cells_f] at hc
  obtain ⟨d,hd,rfl⟩:=List.mem_map.1 hc
  cases x with
  | agg cs=>exact List.all_eq_true.1 (show cs.all FV.oc=true from hz) d hd
  | _=>simp only [FV.cells,List.mem_singleton] at hd;subst hd;exact hz
 | _=>simp only [AV.cells,List.mem_singleton] at hc;subst hc;first|exact hz|cases hz
theorem flat_oc {sz:Nat} {es:List AV} (h:Uni sz es) {c:AV} (hc:c∈flat es):c.oc=true:=by
 obtain ⟨e,he,hce⟩:=List.mem_flatMap.1 hc
 exact st_cells (h e he).2 c hce
theorem RelF.trX (R:RelF X F loc s a w) {row:Option Nat} (hg:w.grownBy w' row) (hn:∀g,row=some g→¬F g):Tr F loc s.H.length w F loc s.H.length w':=⟨fun _ h=>h,fun b o u hb hc=>by
  rw [cell_of_block (hg.block b (R.hF b hb) fun e=>hn b e.symm hb)];exact hc,Nat.le_refl _,fun _ _=>rfl⟩
theorem RelF.stepX (R:RelF X F loc s a w) {row:Option Nat} (hg:w.grownBy w' row) (hn:∀g,row=some g→¬F g∧¬Live s loc g∧(X.w0.heap.size≤g∨X.O g)):RelF X F loc s a w':=by
 have T:Tr F loc s.H.length w F loc s.H.length w':=⟨fun _ h=>h,fun b o u hb hc=>by
  rw [cell_of_block (hg.block b (R.hF b hb) fun e=>(hn b e.symm).1 hb)];exact hc,Nat.le_refl _,fun _ _=>rfl⟩
 have hbig:=R.below.size
 refine ⟨fun b h=>Nat.lt_of_lt_of_le (R.hF b h) hg.size,R.hG,R.hN,R.below.trans ⟨hg.os,hg.tape,hg.output,hg.size,fun k hk hno=>hg.block k hk fun e=>hno ?_⟩,R.defers.mono (fun _ h=>h) fun b h=>hg.block b (R.hF b h) fun e=>(hn b e.symm).1 h,R.len,fun j x h=>(R.tmps j x h).tr T,fun r o h=>?_,R.new,R.nF,R.inj⟩
 ·exact (hn k e.symm).2.2.symm
 ·obtain ⟨_,vs,hv,_⟩:=R.obj r o h
  have:(loc r).1<w.heap.size:=(Array.getElem?_eq_some_iff.1 hv).1
  exact (R.obj r o h).tr T (hlt h) (hg.block _ this fun e=>(hn _ e.symm).2.1 ⟨r,o,h,rfl⟩)
theorem news_sound (R:RelF X F loc s a w) {sz:Nat} {y:AV} {u:Value} (hy:Rep w F loc s.H.length y u) {k:List AV→Prop} (h:newsOf s.H sz y k) :
  ∃news,k news∧Uni sz news∧∃ad c,u=.slice ad news.length c∧news.length≤c∧c≤maxLen∧(news=[]∨∃b off,ad=some ⟨b,off,none⟩∧∃g:Nat→Value,∀(j:Nat) c,(flat news)[j]?=some c→w.cell? ⟨b,off+j,none⟩=some (g j)∧Rep w F loc s.H.length c (g j)):=by
 unfold newsOf at h
 split at h
 ·rename_i sz' es
  obtain ⟨rfl,hk⟩:=h
  cases hy with
  | f _ _ hy =>
   cases hy with
   | fz0 _ ad cap hm=>exact ⟨_,hk,Uni.nil _,ad,cap,rfl,Nat.zero_le _,hm,.inl rfl⟩
   | fz _ _ b off cap hF hn hm hu g hg hc =>
    refine ⟨_,hk,uni_f.2 hu,_,cap,by simp,by simpa using hn,hm,.inr ⟨b,off,rfl,g,fun j c hj=>?_⟩⟩
    rw [flat_f,List.getElem?_map] at hj
    cases hcj:(flatF es)[j]? with
    | none=>rw [hcj] at hj;cases hj
    | some c'=>rw [hcj] at hj;cases hj;exact ⟨hg j c' hcj,.f _ _ (hc j c' hcj)⟩
 ·rename_i r sz' off n
  obtain ⟨rfl,o,ho,hs,hle,hk⟩:=h
  cases hy with
  | own _ _ _ _ cap hr hkc hm hsz =>
   obtain ⟨hu,vs,hvs,_,hcells⟩:=R.obj r o ho
   subst hs
   have hlen:((o.es.drop off).take n).length=n:=by simp;omega
   refine ⟨_,hk,(hu.drop off).take n,_,cap,by rw [hlen],by rw [hlen];exact hkc,hm,.inr ⟨(loc r).1,off*o.sz,rfl,fun j=>vs.getD (off*o.sz+j) undef,fun j c hj=>?_⟩⟩
   rw [flat_take (hu.drop off),flat_drop hu] at hj
   rw [List.getElem?_take] at hj
   split at hj
   ·rw [List.getElem?_drop] at hj
    obtain ⟨q,h1,h2⟩:=hcells _ c hj
    have hq:vs.getD (off*o.sz+j) undef=q:=by rw [Array.getD_eq_getD_getElem?,h1];rfl
    show w.cell? _=some (vs.getD (off*o.sz+j) undef)∧Rep w F loc s.H.length c (vs.getD (off*o.sz+j) undef)
    rw [hq]
    refine ⟨?_,h2⟩
    unfold World.cell?
    rw [show w.heap[(⟨(loc r).1,off*o.sz+j,none⟩:Addr).block]?=_ from hvs]
    simp only [Option.isSome_none,Bool.false_eq_true,if_false]
    exact h1
   ·cases hj
 ·have:=v_rep hy;subst this
  exact ⟨_,h,Uni.nil _,none,0,rfl,Nat.zero_le _,Nat.zero_le _,.inl rfl⟩
 ·cases h
theorem append_rel (R:RelF X F loc s a w) {t e ty:TypeId} {T:TI} (hT:tS P t=some (e,T)) {x y:AV} {u v:Value} (hx:Rep w F loc s.H.length x u) (hy:Rep w F loc s.H.length y v) {k:AV→AH→Prop} (h:aAppend e T s.H x y k) :
  ∃q H' r w' loc',k q H'∧(Builtin.append_ #[t,t] ty #[u,v]).run P w=.ok r w'∧RelF X F loc' ⟨s.t,H'⟩ a w'∧Rep w' F loc' H'.length q r:=by
 obtain ⟨hu,hE⟩:=tS_elem hT
 obtain ⟨news,h,hun,ad,c,rfl,hnc,hcmx,hn⟩:=news_sound R hy h
 split at h
 ·rename_i z hz
  obtain ⟨hzl,hpos,hbp,h⟩:=h
  obtain ⟨i,d,hi,hd,hsz,hby,hz0,_⟩:=tI_info hE
  obtain ⟨zv,hzr,hze⟩:=tI_zero hE hz w
  have hzi:i.zero=some zv:=by
   rw [hz] at hz0
   cases hq:i.zero with
   | none=>rw [hq] at hz0;cases hz0
   | some q =>
    have:(zeroValue e).run P w=.ok q w:=by simp [zeroValue,typeInfo,hi,hq]
    rw [this] at hzr;cases hzr;rfl
  have hzc:zv.cells.size=T.size:=by
   rw [←hzl,hze]
   cases zv<;>first|rfl|simp [FV.ofV,FV.cells,Value.cells]
  have hfn:=flat_len hun
  -- the cells as values
  have hnv:∃nv:List Value,nv.length=news.length*T.size∧(∀q∈nv,q.oneCell'=true)∧(∀(j:Nat) c,(flat news)[j]?=some c→∃q,nv[j]?=some q∧Rep w F loc s.H.length c q)∧(∀a0,ad=some a0→∀(j:Nat) q,nv[j]?=some q→w.cell? (a0.add j)=some q):=by
   rcases hn with rfl|⟨b,off,rfl,g,hg⟩
   ·exact ⟨[],by simp,by simp,fun j c hj=>by simp [flat] at hj,fun a0 _ j q hq=>by simp at hq⟩
   ·obtain ⟨nv,hl,hv⟩:=listOf g (news.length*T.size) 0
    refine ⟨nv,hl,fun q hq=>?_,fun j c hj=>?_,fun a0 ha j q hq=>?_⟩
    ·obtain ⟨j,hj⟩:=List.getElem?_of_mem hq
     have hjl:=glt hj
     have hc:=List.getElem?_eq_getElem (l:=flat news) (i:=j) (by omega)
     obtain ⟨h1,h2⟩:=hg j _ hc
     rw [hv j (by omega),Nat.zero_add] at hj
     cases hj
     exact h2.oc (flat_oc hun (List.getElem_mem _))
    ·have hjl:=glt hj
     obtain ⟨h1,h2⟩:=hg j c hj
     exact ⟨g j,by rw [hv j (by omega),Nat.zero_add],h2⟩
    ·cases ha
     have hjl:=glt hq
     have hc:=List.getElem?_eq_getElem (l:=flat news) (i:=j) (by omega)
     obtain ⟨h1,h2⟩:=hg j _ hc
     rw [hv j (by omega),Nat.zero_add] at hq
     cases hq
     rw [addr_add];exact h1
  obtain ⟨nv,hnl,hno,hnr,hna⟩:=hnv
  have hmb:∀n:Nat,n*T.bytes≤140737488355328→n≤maxLen:=fun n h=>by
   have:=Nat.le_mul_of_pos_right n hbp
   unfold maxLen;omega
  -- what is left when a row of the call's own, or none, has grown
  have fin:∀(s1:AS) (R1:RelF X F loc s1 a w) (hsl:s1.H.length=s.H.length) (v0:Value) (n:Nat) (old:List AV) (ov:List Value) (hov:ov.length=n*T.size) (holdl:old.length=n) (huo:Uni T.size old)
    (hor:∀(j:Nat) c,(flat old)[j]?=some c→∃q,ov[j]?=some q∧Rep w F loc s.H.length c q) (hown:w.ownsRow 0 e T.size v0 n ov) (hne:¬(v0=.slice none 0 0∧news.length=0))
    (hrow:∀g,v0.ownBlock=some g→¬F g∧¬Live s1 loc g∧(X.w0.heap.size≤g∨X.O g)) (hby':(n+news.length)*T.bytes≤140737488355328) (hk:k (.own s.H.length T.size 0 (n+news.length)) (s1.H++[some ⟨e,T.size,old++news⟩])) (hst:s1.t=s.t)
    (hsome:∃a0,ad=some a0),∃q H' r w' loc',k q H'∧(Builtin.append_ #[t,t] ty #[v0,.slice ad news.length c]).run P w=.ok r w'∧RelF X F loc' ⟨s.t,H'⟩ a w'∧Rep w' F loc' H'.length q r:=by
   intro s1 R1 hsl v0 n old ov hov holdl huo hor hown hne hrow hby' hk hst ⟨a0,ha0⟩
   obtain ⟨v',w',hrun,hown',hgrow,hnil,hblk⟩:=run_append_own_at (P:=P) (w:=w) 0 t ty e i zv T.size T.bytes hu hi hzi hsz.symm hby.symm hzc hpos v0 n ov hown a0 news.length c nv hnl (hna a0 ha0) hno (hmb _ hby') hby' (Nat.zero_le _)
   have R2:=R1.stepX hgrow hrow
   have T2:=R1.trX hgrow fun g hg=>(hrow g hg).1
   rw [hsl] at T2
   obtain ⟨hl',h'⟩:=hown'
   rcases h' with ⟨h',_⟩|⟨g,cap,cur,rfl,_,hheap,hle,hcm,hcs,htake⟩
   ·exact absurd (hnil.1 h') hne
   ·have hgn:¬F g∧¬Live s1 loc g∧(X.w0.heap.size≤g∨X.O g):=by
     rcases hblk with hb|hb
     ·exact hrow g hb.symm
     ·have:g=w.heap.size:=by simpa [Value.ownBlock] using hb
      subst this
      refine ⟨fun hf=>by have:=R1.hF _ hf;omega,fun hl=>by have:=R1.live_lt (.inr hl);omega,.inl R1.below.size⟩
    have huni:Uni T.size (old++news):=huo.append hun
    have R3:=R2.adopt (g:=g) (o:=⟨e,T.size,old++news⟩) (vs:=cur) hgn.2.2 hgn.1 hgn.2.1 huni hheap (fun j c' hj=>by
     have hcat:∃q,(ov++nv)[j]?=some q∧Rep w F loc s.H.length c' q:=by
      replace hj:(flat (old++news))[j]?=some c':=hj
      have hfo:=flat_len huo
      rw [flat_append,List.getElem?_append,hfo,holdl] at hj
      rw [List.getElem?_append,hov]
      split at hj
      ·rename_i hlt;rw [if_pos hlt];exact hor j c' hj
      ·rename_i hlt;rw [if_neg hlt];exact hnr _ c' hj
     obtain ⟨q,h1,h2⟩:=hcat
     refine ⟨q,?_,by rw [hsl];exact h2.tr T2⟩
     rw [←htake,List.getElem?_take] at h1
     split at h1
     ·rw [Array.getElem?_toList] at h1;exact h1
     ·cases h1)
    refine ⟨_,_,_,w',_,hk,by rw [ha0];exact hrun,by rw [←hst];exact R3,?_⟩
    have:=Rep.own (w:=w') (F:=F) (loc:=ext loc s1.H.length (g,cur.size)) (N:=(s1.H++[some (⟨e,T.size,old++news⟩:AO)]).length) s.H.length T.size 0 (n+news.length) cap (by simp [hsl]) hle hcm (by rw [←hsl,ext_self,hcs,Nat.zero_add])
    rw [←hsl,ext_self,Nat.zero_mul] at this
    rw [←hsl]
    exact this
  split at h
  ·obtain ⟨hpos',hb',hk⟩:=h
   have:=v_rep hx;subst this
   have hsome:∃a0,ad=some a0:=by
    rcases hn with rfl|⟨b,off,rfl,_⟩
    ·simp at hpos'
    ·exact ⟨_,rfl⟩
   have:=fin s R rfl (.slice none 0 0) 0 [] [] (by simp) rfl (Uni.nil _) (fun j c hj=>by simp [flat] at hj) ⟨by simp,.inl ⟨rfl,rfl⟩⟩ (fun h=>by omega) (fun g h=>by cases h) (by rw [Nat.zero_add];exact hb') (by simpa using hk) rfl hsome
   exact this
  ·rename_i r sz n _
   obtain ⟨rfl,o,ho,rfl,hs,hle,hb',hk⟩:=h
   cases hx with
   | own _ _ _ _ cap hr hkc hm hsz' =>
    obtain ⟨huo,vs,hvs,hvz,hcells⟩:=R.obj r o ho
    have hvsz:vs.size=cap*T.size:=by rw [hvz,hsz',Nat.zero_add]
    rw [hs] at huo
    rw [Nat.zero_mul]
    have hnl':n*T.size≤vs.size:=by rw [hvsz];exact Nat.mul_le_mul_right _ hkc
    by_cases hsome:∃a0,ad=some a0
    ·refine fin _ (R.kill r) (by simp) _ n (o.es.take n) (vs.toList.take (n*T.size)) (by rw [List.length_take,Array.length_toList];omega) (by rw [List.length_take];omega) (huo.take n) (fun j c hj=>?_) ⟨by rw [List.length_take,Array.length_toList];omega,.inr ⟨(loc r).1,cap,vs,rfl,Nat.zero_le _,hvs,hkc,hm,hvsz,rfl⟩⟩ (fun h=>by cases h.1) (fun g hg=>?_) hb' hk rfl hsome
     ·rw [flat_take huo,List.getElem?_take] at hj
      split at hj
      ·rename_i hlt
       obtain ⟨q,h1,h2⟩:=hcells j c hj
       exact ⟨q,by rw [List.getElem?_take,if_pos hlt,Array.getElem?_toList];exact h1,h2⟩
      ·cases hj
     ·have:g=(loc r).1:=by simpa [Value.ownBlock] using hg.symm
      subst this
      refine ⟨R.nF r o ho,?_,R.new r o ho⟩
      rintro ⟨q,p,hq,he⟩
      have hq':(s.H.set r none)[q]?=some (some p):=hq
      by_cases hqr:q=r
      ·subst hqr;rw [List.getElem?_set_self (hlt ho)] at hq';cases hq'
      ·rw [List.getElem?_set_ne (Ne.symm hqr)] at hq'
       exact hqr (R.inj q r p o hq' ho he)
    ·have hadn:ad=none:=by
      cases ad with
      | none=>rfl
      | some a0=>exact absurd ⟨a0,rfl⟩ hsome
     subst hadn
     have hnn:news=[]:=by
      rcases hn with h|⟨b,off,h,_⟩
      ·exact h
      ·cases h
     subst hnn
     have hrun:(Builtin.append_ #[t,t] ty #[.slice (some ⟨(loc r).1,0,none⟩) n cap,.slice none 0 c]).run P w=.ok (.slice (some ⟨(loc r).1,0,none⟩) n cap) w:=by
      simp [Builtin.append_,run_underlying hu,Go.sizeOf,typeInfo,hi,Builtin.lenOf,Builtin.firstCells,hkc,storeCells]
     have R2:=R.kill r
     have R3:=R2.adopt (g:=(loc r).1) (o:=⟨o.e,T.size,o.es.take n++[]⟩) (vs:=vs) (R.new r o ho) (R.nF r o ho) (by
      rintro ⟨q,p,hq,he⟩
      have hq':(s.H.set r none)[q]?=some (some p):=hq
      by_cases hqr:q=r
      ·subst hqr;rw [List.getElem?_set_self (hlt ho)] at hq';cases hq'
      ·rw [List.getElem?_set_ne (Ne.symm hqr)] at hq'
       exact hqr (R.inj q r p o hq' ho he)) (by rw [List.append_nil];exact huo.take n) hvs (fun j c' hj=>by
      replace hj:(flat (o.es.take n++[]))[j]?=some c':=hj
      rw [List.append_nil,flat_take huo,List.getElem?_take] at hj
      split at hj
      ·obtain ⟨q,h1,h2⟩:=hcells j c' hj
       exact ⟨q,h1,by simpa using h2⟩
      ·cases hj)
     refine ⟨_,_,_,w,_,hk,hrun,R3,?_⟩
     have:=Rep.own (w:=w) (F:=F) (loc:=ext loc (s.H.set r none).length ((loc r).1,vs.size)) (N:=(s.H.set r none++[some (⟨o.e,T.size,o.es.take n++[]⟩:AO)]).length) s.H.length T.size 0 (n+([]:List AV).length) cap (by simp) (by simpa using hkc) hm (by
      rw [show s.H.length=(s.H.set r none).length by simp,ext_self,hvsz,Nat.zero_add])
     rw [show s.H.length=(s.H.set r none).length by simp] at this ⊢
     rw [ext_self,Nat.zero_mul] at this
     exact this
  ·cases h
 ·cases h
end
end

section
open Go Go.RowKit

def AV.has1 (r:Nat):AV→Bool
 | .f _|.any|.one=>false
 | .own q _ _ _|.ptr q _ _ _=>decide (q=r)
 | _=>true
def AV.has (r:Nat):AV→Bool
 | .agg cs|.tup cs=>cs.any (AV.has1 r)
 | .fn _ a b=>a.any (AV.has1 r)||b.any (AV.has1 r)
 | x=>x.has1 r
def AV.kill (r:Nat) (x:AV):AV:=if x.has r=true then .any else x
def AV.killc (r:Nat) (x:AV):AV:=if x.has r=true then .one else x
def AV.kill1 (r:Nat):AV→AV
 | .agg cs=>.agg (cs.map (AV.killc r))
 | x=>x.killc r
def killA (r:Nat) (o:AO):AO:=⟨o.e,o.sz,o.es.map (AV.kill1 r)⟩
def killO (r:Nat):Option AO→Option AO
 | some o=>some (killA r o)
 | none=>none
def sl (r sz:Nat):List FV→AV
 | []=>.f (.v (.slice none 0 0))
 | a::l=>.own r sz 0 (l.length+1)
def ob (e:TypeId) (sz:Nat):List FV→Option AO
 | []=>none
 | a::l=>some ⟨e,sz,(a::l).map .f⟩
theorem ob_nil (e:TypeId) (sz:Nat):ob e sz []=none:=rfl
theorem sl_pos {r sz:Nat} {l:List FV} (h:l≠[]):sl r sz l=.own r sz 0 l.length:=by cases l with|nil=>exact absurd rfl h|cons a l=>rfl
theorem ob_pos {e:TypeId} {sz:Nat} {l:List FV} (h:l≠[]):ob e sz l=some ⟨e,sz,l.map .f⟩:=by cases l with|nil=>exact absurd rfl h|cons a l=>rfl

section
variable {P : Program} {X : Cx} {w w' : World} {F : Nat → Prop} {loc : Nat → Nat × Nat} {s : AS} {a : Act} {N r : Nat}
theorem lt1_of {x:AV} {y:Value} (h:Rep w F loc N x y) (hr:x.has1 r=false):x.lt1 N=true:=by
 cases h with
 | any=>rfl
 | one=>rfl
 | f=>rfl
 | own _ _ _ _ _ hr'=>exact decide_eq_true hr'
 | ptr _ _ _ _ hr'=>exact decide_eq_true hr'
 | _=>cases hr
theorem lt0_of {x:AV} {y:Value} (h:Rep w F loc N x y) (hr:x.has r=false):x.lt0 N=true:=by
 cases h with
 | any=>rfl
 | one=>rfl
 | f=>rfl
 | own _ _ _ _ _ hr'=>exact decide_eq_true hr'
 | ptr _ _ _ _ hr'=>exact decide_eq_true hr'
 | agg cs vs hl hc =>
  refine List.all_eq_true.2 fun c hcm=>?_
  obtain ⟨j,hj⟩:=List.getElem?_of_mem hcm
  exact lt1_of (hc j c hj) (by simpa using List.any_eq_false.1 hr c hcm)
 | tup cs vs hl hc =>
  refine List.all_eq_true.2 fun c hcm=>?_
  obtain ⟨j,hj⟩:=List.getElem?_of_mem hcm
  exact lt1_of (hc j c hj) (by simpa using List.any_eq_false.1 hr c hcm)
 | fn f p q vs us h1 h2 h3 h4 =>
  have hr':=Bool.or_eq_false_iff.1 (show (p.any (AV.has1 r)||q.any (AV.has1 r))=false from hr)
  refine Bool.and_eq_true_iff.2 ⟨List.all_eq_true.2 fun c hcm=>?_,List.all_eq_true.2 fun c hcm=>?_⟩
  ·obtain ⟨j,hj⟩:=List.getElem?_of_mem hcm
   exact lt1_of (h2 j c hj) (by simpa using List.any_eq_false.1 hr'.1 c hcm)
  ·obtain ⟨j,hj⟩:=List.getElem?_of_mem hcm
   exact lt1_of (h4 j c hj) (by simpa using List.any_eq_false.1 hr'.2 c hcm)
theorem ren1_of {g:Nat→Nat} (hg:∀q,q≠r→g q=q) {x:AV} (hr:x.has1 r=false):x.ren1 g=x:=by
 cases x with
 | own q sz o k=>show AV.own (g q) sz o k=_;rw [hg q (by simpa [AV.has1] using hr)]
 | ptr q sz i j=>show AV.ptr (g q) sz i j=_;rw [hg q (by simpa [AV.has1] using hr)]
 | _=>rfl
theorem ren_of {g:Nat→Nat} (hg:∀q,q≠r→g q=q) {x:AV} (hr:x.has r=false):x.ren g=x:=by
 have hm:∀{cs:List AV},cs.any (AV.has1 r)=false→cs.map (AV.ren1 g)=cs:=fun {cs} h=>by
  conv=>rhs;rw [←List.map_id cs]
  exact List.map_congr_left fun c hc=>ren1_of hg (by simpa using List.any_eq_false.1 h c hc)
 cases x with
 | agg cs=>exact congrArg AV.agg (hm hr)
 | tup cs=>exact congrArg AV.tup (hm hr)
 | fn f p q =>
  have hr':=Bool.or_eq_false_iff.1 (show (p.any (AV.has1 r)||q.any (AV.has1 r))=false from hr)
  show AV.fn f (p.map _) (q.map _)=_
  rw [hm hr'.1,hm hr'.2]
 | own q sz o k=>exact ren1_of (x:=.own q sz o k) hg hr
 | ptr q sz i j=>exact ren1_of (x:=.ptr q sz i j) hg hr
 | _=>rfl
theorem killc_oc {c:AV} (h:c.oc=true):(c.killc r).oc=true:=by
 unfold AV.killc
 split
 ·rfl
 ·exact h
theorem kill1_cells (x:AV):(x.kill1 r).cells=x.cells.map (AV.killc r):=by
 have one:∀y:AV,y.cells=[y]→(y.killc r).cells=[y.killc r]:=fun y hy=>by
  unfold AV.killc
  split
  ·rfl
  ·exact hy
 cases x with
 | agg cs=>rfl
 | f x =>
  have e:(AV.f x).kill1 r=.f x:=rfl
  rw [e,cells_f,List.map_map]
  exact List.map_congr_left fun c _=>rfl
 | any=>exact one .any rfl
 | one=>exact one .one rfl
 | tup cs=>exact one (.tup cs) rfl
 | own a b c d=>exact one (.own a b c d) rfl
 | ptr a b c d=>exact one (.ptr a b c d) rfl
 | fn a b c=>exact one (.fn a b c) rfl
theorem kill1_st {x:AV} (h:x.st=true):(x.kill1 r).st=true:=by
 have one:∀y:AV,y.st=true→(y.killc r).st=true:=fun y hy=>by
  unfold AV.killc
  split
  ·rfl
  ·exact hy
 cases x with
 | agg cs =>
  refine List.all_eq_true.2 fun c hc=>?_
  obtain ⟨d,hd,rfl⟩:=List.mem_map.1 (show c∈cs.map (AV.killc r) from hc)
  exact killc_oc (List.all_eq_true.1 (show cs.all AV.oc=true from h) d hd)
 | f x=>exact h
 | any=>exact one .any h
 | one=>exact one .one h
 | tup cs=>exact one (.tup cs) h
 | own a b c d=>exact one (.own a b c d) h
 | ptr a b c d=>exact one (.ptr a b c d) h
 | fn a b c=>exact one (.fn a b c) h
theorem kill1_flat (es:List AV):flat (es.map (AV.kill1 r))=(flat es).map (AV.killc r):=by
 induction es with
 | nil=>rfl
 | cons e es ih =>
  show (e.kill1 r).cells++flat (es.map (AV.kill1 r))=(e.cells++flat es).map (AV.killc r)
  rw [List.map_append,kill1_cells,ih]
theorem kill1_uni {sz:Nat} {es:List AV} (h:Uni sz es):Uni sz (es.map (AV.kill1 r)):=fun x hx=>by
 obtain ⟨y,hy,rfl⟩:=List.mem_map.1 hx
 rw [kill1_cells,List.length_map]
 exact ⟨(h y hy).1,kill1_st (h y hy).2⟩
theorem uni_oc {sz:Nat} {es:List AV} (h:Uni sz es) {j:Nat} {c:AV} (hc:(flat es)[j]?=some c):c.oc=true:=by
 obtain ⟨e,he,hce⟩:=List.mem_flatMap.1 (List.mem_of_getElem? hc)
 exact st_cells (h e he).2 c hce
theorem kills_get {H:List (Option AO)} {q:Nat} {p:AO} (h:(H.map (killO r))[q]?=some (some p)):∃p0,H[q]?=some (some p0)∧p=killA r p0:=by
 rw [List.getElem?_map] at h
 cases hq:H[q]? with
 | none=>rw [hq] at h;cases h
 | some o =>
  rw [hq] at h
  cases o with
  | none=>cases h
  | some o=>cases h;exact ⟨o,rfl,rfl⟩
theorem kill_cell {es:List AV} {sz:Nat} (hu:Uni sz es) {j:Nat} {c:AV} (hc:(flat (es.map (AV.kill1 r)))[j]?=some c):∃d,(flat es)[j]?=some d∧((d.has r=true∧c=.one∧d.oc=true)∨(d.has r=false∧c=d)):=by
 rw [kill1_flat,List.getElem?_map] at hc
 cases hd:(flat es)[j]? with
 | none=>rw [hd] at hc;cases hc
 | some d =>
  rw [hd] at hc
  cases hc
  refine ⟨d,rfl,?_⟩
  unfold AV.killc
  by_cases h:d.has r=true
  ·rw [if_pos h];exact .inl ⟨h,rfl,uni_oc hu hd⟩
  ·rw [if_neg h];exact .inr ⟨by simpa using h,rfl⟩
theorem ObjAt.kill {q:Nat} {o:AO} (h:ObjAt w F loc N q o):ObjAt w F loc N q (killA r o):=by
 obtain ⟨hu,vs,hv,hz,hc⟩:=h
 refine ⟨kill1_uni hu,vs,hv,hz,fun j c hj=>?_⟩
 obtain ⟨d,hd,hcase⟩:=kill_cell hu hj
 obtain ⟨u,h1,h2⟩:=hc j d hd
 refine ⟨u,h1,?_⟩
 rcases hcase with ⟨_,rfl,ho⟩|⟨_,rfl⟩
 ·exact .one u (h2.oc ho)
 ·exact h2
theorem kill_rep {F':Nat→Prop} {loc':Nat→Nat × Nat} {N':Nat} {y:AV} {v:Value} (h:y.has r=false→Rep w F' loc' N' y v):Rep w F' loc' N' (y.kill r) v:=by
 unfold AV.kill
 split
 ·exact .any v
 ·rename_i hn;exact h (by simpa using hn)
theorem RelF.kills (R:RelF X F loc s a w) (r:Nat):RelF X F loc ⟨s.t.map (AV.kill r),(s.H.map (killO r)).set r none⟩ a w:=by
 have hl:((s.H.map (killO r)).set r none).length=s.H.length:=by simp
 have hobj:∀q p,((s.H.map (killO r)).set r none)[q]?=some (some p)→∃p0,s.H[q]?=some (some p0)∧p=killA r p0:=fun q p h=>by
  by_cases e:q=r
  ·subst e
   rcases Nat.lt_or_ge q s.H.length with h'|h'
   ·rw [List.getElem?_set_self (by simpa using h')] at h;cases h
   ·rw [List.getElem?_eq_none (by simpa using h')] at h;cases h
  ·rw [List.getElem?_set_ne (Ne.symm e)] at h;exact kills_get h
 refine ⟨R.hF,R.hG,R.hN,R.below,R.defers,by simpa using R.len,fun j x h=>?_,fun q p h=>by obtain ⟨p0,h0,rfl⟩:=hobj q p h;rw [hl];exact (R.obj q p0 h0).kill,fun q p h=>by obtain ⟨p0,h0,_⟩:=hobj q p h;exact R.new q p0 h0,fun q p h=>by obtain ⟨p0,h0,_⟩:=hobj q p h;exact R.nF q p0 h0,fun q q' p p' h h'=>by
  obtain ⟨p0,h0,_⟩:=hobj q p h
  obtain ⟨p1,h1,_⟩:=hobj q' p' h'
  exact R.inj q q' p0 p1 h0 h1⟩
 rw [hl]
 replace h:(s.t.map (AV.kill r))[j]?=some x:=h
 rw [List.getElem?_map] at h
 cases hy:s.t[j]? with
 | none=>rw [hy] at h;cases h
 | some y=>rw [hy] at h;cases h;exact kill_rep fun _=>R.tmps j y hy
theorem RelF.retake {t:List AV} {H1:List (Option AO)} {o:AO} (R0:RelF X F loc s a w) (ht:t=s.t) (hH:H1.length=s.H.length) (hsub:∀(q:Nat) p,H1[q]?=some (some p)→s.H[q]?=some (some p)) (hrN:r<s.H.length) (hr1:H1[r]?=some none)
  {loc':Nat→Nat × Nat} (R:RelF X F loc' ⟨t,H1++[some o]⟩ a w') (ho:∃l:List FV,o.es=l.map .f) {k:Nat} {v:Value} (hv:Rep w' F loc' (s.H.length+1) (.own s.H.length o.sz 0 k) v) :
  ∃loc2,RelF X F loc2 ⟨t.map (AV.kill r),(H1.map (killO r)).set r (some o)⟩ a w'∧Rep w' F loc2 s.H.length (.own r o.sz 0 k) v:=by
 subst ht
 let g:Nat→Nat:=fun q=>if q=r then s.H.length else q
 have hgr:g r=s.H.length:=if_pos rfl
 have hgn:∀q,q≠r→g q=q:=fun q h=>if_neg h
 have hl:((H1.map (killO r)).set r (some o)).length=s.H.length:=by simp [hH]
 have hlen1:(H1++[some o]).length=s.H.length+1:=by simp [hH]
 have hobj:∀q p,((H1.map (killO r)).set r (some o))[q]?=some (some p)→(q=r∧p=o)∨(q≠r∧q<s.H.length∧∃p0,H1[q]?=some (some p0)∧p=killA r p0):=fun q p h=>by
  by_cases e:q=r
  ·subst e
   rw [List.getElem?_set_self (by simpa [hH] using hrN)] at h
   exact .inl ⟨rfl,by simpa using h.symm⟩
  ·rw [List.getElem?_set_ne (Ne.symm e)] at h
   obtain ⟨p0,h1,h2⟩:=kills_get h
   exact .inr ⟨e,by rw [←hH];exact hlt h1,p0,h1,h2⟩
 have hR:∀q p,((H1.map (killO r)).set r (some o))[q]?=some (some p)→∃p1,(H1++[some o])[g q]?=some (some p1):=fun q p h=>by
  rcases hobj q p h with ⟨rfl,rfl⟩|⟨hne,hq,p0,h1,_⟩
  ·exact ⟨p,by rw [hgr,←hH];simp⟩
  ·exact ⟨p0,by rw [hgn q hne,List.getElem?_append_left (by rw [hH];exact hq)];exact h1⟩
 have conv:∀{y:AV} {u u0:Value},Rep w F loc s.H.length y u0→Rep w' F loc' (s.H.length+1) y u→y.has r=false→Rep w' F (fun q=>loc' (g q)) s.H.length y u:=fun {y u u0} h0 h1 hr=>by
  refine Rep.ren0 (g:=g) (x:=y) (N:=s.H.length+1) ?_ (lt0_of h0 hr)
  rw [ren_of hgn hr];exact h1
 refine ⟨fun q=>loc' (g q),⟨R.hF,R.hG,R.hN,R.below,R.defers,by simpa using R.len,fun j x h=>?_,fun q p h=>?_,fun q p h=>by obtain ⟨p1,h1⟩:=hR q p h;exact R.new _ p1 h1,fun q p h=>by obtain ⟨p1,h1⟩:=hR q p h;exact R.nF _ p1 h1,fun q q' p p' h h' e=>?_⟩,?_⟩
 ·rw [hl]
  replace h:(s.t.map (AV.kill r))[j]?=some x:=h
  rw [List.getElem?_map] at h
  cases hy:s.t[j]? with
  | none=>rw [hy] at h;cases h
  | some y =>
   rw [hy] at h;cases h
   refine kill_rep fun hr=>conv (R0.tmps j y hy) ?_ hr
   have:=R.tmps j y hy
   rwa [hlen1] at this
 ·rw [hl]
  rcases hobj q p h with ⟨rfl,rfl⟩|⟨hne,hq,p0,h1,rfl⟩
  ·obtain ⟨hu,vs,h2,h3,h4⟩:=R.obj (g q) p (by rw [hgr,←hH];simp)
   refine ⟨hu,vs,h2,h3,fun j c hj=>?_⟩
   obtain ⟨u,h5,h6⟩:=h4 j c hj
   refine ⟨u,h5,?_⟩
   obtain ⟨l,hol⟩:=ho
   rw [hol,flat_f,List.getElem?_map] at hj
   cases hd:(flatF l)[j]? with
   | none=>rw [hd] at hj;cases hj
   | some d=>rw [hd] at hj;cases hj;cases h6 with|f _ _ h6=>exact .f _ _ h6
  ·obtain ⟨hu,vs,h2,h3,h4⟩:=R.obj (g q) p0 (by rw [hgn q hne,List.getElem?_append_left (by rw [hH];exact hq)];exact h1)
   refine ⟨kill1_uni hu,vs,h2,h3,fun j c hj=>?_⟩
   obtain ⟨d,hd,hcase⟩:=kill_cell hu hj
   obtain ⟨u,h5,h6⟩:=h4 j d hd
   refine ⟨u,h5,?_⟩
   rw [hlen1] at h6
   rcases hcase with ⟨_,rfl,hoc⟩|⟨hcr,rfl⟩
   ·exact .one u (h6.oc hoc)
   ·obtain ⟨_,vs0,_,_,h04⟩:=R0.obj q p0 (hsub q p0 h1)
    obtain ⟨u0,_,h06⟩:=h04 j c hd
    exact conv h06 h6 hcr
 ·obtain ⟨p1,hp1⟩:=hR q p h
  obtain ⟨p2,hp2⟩:=hR q' p' h'
  have:=R.inj _ _ p1 p2 hp1 hp2 e
  by_cases e1:q=r<;>by_cases e2:q'=r
  ·rw [e1,e2]
  ·have h2:q'<s.H.length:=by
    rcases hobj q' p' h' with ⟨e,_⟩|⟨_,hq,_⟩
    ·exact absurd e e2
    ·exact hq
   subst e1;rw [hgr,hgn q' e2] at this;omega
  ·have h2:q<s.H.length:=by
    rcases hobj q p h with ⟨e,_⟩|⟨_,hq,_⟩
    ·exact absurd e e1
    ·exact hq
   subst e2;rw [hgr,hgn q e1] at this;omega
  ·rwa [hgn q e1,hgn q' e2] at this
 ·cases hv with
  | own _ _ _ _ cap hr hk hm hs =>
   have e:(fun q=>loc' (g q)) r=loc' s.H.length:=by show loc' (g r)=_;rw [hgr]
   have:=Rep.own (w:=w') (F:=F) (loc:=fun q=>loc' (g q)) (N:=s.H.length) r o.sz 0 k cap hrN hk hm (by show (loc' (g r)).2=_;rw [hgr];exact hs)
   replace this:Rep w' F (fun q=>loc' (g q)) s.H.length (.own r o.sz 0 k) (.slice (some ⟨(loc' (g r)).1,0*o.sz,none⟩) k cap):=this
   rwa [hgr] at this
def FV.slc:FV→Bool
 | .fz ..|.v (.slice none 0 0)=>true
 | _=>false
def aApp (e:TypeId) (T:TI) (s:AS) (x y:AV) (k:AV→AS→Prop):Prop :=
 aAppend e T s.H x y (fun v H=>k v ⟨s.t,H⟩) ∨
 (∃r l,x=sl r T.size l∧s.H[r]?=some (ob e T.size l)∧newsOf s.H T.size y fun n=>∃news:List FV,n=news.map .f∧0<news.length∧(match T.zero with|some z=>z.cells.length=T.size|none=>False)∧0<T.size∧0<T.bytes∧(l.length+news.length)*T.bytes≤140737488355328 ∧
  k (sl r T.size (l++news)) ⟨s.t.map (AV.kill r),(s.H.map (killO r)).set r (ob e T.size (l++news))⟩) ∨
 (newsOf s.H T.size y (fun n=>n=[])∧(∃z,x=.f z∧z.slc=true)∧k x s)
theorem newsOf_mono {H:AH} {sz:Nat} {y:AV} {k k':List AV→Prop} (h:newsOf H sz y k) (hk:∀n,k n→k' n):newsOf H sz y k':=by
 unfold newsOf at h ⊢
 split at h
 ·exact ⟨h.1,hk _ h.2⟩
 ·obtain ⟨h1,o,h2,h3,h4,h5⟩:=h;exact ⟨h1,o,h2,h3,h4,hk _ h5⟩
 ·exact hk _ h
 ·exact h.elim
theorem app_rel (R:RelF X F loc s a w) {t e ty:TypeId} {T:TI} (hT:tS P t=some (e,T)) {x y:AV} {u v:Value} (hx:Rep w F loc s.H.length x u) (hy:Rep w F loc s.H.length y v) {k:AV→AS→Prop} (h:aApp e T s x y k) :
  ∃q s' r w' loc',k q s'∧(Builtin.append_ #[t,t] ty #[u,v]).run P w=.ok r w'∧RelF X F loc' s' a w'∧Rep w' F loc' s'.H.length q r:=by
 rcases h with h|⟨r,l,rfl,hr,h⟩|⟨hn,⟨z,rfl,hz⟩,hk⟩
 ·obtain ⟨q,H',r,w',loc',h1,h2,h3,h4⟩:=append_rel R (ty:=ty) hT hx hy h
  exact ⟨q,_,r,w',loc',h1,h2,h3,h4⟩
 ·have hrN:=hlt hr
  let Kq:AV→AH→Prop:=fun q H'=>∃news:List FV,0<news.length∧q=.own s.H.length T.size 0 (l.length+news.length)∧(∃H1:AH,H'=H1++[some ⟨e,T.size,(l++news).map .f⟩]∧H1.length=s.H.length∧(∀(q:Nat) p,H1[q]?=some (some p)→s.H[q]?=some (some p))∧H1[r]?=some none∧(s.H.map (killO r)).set r (ob e T.size (l++news))=(H1.map (killO r)).set r (ob e T.size (l++news)))∧k (sl r T.size (l++news)) ⟨s.t.map (AV.kill r),(s.H.map (killO r)).set r (ob e T.size (l++news))⟩
  have h':aAppend e T s.H (sl r T.size l) y Kq:=by
   unfold aAppend
   refine newsOf_mono h ?_
   rintro n ⟨news,rfl,hpos,hz,h0,hb,hsz,hk⟩
   cases hzz:T.zero with
   | none=>rw [hzz] at hz;exact hz.elim
   | some z =>
    rw [hzz] at hz
    cases l with
    | nil =>
     rw [ob_nil] at hr
     exact ⟨hz,h0,hb,by simpa using hpos,by simpa using hsz,news,hpos,by simp,⟨s.H,by simp,rfl,fun _ _ h=>h,hr,rfl⟩,hk⟩
    | cons b l =>
     refine ⟨hz,h0,hb,rfl,_,hr,rfl,rfl,by simp,by simpa using hsz,news,hpos,by simp,⟨s.H.set r none,?_,by simp,fun q p h=>?_,by rw [List.getElem?_set_self hrN],?_⟩,hk⟩
     ·rw [List.take_of_length_le (by simp),←List.map_append]
     ·by_cases e:q=r
      ·subst e;rw [List.getElem?_set_self hrN] at h;cases h
      ·rwa [List.getElem?_set_ne (Ne.symm e)] at h
     ·apply List.ext_getElem?
      intro i
      by_cases e:i=r
      ·subst e;rw [List.getElem?_set_self (by simpa using hrN),List.getElem?_set_self (by simpa using hrN)]
      ·rw [List.getElem?_set_ne (Ne.symm e),List.getElem?_set_ne (Ne.symm e),List.getElem?_map,List.getElem?_map,List.getElem?_set_ne (Ne.symm e)]
  obtain ⟨q,H',u',w',loc',⟨news,hpos,rfl,⟨H1,rfl,hl1,hsub,hr1,heq⟩,hk⟩,hrun,hR,hq⟩:=append_rel R (ty:=ty) hT hx hy h'
  have hne:l++news≠[]:=fun e=>by
   have:=congrArg List.length e
   simp at this
   rw [this.2] at hpos;exact absurd hpos (by simp)
  have hle:(l++news).length=l.length+news.length:=by simp
  have hlen2:(H1++[some (⟨e,T.size,(l++news).map .f⟩:AO)]).length=s.H.length+1:=by simp [hl1]
  rw [hlen2] at hq
  obtain ⟨loc2,R2,hv2⟩:=RelF.retake (o:=⟨e,T.size,(l++news).map .f⟩) R rfl hl1 hsub hrN hr1 hR ⟨_,rfl⟩ hq
  refine ⟨_,_,u',w',loc2,hk,hrun,?_,?_⟩
  ·rw [heq,ob_pos hne];exact R2
  ·rw [sl_pos hne,hle]
   have:(⟨s.t.map (AV.kill r),(s.H.map (killO r)).set r (ob e T.size (l++news))⟩:AS).H.length=s.H.length:=by simp
   rw [this];exact hv2
 ·obtain ⟨hu,hE⟩:=tS_elem hT
  obtain ⟨i,d,hi,_,_⟩:=tI_info hE
  obtain ⟨news,rfl,_,ad,c,rfl,_,_,_⟩:=news_sound R hy hn
  have hs:Src P i.size t (.slice ad 0 c) 0 [] w:=by
   cases ad with
   | none=>exact Src.ofNil w hu c
   | some a0=>exact Src.ofSlice w hu a0 0 c [] (by simp) (fun j u h=>by simp at h) (fun u h=>by cases h)
  have hsl:∃base n cap,u=.slice base n cap∧n≤cap:=by
   cases hx with
   | f _ _ h =>
    cases h with
    | v =>
     unfold FV.slc at hz
     split at hz
     ·rename_i h;cases h
     ·rename_i h;cases h;exact ⟨_,_,_,rfl,Nat.le_refl _⟩
     ·cases hz
    | fz0 _ a cap hm=>exact ⟨_,_,_,rfl,Nat.zero_le _⟩
    | fz _ _ b off cap hF hn=>exact ⟨_,_,_,rfl,hn⟩
    | _=>cases hz
  obtain ⟨base,n,cap,rfl,hle⟩:=hsl
  exact ⟨_,s,_,w,loc,hk,run_append_nothing w t t ty e i hu hi base n cap hle _ hs,R,hx⟩
theorem aApp_sl {e:TypeId} {T:TI} {r sz:Nat} {l:List FV} {y:AV} {k:AV→AS→Prop} (h:sz=T.size∧s.H[r]?=some (ob e sz l)∧newsOf s.H sz y fun n=>∃news:List FV,n=news.map .f∧0<news.length∧(match T.zero with|some z=>z.cells.length=T.size|none=>False)∧0<T.size∧0<T.bytes∧(l.length+news.length)*T.bytes≤140737488355328 ∧
  k (sl r sz (l++news)) ⟨s.t.map (AV.kill r),(s.H.map (killO r)).set r (ob e sz (l++news))⟩):aApp e T s (sl r sz l) y k:=by
 obtain ⟨rfl,h1,h2⟩:=h
 exact .inr (.inl ⟨r,l,rfl,h1,h2⟩)
theorem RelF.reserve (R:RelF X F loc s a w):RelF X F loc ⟨s.t,s.H++[none]⟩ a w:=by
 have T:Tr F loc s.H.length w F loc (s.H++[none]).length w:=Tr.old (fun _ _=>rfl) (fun _ h=>h) (by simp) (fun _ _=>rfl)
 have hobj:∀q p,(s.H++[none])[q]?=some (some p)→s.H[q]?=some (some p):=fun q p h=>by
  rcases Nat.lt_trichotomy q s.H.length with h'|h'|h'
  ·rwa [List.getElem?_append_left h'] at h
  ·subst h';simp at h
  ·rw [List.getElem?_eq_none (by simp;omega)] at h;cases h
 exact ⟨R.hF,R.hG,R.hN,R.below,R.defers,R.len,fun j x h=>(R.tmps j x h).tr T,fun q p h=>(R.obj q p (hobj q p h)).tr T (hlt (hobj q p h)) rfl,fun q p h=>R.new q p (hobj q p h),fun q p h=>R.nF q p (hobj q p h),fun q q' p p' h h'=>R.inj q q' p p' (hobj q p h) (hobj q' p' h')⟩
theorem RelF.slice_frozen (R:RelF X F loc s a w) {j r sz k:Nat} {e:TypeId} {l:List FV} (hj:s.t[j]?=some (.own r sz 0 k)) (hk:k=l.length) (hr:s.H[r]?=some (some ⟨e,sz,l.map .f⟩)) :
  ∃F',RelF X F' loc ⟨(s.t.map (AV.kill r)).set j (.f (.fz sz l)),(s.H.map (killO r)).set r none⟩ a w:=by
 subst hk
 have R1:=R.freeze hr
 have R2:=R1.kills r
 have e1:(List.map (killO r) (s.H.set r none)).set r none=(s.H.map (killO r)).set r none:=by
  apply List.ext_getElem?
  intro i
  by_cases e:i=r
  ·subst e;rw [List.getElem?_set_self (by simpa using hlt hr),List.getElem?_set_self (by simpa using hlt hr)]
  ·rw [List.getElem?_set_ne (Ne.symm e),List.getElem?_set_ne (Ne.symm e),List.getElem?_map,List.getElem?_map,List.getElem?_set_ne (Ne.symm e)]
 have R3:RelF X (fun b=>F b∨b=(loc r).1) loc ⟨s.t.map (AV.kill r),(s.H.map (killO r)).set r none⟩ a w:=by rw [←e1];exact R2
 refine ⟨_,⟨R3.hF,R3.hG,R3.hN,R3.below,R3.defers,by simpa using R3.len,fun i x hi=>?_,fun q p h=>by have:=R3.obj q p h;exact this,R3.new,R3.nF,R3.inj⟩⟩
 replace hi:((s.t.map (AV.kill r)).set j (.f (.fz sz l)))[i]?=some x:=hi
 by_cases e:i=j
 ·subst e
  rw [List.getElem?_set_self (by simpa using glt hj)] at hi
  cases hi
  have hx:=R.tmps i _ hj
  obtain ⟨hu,vs,hvs,hvz,hc⟩:=R.obj r _ hr
  generalize a.tmps.getD i undef=v at hx ⊢
  cases hx with
  | own _ _ _ _ cap hr' hkc hm hs =>
   refine .f _ _ ?_
   rw [Nat.zero_mul]
   refine .fz sz l (loc r).1 0 cap (.inr rfl) hkc hm (uni_f.1 hu) (fun j=>vs.getD j undef) (fun j c hj=>?_) fun j c hj=>?_
   ·obtain ⟨u,h1,h2⟩:=hc j (.f c) (by
     show (flat (l.map AV.f))[j]?=_
     rw [flat_f,List.getElem?_map,hj];rfl)
    unfold World.cell?
    rw [show w.heap[(loc r).1]?=_ from hvs]
    have:vs.getD j undef=u:=by rw [Array.getD_eq_getD_getElem?,h1];rfl
    simp only [Nat.zero_add,this,h1]
    simp
   ·obtain ⟨u,h1,h2⟩:=hc j (.f c) (by
     show (flat (l.map AV.f))[j]?=_
     rw [flat_f,List.getElem?_map,hj];rfl)
    have:vs.getD j undef=u:=by rw [Array.getD_eq_getD_getElem?,h1];rfl
    rw [this]
    cases h2 with|f _ _ h2=>exact h2.mono (fun _ h=>.inl h) (fun _ _ _ _ h=>h)
 ·rw [List.getElem?_set_ne (Ne.symm e)] at hi
  exact R3.tmps i x hi
theorem RelF.sl_frozen (R:RelF X F loc s a w) {j r sz:Nat} {e:TypeId} {l:List FV} (hj:s.t[j]?=some (sl r sz l)) (hr:s.H[r]?=some (ob e sz l)) :
  ∃F',RelF X F' loc ⟨(s.t.map (AV.kill r)).set j (.f (.fz sz l)),(s.H.map (killO r)).set r none⟩ a w:=by
 by_cases hl:l=[]
 ·subst hl
  have R3:=R.kills r
  refine ⟨F,⟨R3.hF,R3.hG,R3.hN,R3.below,R3.defers,by simpa using R3.len,fun i x hi=>?_,fun q p h=>by have:=R3.obj q p h;exact this,R3.new,R3.nF,R3.inj⟩⟩
  replace hi:((s.t.map (AV.kill r)).set j (.f (.fz sz [])))[i]?=some x:=hi
  by_cases e:i=j
  ·subst e
   rw [List.getElem?_set_self (by simpa using glt hj)] at hi
   cases hi
   have hx:=R.tmps i _ hj
   generalize a.tmps.getD i undef=v at hx ⊢
   cases hx with
   | f _ _ hx=>cases hx with|v=>exact .f _ _ (.fz0 _ _ _ (by simp))
  ·rw [List.getElem?_set_ne (Ne.symm e)] at hi
   exact R3.tmps i x hi
 ·rw [sl_pos hl] at hj
  rw [ob_pos hl] at hr
  exact R.slice_frozen hj rfl hr
end
def AV.fz1 (r sz:Nat) (l:List FV):AV→AV
 | .own q z o k=>if q=r∧z=sz∧o=0∧k=l.length then .f (.fz sz l) else .own q z o k
 | x=>x
def AV.fzr (r sz:Nat) (l:List FV):AV→AV
 | .agg cs=>.agg (cs.map (AV.fz1 r sz l))
 | x=>x.fz1 r sz l
def fzO (r sz:Nat) (l:List FV):Option AO→Option AO
 | some o=>some ⟨o.e,o.sz,o.es.map (AV.fzr r sz l)⟩
 | none=>none
section
variable {P : Program} {X : Cx} {w w' : World} {F : Nat → Prop} {loc : Nat → Nat × Nat} {s : AS} {a : Act} {N r sz : Nat} {l : List FV}
end
end
end Go.Proofs.YthehegidpamldaaGreatDoor
