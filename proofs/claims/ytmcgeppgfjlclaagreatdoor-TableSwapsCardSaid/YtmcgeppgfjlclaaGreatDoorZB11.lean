/- Tables: sizes and variables that may be, as natural numbers. Conditions: none. -/
import Derived.Test.YtmcgeppgfjlclaaGreatDoorZB00
import Derived.Test.YtmcgeppgfjlclaaGreatDoorZB10
set_option linter.unusedVariables false
set_option linter.unusedSimpArgs false
namespace Go.Proofs.YtmcgeppgfjlclaaGreatDoor
open Go Go.RowKit
theorem nodT:∀{n:Nat} {l:List Nat},l.Nodup→(∀a∈l,a<n)→l.length≤n:=by
 intro n
 induction n with
 | zero =>
  intro l _ h
  cases l with
  | nil=>exact Nat.le_refl _
  | cons a l=>exact absurd (h a (by simp)) (by omega)
 | succ n ih =>
  intro l hd h
  by_cases hm:n∈l
  ·have h1:=ih (l:=l.erase n) (hd.erase n) fun a ha=>by
    obtain ⟨h2,h3⟩:=hd.mem_erase_iff.1 ha
    have:=h a h3
    omega
   rw [List.length_erase_of_mem hm] at h1
   omega
  ·have h1:=ih hd fun a ha=>by
    have:=h a ha
    have:a≠n:=fun e=>hm (e▸ha)
    omega
   omega
structure OkT (Z l : List Nat) : Prop where
  z1 : 1 ≤ Z.length
  z8 : Z.length ≤ 8
  zp : ∀ n ∈ Z, 1 ≤ n
  z4 : ∀ n ∈ Z, n ≤ 4
  ris : l.Pairwise (· < ·)
  lt : ∀ v ∈ l, v < Z.length
def szT (Z:List Nat) (v:Nat):Nat:=Z.getD v 0
def fitB (s:List Int):Bool:=decide (1≤s.length∧s.length≤8)&&s.all fun n=>decide (1≤n∧n≤4)
def okB (s l:List Int):Bool:=fitB s&&risB s.length l
section
variable {Z l m : List Nat} {v : Nat}
theorem OkT.sub (h:OkT Z l) (hr:m.Pairwise (·< ·)) (hm:∀v∈m,v<Z.length):OkT Z m:=⟨h.z1,h.z8,h.zp,h.z4,hr,hm⟩
theorem OkT.nd (h:OkT Z l):l.Nodup:=List.Pairwise.imp (fun h e=>by omega) h.ris
theorem OkT.len (h:OkT Z l):l.length≤8:=Nat.le_trans (nodT h.nd h.lt) h.z8
theorem OkT.szp (h:OkT Z l) (hv:v<Z.length):1≤szT Z v:=by
 unfold szT;rw [lget_lt Z 0 hv];exact h.zp _ (List.getElem_mem _)
theorem OkT.sz4 (h:OkT Z l) (hv:v<Z.length):szT Z v≤4:=by
 unfold szT;rw [lget_lt Z 0 hv];exact h.z4 _ (List.getElem_mem _)
theorem OkT.pos (h:OkT Z l):∀v∈l,1≤szT Z v:=fun v hv=>h.szp (h.lt v hv)
theorem OkT.cnt1 (h:OkT Z l):1≤cntS (szT Z) l:=cntS_pos h.pos
theorem OkT.cnt (h:OkT Z l):cntS (szT Z) l≤65536:=by
 have h1:=cntS_le (S:=szT Z) (l:=l) fun v hv=>h.sz4 (h.lt v hv)
 have h2:4^l.length≤4^8:=Nat.pow_le_pow_right (by decide) h.len
 have h3:(4:Nat)^8=65536:=by decide
 omega
theorem OkT.ztake (h:OkT Z l) (i:Nat):OkT Z (l.take i):=h.sub (h.ris.sublist (List.take_sublist _ _)) fun v hv=>h.lt v (List.mem_of_mem_take hv)
theorem OkT.get (h:OkT Z l) {i:Nat} (hi:i<l.length):l.getD i 0<Z.length:=by rw [lget_lt l 0 hi];exact h.lt _ (List.getElem_mem _)
end
theorem pwT {n:Nat} {l:List Int}:risB n l=true↔l.Pairwise (·< ·)∧∀x∈l,0≤x∧x<(n:Int):=by
 rw [risB_iff]
 constructor
 ·intro h
  have hlt:∀i j,i<j→j<l.length→l.getD i 0<l.getD j 0:=by
   intro i j
   induction j with
   | zero=>intro h;omega
   | succ j ih =>
    intro hij hj
    have h1:=(h (j+1) hj).1
    rw [prevI_next] at h1
    by_cases e:i=j
    ·subst e;exact h1
    ·have:=ih (by omega) (by omega);omega
  have hnn:∀j,j<l.length→0≤l.getD j 0:=(ris_nn (x:=l.length) (n:=n) h).2
  refine ⟨List.pairwise_iff_getElem.2 fun i j hi hj hij=>?_,fun x hx=>?_⟩
  ·have:=hlt i j hij hj
   rwa [lget_lt l 0 hi,lget_lt l 0 hj] at this
  ·obtain ⟨j,hj,rfl⟩:=List.getElem_of_mem hx
   have h1:=hnn j hj
   have h2:=(h j hj).2
   rw [lget_lt l 0 hj] at h1 h2
   exact ⟨h1,h2⟩
 ·rintro ⟨hp,hm⟩ x hx
  have hxm:=hm _ (List.getElem_mem hx)
  rw [lget_lt l 0 hx]
  refine ⟨?_,hxm.2⟩
  unfold prevI
  by_cases e:x=0
  ·rw [if_pos e];omega
  ·rw [if_neg e,lget_lt l 0 (by omega)]
   exact List.pairwise_iff_getElem.1 hp (x-1) x (by omega) hx (by omega)
theorem okB_of {Z m:List Nat} (h:OkT Z m):okB (Z.map Int.ofNat) (m.map Int.ofNat)=true:=by
 unfold okB fitB
 rw [Bool.and_eq_true,Bool.and_eq_true,decide_eq_true_iff,List.all_eq_true,List.length_map]
 refine ⟨⟨⟨h.z1,h.z8⟩,fun x hx=>?_⟩,pwT.2 ⟨?_,fun x hx=>?_⟩⟩
 ·obtain ⟨n,hn,rfl⟩:=List.mem_map.1 hx
  have h1:=h.zp n hn
  have h4:=h.z4 n hn
  exact decide_eq_true ⟨by show (1:Int)≤(n:Int);omega,by show (n:Int)≤4;omega⟩
 ·rw [List.pairwise_map]
  exact List.Pairwise.imp (fun {a b} hab=>by show (a:Int)<(b:Int);omega) h.ris
 ·obtain ⟨n,hn,rfl⟩:=List.mem_map.1 hx
  have h1:=h.lt n hn
  exact ⟨by show (0:Int)≤(n:Int);omega,by show (n:Int)<_;omega⟩
theorem ints_Ns (l:List Nat):ints (l.map Int.ofNat)=.fz 1 (Ns l):=by unfold Ns;simp [ints]
theorem cnt_take {Z l:List Nat} {i:Nat} (hi:i<l.length):cntS (szT Z) (l.take (i+1))=cntS (szT Z) (l.take i)*szT Z (l.getD i 0):=by
 rw [List.take_add_one,List.getElem?_eq_getElem hi,cntS_app,lget_lt l 0 hi]
 show _*(szT Z l[i]*1)=_
 rw [Nat.mul_one]
def asgL (Z l:List Nat) (k:Nat):List Nat:=l.map fun v=>asgS (szT Z) l k v
theorem asgL_len {Z l:List Nat} {k:Nat}:(asgL Z l k).length=l.length:=by unfold asgL;rw [List.length_map]
theorem asgL_get {Z l:List Nat} {k i:Nat} (hi:i<l.length):(asgL Z l k).getD i 0=asgS (szT Z) l k (l.getD i 0):=by
 rw [lget_lt _ 0 (by rw [asgL_len];exact hi),lget_lt l 0 hi];unfold asgL;rw [List.getElem_map]
end Go.Proofs.YtmcgeppgfjlclaaGreatDoor
set_option linter.unusedVariables false
set_option linter.unusedSimpArgs false
namespace Go.Proofs.YtmcgeppgfjlclaaGreatDoor
def tblG (Z l:List Nat) (qs:List Rat) (a:Nat→Nat):Rat:=qs.getD (idxS (szT Z) a l) 0
def lessT (l:List Nat) (v:Nat):List Nat:=l.filter fun u=>decide (u≠v)
def outT (op:Rat→Rat→Rat) (Z l:List Nat) (v:Nat) (qs:List Rat):List Rat:=tblS (szT Z) (lessT l v) (outF op (szT Z v-1) v (tblG Z l qs))
def uniT (n:Nat) (la lb:List Nat):List Nat:=(List.range n).filter fun v=>decide (v∈la∨v∈lb)
def proT (Z la lb:List Nat) (qa qb:List Rat):List Rat:=tblS (szT Z) (uniT Z.length la lb) fun a=>tblG Z la qa a*tblG Z lb qb a
section
variable {Z l la lb m : List Nat} {qs qa qb : List Rat} {u v : Nat} {op : Rat → Rat → Rat} {a : Nat → Nat} {G F : (Nat → Nat) → Rat}
theorem mem_lessT:u∈lessT l v↔u∈l∧u≠v:=by unfold lessT;rw [List.mem_filter,decide_eq_true_iff]
theorem OkT.less (h:OkT Z l):OkT Z (lessT l v):=h.sub (List.Pairwise.filter _ h.ris) fun w hw=>h.lt w (mem_lessT.1 hw).1
theorem mem_uniT {n:Nat}:u∈uniT n la lb↔u<n∧(u∈la∨u∈lb):=by unfold uniT;rw [List.mem_filter,List.mem_range,decide_eq_true_iff]
theorem OkT.uni (h:OkT Z la):OkT Z (uniT Z.length la lb):=h.sub (List.Pairwise.filter _ List.pairwise_lt_range) fun w hw=>(mem_uniT.1 hw).1
theorem uniT_comm {n:Nat}:uniT n la lb=uniT n lb la:=by
 unfold uniT;congr 1;funext v;exact decide_eq_decide.2 ⟨Or.symm,Or.symm⟩
theorem less_less:lessT (lessT l u) v=lessT (lessT l v) u:=by
 unfold lessT;rw [List.filter_filter,List.filter_filter];congr 1;funext w;exact Bool.and_comm ..
theorem less_uni {n:Nat} (hv:v∉la):lessT (uniT n la lb) v=uniT n la (lessT lb v):=by
 unfold uniT
 show List.filter _ (List.filter _ _)=_
 rw [List.filter_filter]
 congr 1;funext w
 rw [Bool.and_comm,←Bool.decide_and]
 refine decide_eq_decide.2 ⟨fun ⟨h1,h2⟩=>h1.imp id fun h=>mem_lessT.2 ⟨h,h2⟩,fun h=>?_⟩
 rcases h with h|h
 ·exact ⟨.inl h,fun e=>hv (by rw [←e];exact h)⟩
 ·obtain ⟨h1,h2⟩:=mem_lessT.1 h
  exact ⟨.inr h1,h2⟩
theorem dep_tblG (h:∀w∈l,w∈m):Dep m (tblG Z l qs):=fun a b hab=>by
 unfold tblG;rw [idxS_congr fun w hw=>hab w (h w hw)]
theorem dep_mul (hF:Dep m F) (hG:Dep m G):Dep m fun a=>F a*G a:=fun a b h=>by show F a*G a=F b*G b;rw [hF a b h,hG a b h]
theorem tblG_tblS (h:OkT Z l) (hG:Dep l G) (ha:∀w∈l,a w<szT Z w):tblG Z l (tblS (szT Z) l G) a=G a:=by
 unfold tblG
 rw [List.getD_eq_getElem?_getD,tblS_get (idxS_lt ha)]
 exact hG _ _ fun w hw=>asgS_idx h.nd ha hw
theorem tblS_congr (h:OkT Z l) (hFG:∀a,(∀w∈l,a w<szT Z w)→F a=G a):tblS (szT Z) l F=tblS (szT Z) l G:=by
 unfold tblS
 exact List.map_congr_left fun k hk=>hFG _ fun w hw=>asgS_lt h.nd h.pos (List.mem_range.1 hk) hw
theorem outT_len:(outT op Z l v qs).length=cntS (szT Z) (lessT l v):=tblS_len
theorem proT_len:(proT Z la lb qa qb).length=cntS (szT Z) (uniT Z.length la lb):=tblS_len
theorem upd_lt (ha:∀w∈lessT l v,a w<szT Z w) {x:Nat} (hx:x<szT Z v):∀w∈l,updS a v x w<szT Z w:=fun w hw=>by
 by_cases e:w=v
 ·rw [e,updS_self];exact hx
 ·rw [updS_ne e];exact ha w (mem_lessT.2 ⟨hw,e⟩)
theorem outT_tblS (h:OkT Z l) (hv:v<Z.length) (hG:Dep l G):outT op Z l v (tblS (szT Z) l G)=tblS (szT Z) (lessT l v) (outF op (szT Z v-1) v G):=by
 unfold outT
 refine tblS_congr h.less fun a ha=>?_
 unfold outF
 refine f1S_congr fun x hx=>?_
 have:=h.szp hv
 exact tblG_tblS h hG (upd_lt ha (by omega))
theorem out_out (h:OkT Z l) (hu:u<Z.length) (hv:v<Z.length) (huv:u≠v) (hc:∀a b,op a b=op b a) (ha:∀a b c,op (op a b) c=op a (op b c)) :
  outT op Z (lessT l u) v (outT op Z l u qs)=outT op Z (lessT l v) u (outT op Z l v qs):=by
 have hd:∀w,Dep (lessT l w) (outF op (szT Z w-1) w (tblG Z l qs)):=fun w=>dep_out (dep_tblG fun x hx=>hx) fun x hx=>by
  by_cases e:x=w
  ·exact .inr e
  ·exact .inl (mem_lessT.2 ⟨hx,e⟩)
 show outT op Z (lessT l u) v (tblS _ _ _)=outT op Z (lessT l v) u (tblS _ _ _)
 rw [outT_tblS h.less hv (hd u),outT_tblS h.less hu (hd v),less_less]
 refine tblS_congr (h.less.less) fun a _=>?_
 exact outF_swap hc ha (Ne.symm huv)
theorem pro_out (hla:OkT Z la) (hlb:OkT Z lb) (hv:v<Z.length) (hva:v∉la) :
  outT (·+ ·) Z (uniT Z.length la lb) v (proT Z la lb qa qb)=proT Z la (lessT lb v) qa (outT (·+ ·) Z lb v qb):=by
 have d1:Dep (uniT Z.length la lb) (tblG Z la qa):=dep_tblG fun w hw=>mem_uniT.2 ⟨hla.lt w hw,.inl hw⟩
 have d2:Dep (uniT Z.length la lb) (tblG Z lb qb):=dep_tblG fun w hw=>mem_uniT.2 ⟨hlb.lt w hw,.inr hw⟩
 show outT (·+ ·) Z _ v (tblS _ _ _)=_
 rw [outT_tblS hla.uni hv (dep_mul d1 d2),less_uni hva]
 unfold proT
 refine tblS_congr hla.uni fun a ha=>?_
 rw [outF_mul (l:=la) (dep_tblG fun x hx=>hx) hva]
 congr 1
 unfold outT
 rw [tblG_tblS hlb.less (dep_out (dep_tblG fun x hx=>hx) fun x hx=>?_) fun w hw=>ha w (mem_uniT.2 ⟨hlb.lt w (mem_lessT.1 hw).1,.inr hw⟩)]
 by_cases e:x=v
 ·exact .inr e
 ·exact .inl (mem_lessT.2 ⟨hx,e⟩)
theorem pro_comm:proT Z la lb qa qb=proT Z lb la qb qa:=by
 unfold proT
 rw [uniT_comm]
 congr 1;funext a
 exact Rat.mul_comm _ _
end
end Go.Proofs.YtmcgeppgfjlclaaGreatDoor
