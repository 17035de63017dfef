/- Tables: sizes and variables that may be, as natural numbers. Conditions: none. -/
import Derived.Test.YthehegidpamldaaGreatDoorZB07
import Derived.Test.YthehegidpamldaaGreatDoorZB09
set_option linter.unusedVariables false
set_option linter.unusedSimpArgs false
namespace Go.Proofs.YthehegidpamldaaGreatDoor
open Go Go.RowKit
theorem nodT:∀{n:Nat} {l:List Nat},l.Nodup→(∀a∈l,a<n)→l.length≤n:=by
 intro n
 induction n with
 | zero =>
  intro l _ h
  cases l with
  | nil=>exact Nat.le_refl _
  | cons a l=>exact absurd (h a (by simp)) (by omega)
 | succ n ih =>
  intro l hd h
  by_cases hm:n∈l
  ·have h1:=ih (l:=l.erase n) (hd.erase n) fun a ha=>by
    obtain ⟨h2,h3⟩:=hd.mem_erase_iff.1 ha
    have:=h a h3
    omega
   rw [List.length_erase_of_mem hm] at h1
   omega
  ·have h1:=ih hd fun a ha=>by
    have:=h a ha
    have:a≠n:=fun e=>hm (e▸ha)
    omega
   omega
structure OkT (Z l : List Nat) : Prop where
  z1 : 1 ≤ Z.length
  z8 : Z.length ≤ 8
  zp : ∀ n ∈ Z, 1 ≤ n
  z4 : ∀ n ∈ Z, n ≤ 4
  ris : l.Pairwise (· < ·)
  lt : ∀ v ∈ l, v < Z.length
def szT (Z:List Nat) (v:Nat):Nat:=Z.getD v 0
def fitB (s:List Int):Bool:=decide (1≤s.length∧s.length≤8)&&s.all fun n=>decide (1≤n∧n≤4)
def okB (s l:List Int):Bool:=fitB s&&risB s.length l
section
variable {Z l m : List Nat} {v : Nat}
theorem OkT.sub (h:OkT Z l) (hr:m.Pairwise (·< ·)) (hm:∀v∈m,v<Z.length):OkT Z m:=⟨h.z1,h.z8,h.zp,h.z4,hr,hm⟩
theorem OkT.nd (h:OkT Z l):l.Nodup:=List.Pairwise.imp (fun h e=>by omega) h.ris
theorem OkT.len (h:OkT Z l):l.length≤8:=Nat.le_trans (nodT h.nd h.lt) h.z8
theorem OkT.szp (h:OkT Z l) (hv:v<Z.length):1≤szT Z v:=by
 unfold szT;rw [lget_lt Z 0 hv];exact h.zp _ (List.getElem_mem _)
theorem OkT.sz4 (h:OkT Z l) (hv:v<Z.length):szT Z v≤4:=by
 unfold szT;rw [lget_lt Z 0 hv];exact h.z4 _ (List.getElem_mem _)
theorem OkT.pos (h:OkT Z l):∀v∈l,1≤szT Z v:=fun v hv=>h.szp (h.lt v hv)
theorem OkT.cnt1 (h:OkT Z l):1≤cntS (szT Z) l:=cntS_pos h.pos
theorem OkT.cnt (h:OkT Z l):cntS (szT Z) l≤65536:=by
 have h1:=cntS_le (S:=szT Z) (l:=l) fun v hv=>h.sz4 (h.lt v hv)
 have h2:4^l.length≤4^8:=Nat.pow_le_pow_right (by decide) h.len
 have h3:(4:Nat)^8=65536:=by decide
 omega
theorem OkT.ztake (h:OkT Z l) (i:Nat):OkT Z (l.take i):=h.sub (h.ris.sublist (List.take_sublist _ _)) fun v hv=>h.lt v (List.mem_of_mem_take hv)
theorem OkT.zdrop (h:OkT Z l) (i:Nat):OkT Z (l.drop i):=h.sub (h.ris.sublist (List.drop_sublist _ _)) fun v hv=>h.lt v (List.mem_of_mem_drop hv)
theorem OkT.get (h:OkT Z l) {i:Nat} (hi:i<l.length):l.getD i 0<Z.length:=by rw [lget_lt l 0 hi];exact h.lt _ (List.getElem_mem _)
end
theorem pwT {n:Nat} {l:List Int}:risB n l=true↔l.Pairwise (·< ·)∧∀x∈l,0≤x∧x<(n:Int):=by
 rw [risB_iff]
 constructor
 ·intro h
  have hlt:∀i j,i<j→j<l.length→l.getD i 0<l.getD j 0:=by
   intro i j
   induction j with
   | zero=>intro h;omega
   | succ j ih =>
    intro hij hj
    have h1:=(h (j+1) hj).1
    rw [prevI_next] at h1
    by_cases e:i=j
    ·subst e;exact h1
    ·have:=ih (by omega) (by omega);omega
  have hnn:∀j,j<l.length→0≤l.getD j 0:=(ris_nn (x:=l.length) (n:=n) h).2
  refine ⟨List.pairwise_iff_getElem.2 fun i j hi hj hij=>?_,fun x hx=>?_⟩
  ·have:=hlt i j hij hj
   rwa [lget_lt l 0 hi,lget_lt l 0 hj] at this
  ·obtain ⟨j,hj,rfl⟩:=List.getElem_of_mem hx
   have h1:=hnn j hj
   have h2:=(h j hj).2
   rw [lget_lt l 0 hj] at h1 h2
   exact ⟨h1,h2⟩
 ·rintro ⟨hp,hm⟩ x hx
  have hxm:=hm _ (List.getElem_mem hx)
  rw [lget_lt l 0 hx]
  refine ⟨?_,hxm.2⟩
  unfold prevI
  by_cases e:x=0
  ·rw [if_pos e];omega
  ·rw [if_neg e,lget_lt l 0 (by omega)]
   exact List.pairwise_iff_getElem.1 hp (x-1) x (by omega) hx (by omega)
theorem natOf {l:List Int} (h:∀x∈l,0≤x):(l.map Int.toNat).map Int.ofNat=l:=by
 rw [List.map_map]
 conv=>rhs;rw [←List.map_id l]
 exact List.map_congr_left fun x hx=>by have:=h x hx;show ((x.toNat:Nat):Int)=x;omega
theorem okB_of {Z m:List Nat} (h:OkT Z m):okB (Z.map Int.ofNat) (m.map Int.ofNat)=true:=by
 unfold okB fitB
 rw [Bool.and_eq_true,Bool.and_eq_true,decide_eq_true_iff,List.all_eq_true,List.length_map]
 refine ⟨⟨⟨h.z1,h.z8⟩,fun x hx=>?_⟩,pwT.2 ⟨?_,fun x hx=>?_⟩⟩
 ·obtain ⟨n,hn,rfl⟩:=List.mem_map.1 hx
  have h1:=h.zp n hn
  have h4:=h.z4 n hn
  exact decide_eq_true ⟨by show (1:Int)≤(n:Int);omega,by show (n:Int)≤4;omega⟩
 ·rw [List.pairwise_map]
  exact List.Pairwise.imp (fun {a b} hab=>by show (a:Int)<(b:Int);omega) h.ris
 ·obtain ⟨n,hn,rfl⟩:=List.mem_map.1 hx
  have h1:=h.lt n hn
  exact ⟨by show (0:Int)≤(n:Int);omega,by show (n:Int)<_;omega⟩
theorem ints_Ns (l:List Nat):ints (l.map Int.ofNat)=.fz 1 (Ns l):=by unfold Ns;simp [ints]
theorem cnt_take {Z l:List Nat} {i:Nat} (hi:i<l.length):cntS (szT Z) (l.take (i+1))=cntS (szT Z) (l.take i)*szT Z (l.getD i 0):=by
 rw [List.take_add_one,List.getElem?_eq_getElem hi,cntS_app,lget_lt l 0 hi]
 show _*(szT Z l[i]*1)=_
 rw [Nat.mul_one]
def horT (Z l:List Nat) (at_:List Int):Nat→Nat
 | 0=>0
 | i+1=>horT Z l at_ i*szT Z (l.getD i 0)+(at_.getD i 0).toNat
theorem horT_lt {Z l:List Nat} {at_:List Int} (h:OkT Z l):∀{i:Nat},i≤l.length→(∀j,j<i→(at_.getD j 0).toNat<szT Z (l.getD j 0))→horT Z l at_ i<cntS (szT Z) (l.take i):=by
 intro i
 induction i with
 | zero=>intro _ _;show 0<1;omega
 | succ i ih =>
  intro hi ha
  have h1:=ih (by omega) fun j hj=>ha j (by omega)
  have h2:=ha i (by omega)
  rw [cnt_take (by omega)]
  show horT Z l at_ i*szT Z (l.getD i 0)+(at_.getD i 0).toNat<_
  have h3:=Nat.mul_le_mul_right (szT Z (l.getD i 0)) (show horT Z l at_ i+1≤cntS (szT Z) (l.take i) by omega)
  rw [Nat.add_mul] at h3
  omega
def asgL (Z l:List Nat) (k:Nat):List Nat:=l.map fun v=>asgS (szT Z) l k v
theorem asgL_len {Z l:List Nat} {k:Nat}:(asgL Z l k).length=l.length:=by unfold asgL;rw [List.length_map]
theorem asgL_get {Z l:List Nat} {k i:Nat} (hi:i<l.length):(asgL Z l k).getD i 0=asgS (szT Z) l k (l.getD i 0):=by
 rw [lget_lt _ 0 (by rw [asgL_len];exact hi),lget_lt l 0 hi];unfold asgL;rw [List.getElem_map]
end Go.Proofs.YthehegidpamldaaGreatDoor
