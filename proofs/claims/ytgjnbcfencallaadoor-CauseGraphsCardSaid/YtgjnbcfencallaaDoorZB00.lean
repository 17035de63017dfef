/- Joined: NatP Kit NatA NatB NatC LimbP NatD Rf NatE NatF NatG NatH NatI. Conditions: as said at each part. -/
import GoSem.Core.Value
import Derived.Lib.Strings
import Derived.WalkKit
import Derived.Below
import Derived.WalkSmall
import Derived.Outline
import Derived.Lib.Hide
import Derived.Deep.DeepMust
import Derived.Lib.ConvBytes
import Derived.Laws.BytesArg
import Derived.Laws.AppendOwnNone
import Derived.OneCell
import Derived.Laws.BitsAllLaws
import Derived.Test.YtgjnbcfencallaaDoorProg
import Derived.RangeFuncNested
import Derived.RangeFuncBound
import Derived.RangeFuncCalls
import Derived.RangeFuncLeaves
import Derived.Shelf.Abstract
import Derived.Shelf.RegionOpen
import Derived.OwnWalkIn
import Derived.TacticsInMore
import Derived.LoopNIn
import Derived.LoopIn
import Derived.Deep.QuietTactic
import Derived.BigQuiet
import Derived.BigRegion
import Derived.Laws.ShiftsVar
import Derived.Lib.Bytealg
import Derived.Deep.RegionWith
set_option linter.unusedVariables false
set_option linter.unusedSimpArgs false
namespace Go.Proofs.YtgjnbcfencallaaDoor
section
def nv (l:List UInt8):Nat:=l.foldl (fun n b=>n*256+b.toNat) 0
def nb (n:Nat):List UInt8:=if n=0 then [] else nb (n/256)++[UInt8.ofNat (n%256)]
termination_by n
decreasing_by omega
def vn (s:ByteArray):Nat:=nv s.data.toList
def ns (n:Nat):ByteArray:=⟨(nb n).toArray⟩

theorem nb_zero:nb 0=[]:=by rw [nb];rfl
theorem nb_pos (n:Nat) (h:n≠0):nb n=nb (n/256)++[UInt8.ofNat (n%256)]:=by rw [nb,if_neg h]
theorem nv_snoc (l:List UInt8) (b:UInt8):nv (l++[b])=nv l*256+b.toNat:=by simp [nv,List.foldl_append]
theorem nv_cons_aux (l:List UInt8) (k:Nat):l.foldl (fun n b=>n*256+b.toNat) k=k*256^l.length+nv l:=by
 induction l generalizing k with
 | nil=>simp [nv]
 | cons b l ih =>
  simp only [List.foldl_cons,List.length_cons,nv]
  rw [ih,ih (0*256+b.toNat),Nat.pow_succ]
  simp only [Nat.zero_mul,Nat.zero_add,Nat.add_mul]
  rw [Nat.mul_assoc,Nat.mul_comm 256,Nat.add_assoc]
theorem nv_cons (b:UInt8) (l:List UInt8):nv (b::l)=b.toNat*256^l.length+nv l:=by
 have:=nv_cons_aux l b.toNat
 simpa [nv] using this
theorem nv_lt (l:List UInt8):nv l<256^l.length:=by
 induction l with
 | nil=>simp [nv]
 | cons b l ih =>
  rw [nv_cons,List.length_cons,Nat.pow_succ]
  have hb:=b.toNat_lt
  have:(b.toNat+1)*256^l.length≤256*256^l.length:=Nat.mul_le_mul_right _ (by omega)
  rw [Nat.add_mul,Nat.one_mul] at this
  rw [Nat.mul_comm (256^l.length)];omega
theorem nv_nb (n:Nat):nv (nb n)=n:=by
 induction n using Nat.strongRecOn with
 | _ n ih =>
  by_cases h:n=0
  ·subst h;rw [nb_zero];rfl
  ·rw [nb_pos n h,nv_snoc,ih (n/256) (by omega)]
   have:(UInt8.ofNat (n%256)).toNat=n%256:=by simp
   rw [this];omega
theorem vn_ns (n:Nat):vn (ns n)=n:=by simp [vn,ns,nv_nb]
theorem nb_head (n:Nat) (h:n≠0):∃b l,nb n=b::l∧b≠0:=by
 induction n using Nat.strongRecOn with
 | _ n ih =>
  rw [nb_pos n h]
  by_cases h0:n/256=0
  ·rw [h0,nb_zero]
   refine ⟨_,_,rfl,fun e=>?_⟩
   have:(UInt8.ofNat (n%256)).toNat=0:=by rw [e];rfl
   simp at this;omega
  ·obtain ⟨b,l,e,hb⟩:=ih (n/256) (by omega) h0
   exact ⟨b,l++[UInt8.ofNat (n%256)],by rw [e];rfl,hb⟩
theorem ns_size (n:Nat):(ns n).size=(nb n).length:=List.size_toArray
theorem nb_length_lt {n k:Nat} (h:n<256^k):(nb n).length≤k:=by
 by_cases h0:n=0
 ·subst h0;simp [nb_zero]
 ·obtain ⟨b,l,e,hb⟩:=nb_head n h0
  have v:=nv_nb n
  rw [e,nv_cons] at v
  have b1:1≤b.toNat:=by
   have:b.toNat≠0:=fun e=>hb (UInt8.toNat_inj.1 (by simpa using e))
   omega
  have l1:256^l.length≤n:=by have:=Nat.mul_le_mul_right (256^l.length) b1;omega
  rw [e]
  have:=(Nat.pow_lt_pow_iff_right (by omega:1<256)).1 (Nat.lt_of_le_of_lt l1 h)
  simp;omega
theorem vn_lt (s:ByteArray):vn s<256^s.size:=by have:=nv_lt s.data.toList;rw [Array.length_toList] at this;exact this
theorem bytes_size (t:ByteArray):t.data.toList.length=t.size:=Array.length_toList
theorem bytes_get (t:ByteArray) (i:Nat) (h:i<t.size):t[i]=t.data.toList[i]'(by rw [bytes_size];exact h):=by
 show t.data[i]=_
 rw [Array.getElem_toList]
end

section
open Go.RowKit

def Blk (w:World) (b:Nat) (e:TypeId) (cs:List Value):Prop:=w.heap[b]?=some (.cells cs.toArray e (0,0))

section
variable {w w' : World} {b : Nat} {e : TypeId} {cs : List Value}
theorem Blk.lt (h:Blk w b e cs):b<w.heap.size:=(Array.getElem?_eq_some_iff.1 h).1
theorem Blk.cell? (h:Blk w b e cs) (i:Nat):w.cell? ⟨b,i,none⟩=cs[i]?:=by
 unfold World.cell?
 rw [show w.heap[(⟨b,i,none⟩:Addr).block]?=some (.cells cs.toArray e (0,0)) from h]
 simp
theorem Blk.cell (h:Blk w b e cs) (i:Nat) (hi:i<cs.length):w.cell? ⟨b,i,none⟩=some cs[i]:=by rw [h.cell?,List.getElem?_eq_getElem hi]
theorem Blk.frozen (h:Blk w b e cs) (i:Nat):w.frozen? ⟨b,i,none⟩=false:=by
 unfold World.frozen?
 rw [show w.heap[(⟨b,i,none⟩:Addr).block]?=some (.cells cs.toArray e (0,0)) from h]
 simp
theorem Blk.set (h:Blk w b e cs) (i:Nat) (u:Value):Blk (w.setCell ⟨b,i,none⟩ u) b e (cs.set i u):=by
 unfold Blk at h ⊢
 simp only [World.setCell,Array.getElem?_modify,if_true]
 rw [h]
 simp
theorem Blk.of_block (h:Blk w b e cs) (hb:w'.heap[b]?=w.heap[b]?):Blk w' b e cs:=by unfold Blk at *;rw [hb];exact h
theorem Blk.alloc (h:Blk w b e cs) (o:Obj):Blk (w.alloc o) b e cs:=h.of_block (Below.heap_alloc w o b h.lt)
theorem Blk.drew (h:Blk w b e cs):Blk w.drew b e cs:=h
theorem Blk.below {B:Nat} (h:Blk w b e cs) (hb:Below B w w') (hB:b<B):Blk w' b e cs:=h.of_block (hb.block b hB)
theorem Blk.ext (h:Blk w b e cs) (hb:Below w.heap.size w w'):Blk w' b e cs:=h.below hb h.lt
theorem Blk.grown {row:Option Nat} (h:Blk w b e cs) (hg:w.grownBy w' row) (hr:some b≠row):Blk w' b e cs:=h.of_block (hg.block b h.lt hr)
theorem Blk.new (w:World) (e:TypeId) (cs:List Value):Blk (w.alloc (.cells cs.toArray e)) w.heap.size e cs:=by
 unfold Blk;show (w.heap.push _)[w.heap.size]?=_;simp
theorem Blk.newA (w:World) (e:TypeId) (a:Array Value):Blk (w.alloc (.cells a e)) w.heap.size e a.toList:=by
 unfold Blk;show (w.heap.push _)[w.heap.size]?=_;simp
end

def SliceAt (w:World) (v:Value) (size:Nat) (cs:List Value):Prop :=
 ∃n cap,n≤maxLen∧n≤cap∧cap≤maxLen∧cs.length=n*size∧((n=0∧∃a,v=.slice a 0 cap)∨∃b off,v=.slice (some ⟨b,off,none⟩) n cap∧∀j (h:j<cs.length),w.cell? ⟨b,off+j,none⟩=some cs[j])

theorem SliceAt.nil (w:World) (size:Nat):SliceAt w (.slice none 0 0) size []:=⟨0,0,by simp [maxLen],Nat.le_refl _,by simp [maxLen],by simp,.inl ⟨rfl,none,rfl⟩⟩
theorem SliceAt.of_cells {w w':World} {v:Value} {size:Nat} {cs:List Value} (h:SliceAt w v size cs) (hc:∀a,w.cell? a≠none→w'.cell? a=w.cell? a):SliceAt w' v size cs:=by
 obtain ⟨n,cap,h1,h2,h3,h4,h5⟩:=h
 refine ⟨n,cap,h1,h2,h3,h4,?_⟩
 rcases h5 with h5|⟨b,off,rfl,h5⟩
 ·exact .inl h5
 ·exact .inr ⟨b,off,rfl,fun j hj=>by rw [hc _ (by rw [h5 j hj];simp)];exact h5 j hj⟩
theorem ext_cell {w w':World} (hb:Below w.heap.size w w') (a:Addr) (h:w.cell? a≠none):w'.cell? a=w.cell? a:=by
 cases hv:w.cell? a with
 | none=>exact absurd hv h
 | some v=>rw [←hv];exact hb.cell (World.block_lt_of_cell? w a hv)
theorem SliceAt.ext {w w':World} {v:Value} {size:Nat} {cs:List Value} (h:SliceAt w v size cs) (hb:Below w.heap.size w w'):SliceAt w' v size cs:=h.of_cells (ext_cell hb)
def FreshV (B:Nat) (v:Value):Prop:=∀a n c,v=.slice (some a) n c→0<n→B≤a.block
theorem FreshV.mono {B B':Nat} {v:Value} (h:FreshV B v) (hB:B'≤B):FreshV B' v:=fun a n c e h0=>Nat.le_trans hB (h a n c e h0)
theorem FreshV.nil (B:Nat):FreshV B (.slice none 0 0):=fun a n c e h0=>by cases e
theorem FreshV.at {B b off n c:Nat} (h:B≤b):FreshV B (.slice (some ⟨b,off,none⟩) n c):=fun a m c' e _=>by cases e;exact h
def sliceLen:Value→Nat|.slice _ n _=>n|_=>0
theorem SliceAt.len {w:World} {v:Value} {size:Nat} {cs:List Value} (h:SliceAt w v size cs):sliceLen v*size=cs.length:=by
 obtain ⟨n,cap,_,_,_,hl,h⟩:=h
 rcases h with ⟨rfl,a,rfl⟩|⟨b,off,rfl,_⟩
 ·rw [hl];rfl
 ·exact hl.symm
theorem SliceAt.open1 {α:Type} [Inhabited α] {w:World} {v:Value} {l:List α} {f:α→Value} (h:SliceAt w v 1 (l.map f)) :
  ∃a cap,v=.slice a l.length cap∧l.length≤cap∧cap≤maxLen∧∀i,i<l.length→∃b off,a=some ⟨b,off,none⟩∧w.cell? ⟨b,off+i,none⟩=some (f (l.getD i default)):=by
 obtain ⟨n,cap,hm,hnc,hcm,hn,h⟩:=h
 have hl:l.length=n:=by simpa using hn
 subst hl
 rcases h with ⟨h0,a,rfl⟩|⟨b,off,rfl,hc⟩
 ·exact ⟨a,cap,by rw [h0],hnc,hcm,fun i hi=>by omega⟩
 ·refine ⟨_,cap,rfl,hnc,hcm,fun i hi=>⟨b,off,rfl,?_⟩⟩
  rw [hc i (by simpa using hi)]
  simp [List.getD_eq_getElem?_getD,List.getElem?_eq_getElem hi]

section
variable {P : Program}
variable {t e size : Nat}
end

section
variable {P : Program}
end

structure ElemT (P : Program) (t e size bytes : Nat) (z : Value) : Prop where
  ht : P.underlying t = some (.slice e)
  hi : ∃ i, P.info? e = some i ∧ i.zero = some z ∧ i.size = size ∧ i.bytes = bytes
  hzs : z.cells.size = size
  hsz : 0 < size
theorem ElemT.sz {P:Program} {t e size bytes:Nat} {z:Value} (E:ElemT P t e size bytes z):∀w,(Go.sizeOf e).run P w=.ok size w:=by
 obtain ⟨i,hi,_,hs,_⟩:=E.hi
 intro w
 simp [Go.sizeOf,typeInfo,hi,hs]
theorem SliceAt.lit (w:World) (e:TypeId) (n:Nat) (size:Nat) (a:Array Value) (hn:a.size=n*size) (hm:n≤maxLen):SliceAt (w.alloc (.cells a e)) (.slice (some ⟨w.heap.size,0,none⟩) n n) size a.toList :=
 ⟨n,n,hm,Nat.le_refl _,hm,by simpa using hn,.inr ⟨_,0,rfl,fun j hj=>by rw [Nat.zero_add];exact (Blk.newA w e a).cell j hj⟩⟩

section
variable {P : Program}
end
end

section
open Go.RowKit

end

section
open Go.RowKit

end

section
open Go.RowKit

end

section
def Lim (l:List Nat):Prop:=∀x,x∈l→x<4294967296
def limbVals (l:List Nat):List Value:=l.map fun x:Nat=>Value.int .u32 (x:Int)

theorem lim_get {l:List Nat} (h:Lim l) (i:Nat) (d:Nat) (hi:i<l.length):l.getD i d<4294967296:=by
 rw [List.getD_eq_getElem?_getD,List.getElem?_eq_getElem hi];exact h _ (List.getElem_mem hi)
end

section
open Go.RowKit

def Limbs (w:World) (v:Value) (l:List Nat):Prop:=SliceAt w v 1 (limbVals l)∧Lim l
theorem Limbs.ext {w w':World} {v:Value} {l:List Nat} (h:Limbs w v l) (hb:Below w.heap.size w w'):Limbs w' v l:=⟨h.1.ext hb,h.2⟩

end

section
open Go.RowKit

def CellsKept (w w':World):Prop:=∀(b:Nat) (c:Array Value) (e:TypeId) (f:Nat × Nat),w.heap[b]?=some (Obj.cells c e f)→w'.heap[b]?=some (Obj.cells c e f)
theorem CellsKept.refl (w:World):CellsKept w w:=fun _ _ _ _ h=>h
theorem CellsKept.cell {w w':World} (h:CellsKept w w') (a:Addr) (hv:w.cell? a≠none):w'.cell? a=w.cell? a:=by
 unfold World.cell? at hv ⊢
 cases hb:w.heap[a.block]? with
 | none=>rw [hb] at hv;exact absurd rfl hv
 | some o =>
  rw [hb] at hv
  cases o with
  | cells c e f=>rw [h _ _ _ _ hb]
  | _=>exact absurd rfl hv
theorem CellsKept.blk {w w':World} (h:CellsKept w w') {b:Nat} {e:TypeId} {cs:List Value} (hb:Blk w b e cs):Blk w' b e cs:=h _ _ _ _ hb
theorem CellsKept.slice {w w':World} (h:CellsKept w w') {v:Value} {size:Nat} {cs:List Value} (hs:SliceAt w v size cs):SliceAt w' v size cs:=hs.of_cells h.cell
end

section
open Go.RowKit Go.Shelf
attribute [local go_sem] Oper.semAt_some

end

section
open Go.RowKit

theorem Limbs.op {w:World} {v:Value} {l:List Nat} (h:Limbs w v l):∃a cap,v=.slice a l.length cap∧l.length≤cap∧cap≤maxLen∧∀i,i<l.length→(∃b off,a=some ⟨b,off,none⟩∧w.cell? ⟨b,off+i,none⟩=some (.int .u32 (l.getD i default:Nat)))∧l.getD i default<4294967296:=by
 obtain ⟨a,cap,h1,h2,h3,h4⟩:=SliceAt.open1 h.1
 exact ⟨a,cap,h1,h2,h3,fun i hi=>⟨h4 i hi,lim_get h.2 i default hi⟩⟩

end

section
open Go.RowKit

end

section
open Go.RowKit

end

section
open Go.RowKit

end
end Go.Proofs.YtgjnbcfencallaaDoor
set_option linter.unusedVariables false
set_option linter.unusedSimpArgs false
namespace Go.Proofs.YtgjnbcfencallaaDoor
section
end

section
open Go.RowKit

end

section
open Go.RowKit

end

section
open Go.RowKit

end

section
open Go.RowKit

theorem ns_zero:ns 0=⟨#[]⟩:=by unfold ns;rw [nb_zero]
end

section
open Go.RowKit

end

section
open Go.RowKit

end

section
open Go.RowKit

theorem SliceAt.grown {w w':World} {v:Value} {size:Nat} {cs:List Value} {row:Option Nat} {B:Nat} (h:SliceAt w v size cs) (hf:FreshV B v) (hr:∀k,row=some k→k<B) (hg:w.grownBy w' row):SliceAt w' v size cs:=by
 obtain ⟨n,cap,h1,h2,h3,h4,h5⟩:=h
 refine ⟨n,cap,h1,h2,h3,h4,?_⟩
 by_cases h0:n=0
 ·rcases h5 with h5|⟨b,off,rfl,h5⟩
  ·exact .inl h5
  ·exact .inl ⟨h0,_,by rw [h0]⟩
 ·rcases h5 with h5|⟨b,off,rfl,h5⟩
  ·exact .inl h5
  ·have hb:=hf _ _ _ rfl (by omega)
   refine .inr ⟨b,off,rfl,fun j hj=>?_⟩
   rw [←h5 j hj]
   refine World.cell?_of_block (hg.block b (World.block_lt_of_cell? w _ (h5 j hj)) (fun e=>?_))
   have:=hr b e.symm
   simp at hb;omega
theorem SliceAt.alloc {w:World} {v:Value} {size:Nat} {cs:List Value} (h:SliceAt w v size cs) (o:Obj):SliceAt (w.alloc o) v size cs:=h.ext ((Below.refl _ w).alloc (Nat.le_refl _) o)
end

section
open Go.RowKit

end

section
open Go.RowKit

end

section
open Go.RowKit

end

section
open Go Go.RowKit

def Acc (w0:World) (f:FuncId) (args:Array Value) (v:Value):Prop :=
 ∀w,Below w0.heap.size w0 w→Calls Tryd.prog f args w fun e w'=>e=.returned v∧Below w0.heap.size w0 w'

theorem Acc.go {w0 w:World} {f:FuncId} {args:Array Value} {v:Value} {Q:Ending→World→Prop} (h:Acc w0 f args v) (hb:Below w0.heap.size w0 w)
  (k:∀w',Below w0.heap.size w0 w'→Q (.returned v) w'):Calls Tryd.prog f args w Q :=
 (h w hb).mono fun _ w' ⟨he,hb'⟩=>he▸k w' hb'

theorem Acc.of {w0:World} {f:FuncId} {args:Array Value} {v:Value} (h:∀w,Calls Tryd.prog f args w fun e w'=>e=.returned v∧Below w.heap.size w w'):Acc w0 f args v :=
 fun w hb=>(h w).mono fun _ _ ⟨he,hb'⟩=>⟨he,hb.trans (hb'.mono hb.size)⟩
theorem Acc.pure {w0:World} {f:FuncId} {args:Array Value} {v:Value} (h:∀w,Calls Tryd.prog f args w fun e w'=>e=.returned v∧w=w'):Acc w0 f args v :=
 fun w hb=>(h w).mono fun _ _ ⟨he,e⟩=>⟨he,e▸hb⟩
theorem Acc.end {f:FuncId} {args:Array Value} {v:Value} {w:World} (h:Acc w f args v):Calls Tryd.prog f args w fun e w'=>e=.returned v∧Below w.heap.size w w':=h w (Below.refl _ _)

def Sz (n k:Nat):Prop:=n<256^k
theorem Sz.str {n k:Nat} (h:Sz n k):(ns n).size≤k:=by rw [ns_size];exact nb_length_lt h
theorem Sz.of (s:ByteArray):Sz (vn s) s.size:=vn_lt s
theorem Sz.le {m n k:Nat} (h:Sz n k) (hm:m≤n):Sz m k:=Nat.lt_of_le_of_lt hm h
theorem Sz.up {n j k:Nat} (h:Sz n j) (hk:j≤k):Sz n k:=Nat.lt_of_lt_of_le h (Nat.pow_le_pow_right (by omega) hk)
theorem Sz.mul {m n j k:Nat} (h:Sz m j) (h':Sz n k):Sz (m*n) (j+k):=by
 unfold Sz;rw [Nat.pow_add];exact Nat.mul_lt_mul'' h h'
theorem Sz.add {m n k:Nat} (h:Sz m k) (h':Sz n k):Sz (m+n) (k+1):=by
 unfold Sz at *;rw [Nat.pow_succ];omega
theorem Sz.pos {n k:Nat} (h:Sz n k):0<256^k:=Nat.lt_of_le_of_lt (Nat.zero_le _) h

theorem vn_nil:vn ⟨#[]⟩=0:=by have:=vn_ns 0;rw [ns_zero] at this;exact this
end
end Go.Proofs.YtgjnbcfencallaaDoor
