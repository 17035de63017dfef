/- Joined: NatP Kit NatA NatB NatC LimbP NatD Rf NatE NatF NatG NatH NatI. Conditions: as said at each part. -/
import GoSem.Core.Value
import Derived.Lib.Strings
import Derived.WalkKit
import Derived.Below
import Derived.WalkSmall
import Derived.Outline
import Derived.Lib.Hide
import Derived.Deep.DeepMust
import Derived.Lib.ConvBytes
import Derived.Laws.BytesArg
import Derived.Laws.AppendOwnNone
import Derived.OneCell
import Derived.Laws.BitsAllLaws
import Derived.Test.YthehegidpamldaaGreatDoorProg
import Derived.RangeFuncNested
import Derived.RangeFuncBound
import Derived.RangeFuncCalls
import Derived.RangeFuncLeaves
import Derived.Shelf.Abstract
import Derived.Shelf.RegionOpen
import Derived.OwnWalkIn
import Derived.TacticsInMore
import Derived.LoopNIn
import Derived.LoopIn
import Derived.Deep.QuietTactic
import Derived.BigQuiet
set_option linter.unusedVariables false
set_option linter.unusedSimpArgs false
namespace Go.Proofs.YthehegidpamldaaGreatDoor
section
def nv (l:List UInt8):Nat:=l.foldl (fun n b=>n*256+b.toNat) 0
def nb (n:Nat):List UInt8:=if n=0 then [] else nb (n/256)++[UInt8.ofNat (n%256)]
termination_by n
decreasing_by omega
def vn (s:ByteArray):Nat:=nv s.data.toList
def ns (n:Nat):ByteArray:=⟨(nb n).toArray⟩

theorem nb_zero:nb 0=[]:=by rw [nb];rfl
theorem nb_pos (n:Nat) (h:n≠0):nb n=nb (n/256)++[UInt8.ofNat (n%256)]:=by rw [nb,if_neg h]
theorem nv_nil:nv []=0:=rfl
theorem nv_snoc (l:List UInt8) (b:UInt8):nv (l++[b])=nv l*256+b.toNat:=by simp [nv,List.foldl_append]
theorem nv_cons_aux (l:List UInt8) (k:Nat):l.foldl (fun n b=>n*256+b.toNat) k=k*256^l.length+nv l:=by
 induction l generalizing k with
 | nil=>simp [nv]
 | cons b l ih =>
  simp only [List.foldl_cons,List.length_cons,nv]
  rw [ih,ih (0*256+b.toNat),Nat.pow_succ]
  simp only [Nat.zero_mul,Nat.zero_add,Nat.add_mul]
  rw [Nat.mul_assoc,Nat.mul_comm 256,Nat.add_assoc]
theorem nv_cons (b:UInt8) (l:List UInt8):nv (b::l)=b.toNat*256^l.length+nv l:=by
 have:=nv_cons_aux l b.toNat
 simpa [nv] using this
theorem nv_append (l m:List UInt8):nv (l++m)=nv l*256^m.length+nv m:=by
 rw [nv,List.foldl_append,nv_cons_aux];rfl
theorem nv_lt (l:List UInt8):nv l<256^l.length:=by
 induction l with
 | nil=>simp [nv]
 | cons b l ih =>
  rw [nv_cons,List.length_cons,Nat.pow_succ]
  have hb:=b.toNat_lt
  have:(b.toNat+1)*256^l.length≤256*256^l.length:=Nat.mul_le_mul_right _ (by omega)
  rw [Nat.add_mul,Nat.one_mul] at this
  rw [Nat.mul_comm (256^l.length)];omega
theorem nv_nb (n:Nat):nv (nb n)=n:=by
 induction n using Nat.strongRecOn with
 | _ n ih =>
  by_cases h:n=0
  ·subst h;rw [nb_zero];rfl
  ·rw [nb_pos n h,nv_snoc,ih (n/256) (by omega)]
   have:(UInt8.ofNat (n%256)).toNat=n%256:=by simp
   rw [this];omega
theorem vn_ns (n:Nat):vn (ns n)=n:=by simp [vn,ns,nv_nb]
theorem nb_inj {a b:Nat} (h:nb a=nb b):a=b:=by rw [←nv_nb a,h,nv_nb]
theorem nb_head (n:Nat) (h:n≠0):∃b l,nb n=b::l∧b≠0:=by
 induction n using Nat.strongRecOn with
 | _ n ih =>
  rw [nb_pos n h]
  by_cases h0:n/256=0
  ·rw [h0,nb_zero]
   refine ⟨_,_,rfl,fun e=>?_⟩
   have:(UInt8.ofNat (n%256)).toNat=0:=by rw [e];rfl
   simp at this;omega
  ·obtain ⟨b,l,e,hb⟩:=ih (n/256) (by omega) h0
   exact ⟨b,l++[UInt8.ofNat (n%256)],by rw [e];rfl,hb⟩
theorem nb_nv_head (b:UInt8) (l:List UInt8) (h:b≠0):nb (nv (b::l))=b::l:=by
 have key:∀(l r:List UInt8),l.length=r.length→nv l=nv r→l=r:=by
  intro l
  induction l with
  | nil=>intro r hr _;exact (List.eq_nil_of_length_eq_zero hr.symm).symm
  | cons x l ih =>
   intro r hr hv
   cases r with
   | nil=>simp at hr
   | cons y r =>
    have hl:l.length=r.length:=by simpa using hr
    rw [nv_cons,nv_cons,hl] at hv
    have h1:=nv_lt l;rw [hl] at h1
    have h2:=nv_lt r
    have hp:0<256^r.length:=Nat.pow_pos (by omega)
    have hxy:x.toNat=y.toNat:=by
     have a1:(x.toNat*256^r.length+nv l)/256^r.length=x.toNat:=by
      rw [Nat.mul_comm,Nat.mul_add_div hp,Nat.div_eq_of_lt h1];simp
     have a2:(y.toNat*256^r.length+nv r)/256^r.length=y.toNat:=by
      rw [Nat.mul_comm,Nat.mul_add_div hp,Nat.div_eq_of_lt h2];simp
     rw [←a1,hv,a2]
    have:x=y:=UInt8.toNat_inj.1 hxy
    subst this
    rw [ih r hl (by omega)]
 have len:∀(m:List UInt8) (n:Nat),(∃c r,m=c::r∧c≠0)→(∃c r,nb n=c::r∧c≠0)→nv m=n→(nb n).length=m.length:=by
  intro m n hm hn e
  obtain ⟨c,r,rfl,hc⟩:=hm
  obtain ⟨d,q,hq,hd⟩:=hn
  have v2:=nv_nb n
  rw [hq] at v2 ⊢
  rw [nv_cons] at v2 e
  have c1:1≤c.toNat:=by
   have:c.toNat≠0:=fun e=>hc (UInt8.toNat_inj.1 (by simpa using e))
   omega
  have d1:1≤d.toNat:=by
   have:d.toNat≠0:=fun e=>hd (UInt8.toNat_inj.1 (by simpa using e))
   omega
  have c2:=c.toNat_lt;have d2:=d.toNat_lt
  have r1:=nv_lt r;have q1:=nv_lt q
  have l1:256^r.length≤n:=by have:=Nat.mul_le_mul_right (256^r.length) c1;omega
  have l2:256^q.length≤n:=by have:=Nat.mul_le_mul_right (256^q.length) d1;omega
  have u1:n<256^(r.length+1):=by
   rw [Nat.pow_succ];have:=Nat.mul_le_mul_right (256^r.length) (show c.toNat+1≤256 by omega);rw [Nat.add_mul] at this;omega
  have u2:n<256^(q.length+1):=by
   rw [Nat.pow_succ];have:=Nat.mul_le_mul_right (256^q.length) (show d.toNat+1≤256 by omega);rw [Nat.add_mul] at this;omega
  have a:r.length<q.length+1:=(Nat.pow_lt_pow_iff_right (by omega:1<256)).1 (by omega)
  have b:q.length<r.length+1:=(Nat.pow_lt_pow_iff_right (by omega:1<256)).1 (by omega)
  simp;omega
 have hne:nv (b::l)≠0:=by
  rw [nv_cons]
  have:b.toNat≠0:=fun e=>h (UInt8.toNat_inj.1 (by simpa using e))
  have:=Nat.mul_le_mul_right (256^l.length) (show 1≤b.toNat by omega)
  have hp:0<256^l.length:=Nat.pow_pos (by omega)
  omega
 exact key _ _ (len _ _ ⟨b,l,rfl,h⟩ (nb_head _ hne) rfl) (nv_nb _)
theorem nv_dropWhile (l:List UInt8):nv (l.dropWhile (·== 0))=nv l:=by
 induction l with
 | nil=>rfl
 | cons b l ih =>
  by_cases h:b=0
  ·subst h;rw [List.dropWhile_cons_of_pos (by simp),ih,nv_cons];simp
  ·rw [List.dropWhile_cons_of_neg (by simpa using h)]
theorem dropWhile_nb (l:List UInt8):l.dropWhile (·== 0)=nb (nv l):=by
 rw [←nv_dropWhile]
 cases h:l.dropWhile (·== 0) with
 | nil=>rw [nv_nil,nb_zero]
 | cons b r =>
  refine (nb_nv_head b r fun e=>?_).symm
  have:=List.head?_dropWhile_not (fun x:UInt8=>x==0) l
  rw [h] at this
  simp [e] at this
theorem nb_length_le (l:List UInt8):(nb (nv l)).length≤l.length:=by
 rw [←dropWhile_nb];exact (List.dropWhile_sublist _).length_le
theorem ns_size_le (s:ByteArray):(ns (vn s)).size≤s.size:=by
 have:=nb_length_le s.data.toList
 rw [Array.length_toList] at this
 exact this
theorem ns_size (n:Nat):(ns n).size=(nb n).length:=List.size_toArray
theorem nb_length_lt {n k:Nat} (h:n<256^k):(nb n).length≤k:=by
 by_cases h0:n=0
 ·subst h0;simp [nb_zero]
 ·obtain ⟨b,l,e,hb⟩:=nb_head n h0
  have v:=nv_nb n
  rw [e,nv_cons] at v
  have b1:1≤b.toNat:=by
   have:b.toNat≠0:=fun e=>hb (UInt8.toNat_inj.1 (by simpa using e))
   omega
  have l1:256^l.length≤n:=by have:=Nat.mul_le_mul_right (256^l.length) b1;omega
  rw [e]
  have:=(Nat.pow_lt_pow_iff_right (by omega:1<256)).1 (Nat.lt_of_le_of_lt l1 h)
  simp;omega
theorem lt_pow_nb (n:Nat):n<256^(nb n).length:=by
 have:=nv_lt (nb n);rwa [nv_nb] at this
theorem nb_mono {a b:Nat} (h:a≤b):(nb a).length≤(nb b).length:=nb_length_lt (Nat.lt_of_le_of_lt h (lt_pow_nb b))
theorem vn_lt (s:ByteArray):vn s<256^s.size:=by have:=nv_lt s.data.toList;rw [Array.length_toList] at this;exact this
theorem bytes_size (t:ByteArray):t.data.toList.length=t.size:=Array.length_toList
theorem bytes_ext {s t:ByteArray} (h:s.data.toList=t.data.toList):s=t:=ByteArray.ext (Array.toList_inj.1 h)
theorem bytes_get (t:ByteArray) (i:Nat) (h:i<t.size):t[i]=t.data.toList[i]'(by rw [bytes_size];exact h):=by
 show t.data[i]=_
 rw [Array.getElem_toList]
theorem bytes_cons (t:ByteArray) (h:0<t.size):t.data.toList=t[0]::(t.extract 1 t.size).data.toList:=by
 have e:(t.extract 1 t.size).data.toList=t.data.toList.drop 1:=by
  rw [ByteArray.data_extract,Array.toList_extract,List.extract_eq_take_drop,List.take_of_length_le]
  rw [List.length_drop,bytes_size];exact Nat.le_refl _
 rw [e,bytes_get t 0 h]
 exact (List.getElem_cons_drop (i:=0) (h:=by rw [bytes_size];exact h)).symm
theorem ns_toList (n:Nat):(ns n).data.toList=nb n:=rfl
theorem vn_tail (t:ByteArray) (h:0<t.size) (h0:t[0].toNat=0):vn (t.extract 1 t.size)=vn t:=by
 unfold vn
 rw [bytes_cons t h,nv_cons,h0];simp
theorem size_tail (t:ByteArray):(t.extract 1 t.size).size=t.size-1:=by rw [ByteArray.size_extract];omega
theorem ns_of_empty (t:ByteArray) (h:t.size=0):t=ns (vn t):=by
 refine bytes_ext ?_
 have hl:=bytes_size t
 have e:t.data.toList=[]:=List.eq_nil_of_length_eq_zero (by omega)
 rw [ns_toList,vn,e,nv_nil,nb_zero]
theorem ns_of_head (t:ByteArray) (h:0<t.size) (h0:t[0].toNat≠0):t=ns (vn t):=by
 refine bytes_ext ?_
 rw [ns_toList,vn,bytes_cons t h]
 exact (nb_nv_head _ _ fun e=>h0 (by rw [e];rfl)).symm
theorem toList_bytes (s:ByteArray):s.toList=s.data.toList:=ByteArray.toList_eq s
theorem toList_nil (s:ByteArray) (h:s.size=0):s.toList=[]:=by rw [toList_bytes];exact List.eq_nil_of_length_eq_zero (by rw [bytes_size];exact h)
theorem toList_ne (s:ByteArray) (h:s.size≠0):¬s.toList=[]:=by rw [toList_bytes];intro e;have:=bytes_size s;rw [e] at this;exact h this.symm
theorem isEmpty_false (s:ByteArray) (h:s.size≠0):s.toList.isEmpty=false:=by have:=toList_ne s h;cases e:s.toList with|nil=>exact absurd e this|cons b l=>rfl
def strLen:Value→Nat|.string t=>t.size|_=>0
end

section
open Go.RowKit

theorem ret_str {a b:ByteArray} (h:a=b):Ending.returned (.string a)=.returned (.string b):=by rw [h]
theorem ret_bool {a b:Bool} (h:a=b):Ending.returned (.bool a)=.returned (.bool b):=by rw [h]
theorem ret_int {k:IntKind} {a b:Int} (h:a=b):Ending.returned (.int k a)=.returned (.int k b):=by rw [h]
theorem int_val {k:IntKind} {a b:Int} (h:a=b):Value.int k a=.int k b:=by rw [h]

theorem or_shift (m b i:Nat) (hb:b<2^i):m*2^i|||b=m*2^i+b:=by
 rw [←Nat.shiftLeft_eq,Nat.shiftLeft_add_eq_or_of_lt hb]
theorem u64_or8 (m b:Nat) (hb:b<256) (hm:m<72057594037927936):bits .or .u64 ((m:Int)*256) (b:Int)=((m*256+b:Nat):Int):=by
 have h:=u64_or_nat (m*256) b (by omega) (by omega)
 rw [or_shift m b 8 hb] at h
 have e:(m:Int)*256=((m*256:Nat):Int):=by rw [Int.natCast_mul];rfl
 rw [e,h]
theorem u32_or8 (m b:Nat) (hb:b<256) (hm:m<16777216):bits .or .u32 ((m:Int)*256) (b:Int)=((m*256+b:Nat):Int):=by
 have h:=u32_or_nat (m*256) b (by omega) (by omega)
 rw [or_shift m b 8 hb] at h
 have e:(m:Int)*256=((m*256:Nat):Int):=by rw [Int.natCast_mul];rfl
 rw [e,h]

def Blk (w:World) (b:Nat) (e:TypeId) (cs:List Value):Prop:=w.heap[b]?=some (.cells cs.toArray e (0,0))

section
variable {w w' : World} {b : Nat} {e : TypeId} {cs : List Value}
theorem Blk.lt (h:Blk w b e cs):b<w.heap.size:=(Array.getElem?_eq_some_iff.1 h).1
theorem Blk.cell? (h:Blk w b e cs) (i:Nat):w.cell? ⟨b,i,none⟩=cs[i]?:=by
 unfold World.cell?
 rw [show w.heap[(⟨b,i,none⟩:Addr).block]?=some (.cells cs.toArray e (0,0)) from h]
 simp
theorem Blk.cell (h:Blk w b e cs) (i:Nat) (hi:i<cs.length):w.cell? ⟨b,i,none⟩=some cs[i]:=by rw [h.cell?,List.getElem?_eq_getElem hi]
theorem Blk.frozen (h:Blk w b e cs) (i:Nat):w.frozen? ⟨b,i,none⟩=false:=by
 unfold World.frozen?
 rw [show w.heap[(⟨b,i,none⟩:Addr).block]?=some (.cells cs.toArray e (0,0)) from h]
 simp
theorem Blk.set (h:Blk w b e cs) (i:Nat) (u:Value):Blk (w.setCell ⟨b,i,none⟩ u) b e (cs.set i u):=by
 unfold Blk at h ⊢
 simp only [World.setCell,Array.getElem?_modify,if_true]
 rw [h]
 simp
theorem Blk.of_block (h:Blk w b e cs) (hb:w'.heap[b]?=w.heap[b]?):Blk w' b e cs:=by unfold Blk at *;rw [hb];exact h
theorem Blk.setOther (h:Blk w b e cs) {a:Addr} (ha:a.block≠b) (u:Value):Blk (w.setCell a u) b e cs:=h.of_block (Below.heap_setCell w a u b (Ne.symm ha))
theorem Blk.alloc (h:Blk w b e cs) (o:Obj):Blk (w.alloc o) b e cs:=h.of_block (Below.heap_alloc w o b h.lt)
theorem Blk.drew (h:Blk w b e cs):Blk w.drew b e cs:=h
theorem Blk.below {B:Nat} (h:Blk w b e cs) (hb:Below B w w') (hB:b<B):Blk w' b e cs:=h.of_block (hb.block b hB)
theorem Blk.ext (h:Blk w b e cs) (hb:Below w.heap.size w w'):Blk w' b e cs:=h.below hb h.lt
theorem Blk.grown {row:Option Nat} (h:Blk w b e cs) (hg:w.grownBy w' row) (hr:some b≠row):Blk w' b e cs:=h.of_block (hg.block b h.lt hr)
theorem Blk.new (w:World) (e:TypeId) (cs:List Value):Blk (w.alloc (.cells cs.toArray e)) w.heap.size e cs:=by
 unfold Blk;show (w.heap.push _)[w.heap.size]?=_;simp
theorem Blk.newA (w:World) (e:TypeId) (a:Array Value):Blk (w.alloc (.cells a e)) w.heap.size e a.toList:=by
 unfold Blk;show (w.heap.push _)[w.heap.size]?=_;simp
end

def SliceAt (w:World) (v:Value) (size:Nat) (cs:List Value):Prop :=
 ∃n cap,n≤maxLen∧n≤cap∧cap≤maxLen∧cs.length=n*size∧((n=0∧∃a,v=.slice a 0 cap)∨∃b off,v=.slice (some ⟨b,off,none⟩) n cap∧∀j (h:j<cs.length),w.cell? ⟨b,off+j,none⟩=some cs[j])

theorem SliceAt.nil (w:World) (size:Nat):SliceAt w (.slice none 0 0) size []:=⟨0,0,by simp [maxLen],Nat.le_refl _,by simp [maxLen],by simp,.inl ⟨rfl,none,rfl⟩⟩
theorem SliceAt.of_cells {w w':World} {v:Value} {size:Nat} {cs:List Value} (h:SliceAt w v size cs) (hc:∀a,w.cell? a≠none→w'.cell? a=w.cell? a):SliceAt w' v size cs:=by
 obtain ⟨n,cap,h1,h2,h3,h4,h5⟩:=h
 refine ⟨n,cap,h1,h2,h3,h4,?_⟩
 rcases h5 with h5|⟨b,off,rfl,h5⟩
 ·exact .inl h5
 ·exact .inr ⟨b,off,rfl,fun j hj=>by rw [hc _ (by rw [h5 j hj];simp)];exact h5 j hj⟩
theorem ext_cell {w w':World} (hb:Below w.heap.size w w') (a:Addr) (h:w.cell? a≠none):w'.cell? a=w.cell? a:=by
 cases hv:w.cell? a with
 | none=>exact absurd hv h
 | some v=>rw [←hv];exact hb.cell (World.block_lt_of_cell? w a hv)
theorem SliceAt.ext {w w':World} {v:Value} {size:Nat} {cs:List Value} (h:SliceAt w v size cs) (hb:Below w.heap.size w w'):SliceAt w' v size cs:=h.of_cells (ext_cell hb)
theorem SliceAt.owned {w:World} {base:Nat} {e:TypeId} {size n:Nat} {v:Value} {cs:List Value} (h:w.ownsRow base e size v n cs):SliceAt w v size cs:=by
 obtain ⟨hl,h⟩:=h
 rcases h with ⟨rfl,rfl⟩|⟨g,cap,cur,rfl,_,hg,hn,hm,hs,ht⟩
 ·exact ⟨0,0,by simp [maxLen],Nat.le_refl _,by simp [maxLen],hl,.inl ⟨rfl,none,rfl⟩⟩
 ·refine ⟨n,cap,Nat.le_trans hn hm,hn,hm,hl,.inr ⟨g,0,rfl,fun j hj=>?_⟩⟩
  have hj':(cur.toList.take (n*size))[j]?=some cs[j]:=by rw [ht];exact List.getElem?_eq_getElem hj
  rw [List.getElem?_take] at hj'
  unfold World.cell?
  rw [show w.heap[(⟨g,0+j,none⟩:Addr).block]?=some (.cells cur e (0,0)) from hg]
  split at hj'
  ·simpa using hj'
  ·cases hj'

def FreshV (B:Nat) (v:Value):Prop:=∀a n c,v=.slice (some a) n c→0<n→B≤a.block
theorem FreshV.mono {B B':Nat} {v:Value} (h:FreshV B v) (hB:B'≤B):FreshV B' v:=fun a n c e h0=>Nat.le_trans hB (h a n c e h0)
theorem FreshV.nil (B:Nat):FreshV B (.slice none 0 0):=fun a n c e h0=>by cases e
theorem FreshV.owned {w:World} {base:Nat} {e:TypeId} {size n:Nat} {v:Value} {cs:List Value} (h:w.ownsRow base e size v n cs):FreshV base v:=fun a m c hv h0=>by
 rcases h.2 with ⟨rfl,_⟩|⟨g,cap,cur,rfl,hb,_⟩
 ·cases hv
 ·cases hv;exact hb
theorem FreshV.at {B b off n c:Nat} (h:B≤b):FreshV B (.slice (some ⟨b,off,none⟩) n c):=fun a m c' e _=>by cases e;exact h
theorem SliceAt.setOther {w:World} {v:Value} {size:Nat} {cs:List Value} (h:SliceAt w v size cs) {B:Nat} (hf:FreshV B v) {a:Addr} (ha:a.block<B) (u:Value):SliceAt (w.setCell a u) v size cs:=by
 obtain ⟨n,cap,h1,h2,h3,h4,h5⟩:=h
 refine ⟨n,cap,h1,h2,h3,h4,?_⟩
 by_cases h0:n=0
 ·rcases h5 with h5|⟨b,off,rfl,h5⟩
  ·exact .inl h5
  ·exact .inl ⟨h0,_,by rw [h0]⟩
 ·rcases h5 with h5|⟨b,off,rfl,h5⟩
  ·exact .inl h5
  ·have hb:=hf _ _ _ rfl (by omega)
   exact .inr ⟨b,off,rfl,fun j hj=>by rw [World.cell?_of_block (Below.heap_setCell w a u b (by simp at hb;omega))];exact h5 j hj⟩
def sliceLen:Value→Nat|.slice _ n _=>n|_=>0
theorem SliceAt.len {w:World} {v:Value} {size:Nat} {cs:List Value} (h:SliceAt w v size cs):sliceLen v*size=cs.length:=by
 obtain ⟨n,cap,_,_,_,hl,h⟩:=h
 rcases h with ⟨rfl,a,rfl⟩|⟨b,off,rfl,_⟩
 ·rw [hl];rfl
 ·exact hl.symm
theorem SliceAt.open1 {α:Type} [Inhabited α] {w:World} {v:Value} {l:List α} {f:α→Value} (h:SliceAt w v 1 (l.map f)) :
  ∃a cap,v=.slice a l.length cap∧l.length≤cap∧cap≤maxLen∧∀i,i<l.length→∃b off,a=some ⟨b,off,none⟩∧w.cell? ⟨b,off+i,none⟩=some (f (l.getD i default)):=by
 obtain ⟨n,cap,hm,hnc,hcm,hn,h⟩:=h
 have hl:l.length=n:=by simpa using hn
 subst hl
 rcases h with ⟨h0,a,rfl⟩|⟨b,off,rfl,hc⟩
 ·exact ⟨a,cap,by rw [h0],hnc,hcm,fun i hi=>by omega⟩
 ·refine ⟨_,cap,rfl,hnc,hcm,fun i hi=>⟨b,off,rfl,?_⟩⟩
  rw [hc i (by simpa using hi)]
  simp [List.getD_eq_getElem?_getD,List.getElem?_eq_getElem hi]

theorem grown_set {w w':World} {b:Nat} (h:w.grownBy w' (some b)) (i:Nat) (u:Value):w.grownBy (w'.setCell ⟨b,i,none⟩ u) (some b) :=
 ⟨h.os,h.tape,h.output,by have:=h.size;simpa [World.setCell] using this,fun k hk hne=>(Below.heap_setCell _ _ _ _ (fun e=>hne (by rw [e]))).trans (h.block k hk hne)⟩
theorem grown_drew {w w':World} {r:Option Nat} (h:w.grownBy w' r):w.grownBy w'.drew r:=⟨h.os,h.tape,h.output,h.size,h.block⟩
theorem grown_refl (w:World) (r:Option Nat):w.grownBy w r:=⟨rfl,rfl,rfl,Nat.le_refl _,fun _ _ _=>rfl⟩

section
variable {P : Program}
theorem sl_win {w:World} {a:Option Addr} {n cap:Nat} {cs:List Value} {size:Nat} (hm:n≤maxLen) (hnc:n≤cap) (hcm:cap≤maxLen) (hl:cs.length=n*size)
  (hc:n=0∨∃b off,a=some ⟨b,off,none⟩∧∀j (h:j<cs.length),w.cell? ⟨b,off+j,none⟩=some cs[j]) (lo hi:Nat) (h1:lo≤hi) (h2:hi≤n) :
  SliceAt w (sliced a lo hi cap size) size ((cs.drop (lo*size)).take ((hi-lo)*size)):=by
 have hlen:((cs.drop (lo*size)).take ((hi-lo)*size)).length=(hi-lo)*size:=by
  rw [List.length_take,List.length_drop,hl]
  have:(hi-lo)*size≤n*size-lo*size:=by rw [←Nat.sub_mul];exact Nat.mul_le_mul_right _ (by omega)
  omega
 refine ⟨hi-lo,cap-lo,by omega,by omega,by omega,hlen,?_⟩
 unfold sliced
 by_cases h0:hi-lo=0
 ·left;exact ⟨h0,_,by rw [h0]⟩
 ·right
  rcases hc with hc|⟨b,off,rfl,hc⟩
  ·omega
  ·rw [if_neg (by omega)]
   refine ⟨b,off+lo*size,?_,fun j hj=>?_⟩
   ·simp only [Option.map_some,Addr.add]
    split
    ·simp_all
    ·rfl
   ·rw [hlen] at hj
    have hb:lo*size+j<cs.length:=by
     rw [hl]
     have:=Nat.mul_le_mul_right size h2
     have e:(hi-lo)*size=hi*size-lo*size:=Nat.sub_mul _ _ _
     omega
    rw [Nat.add_assoc,hc _ hb]
    simp

theorem fresh_sliced {B:Nat} {a:Option Addr} {m cap lo hi size:Nat} (hf:FreshV B (.slice a m cap)) (hm:hi≤m):FreshV B (sliced a lo hi cap size):=by
 intro ad n c e h0
 unfold sliced at e
 cases a with
 | none=>simp at e
 | some a =>
  injection e with e1 e2 e3
  have:ad.block=a.block:=by
   split at e1
   ·injection e1 with e1;rw [e1]
   ·simp at e1;rw [←e1];unfold Addr.add;split<;>rfl
  rw [this]
  exact hf a m cap rfl (by omega)

variable {t e size : Nat}
theorem slice_h {w:World} {v:Value} {cs:List Value} {n:Nat} (ht:P.underlying t=some (.slice e)) (hz:∀w,(Go.sizeOf e).run P w=.ok size w) (h:SliceAt w v size cs) (hn:cs.length=n*size) (hs:0<size) (hi:Nat) (h2:hi≤n) :
  ∃v',(∀w1,(Instr.slice t v none (some (.int .i64 hi)) none).run P w1=.ok v' w1)∧SliceAt w v' size (cs.take (hi*size))∧∀B,FreshV B v→FreshV B v':=by
 obtain ⟨m,cap,hm,hnc,hcm,hl,h⟩:=h
 obtain rfl:m=n:=Nat.eq_of_mul_eq_mul_right hs (by omega)
 have he:P.elem t=e:=by simp [Program.elem,ht]
 have ht':P.underlying t=some (.slice (P.elem t)):=by rw [he];exact ht
 have key:∃a,v=.slice a m cap∧(m=0∨∃b off,a=some ⟨b,off,none⟩∧∀j (h:j<cs.length),w.cell? ⟨b,off+j,none⟩=some cs[j]):=by
  rcases h with ⟨h0,a,rfl⟩|⟨b,off,rfl,hc⟩
  ·exact ⟨a,by rw [h0],.inl h0⟩
  ·exact ⟨_,rfl,.inr ⟨b,off,rfl,hc⟩⟩
 obtain ⟨a,rfl,hc⟩:=key
 have hw:=sl_win hm hnc hcm hl hc 0 hi (Nat.zero_le _) h2
 simp only [Nat.zero_mul,List.drop_zero,Nat.sub_zero] at hw
 refine ⟨_,fun w1=>?_,hw,fun B hf=>fresh_sliced hf (by omega)⟩
 rw [run_slice_h w1 t a m cap ht' .i64 hi (by omega) (by omega),he,hz]
 rfl
theorem slice_arr_l {w:World} {b ty n:Nat} {cs:List Value} (ht:P.underlying t=some (.array n e)) (hz:∀w,(Go.sizeOf e).run P w=.ok size w) (hblk:Blk w b ty cs) (hn:cs.length=n*size) (hm:n≤maxLen) (lo:Nat) (h1:lo≤n) :
  ∃v',(∀w1,(Instr.sliceAt t (.pointer (some ⟨b,0,none⟩)) (some (.int .i64 lo)) none none).run P w1=.ok v' w1)∧SliceAt w v' size (cs.drop (lo*size)):=by
 have he:P.elem t=e:=by simp [Program.elem,ht]
 have hal:P.arrayLen t=n:=by simp [Program.arrayLen,ht]
 have ht':P.underlying t=some (.array (P.arrayLen t) (P.elem t)):=by rw [he,hal];exact ht
 have hw:=sl_win (w:=w) (a:=some ⟨b,0,none⟩) (n:=n) (cap:=n) (cs:=cs) (size:=size) hm (Nat.le_refl _) hm hn (.inr ⟨b,0,rfl,fun j hj=>by rw [Nat.zero_add];exact hblk.cell j hj⟩) lo n h1 (Nat.le_refl _)
 rw [List.take_of_length_le (by rw [List.length_drop,hn,Nat.sub_mul];omega)] at hw
 refine ⟨_,fun w1=>?_,hw⟩
 rw [run_sliceAt_array_l w1 t ⟨b,0,none⟩ ht' .i64 lo (by omega) (by omega),he,hal,hz]
 simp only [Result.andThen,slicedAt,sliced,Int.toNat_natCast]
 split<;>simp_all
end

section
variable {P : Program}
theorem str_lh {t:TypeId} (ht:P.underlying t=some .string) (s:ByteArray) (lo hi:Nat) (h1:lo≤hi) (h2:hi≤s.size) (w1:World) :
  (Instr.slice t (.string s) (some (.int .i64 lo)) (some (.int .i64 hi)) none).run P w1=.ok (.string (s.extract lo hi)) w1:=by
 rw [run_slice_string w1 t s .i64 .i64 _ _ ht (by omega) (by omega) (by omega)]
 simp
end

structure ElemT (P : Program) (t e size bytes : Nat) (z : Value) : Prop where
  ht : P.underlying t = some (.slice e)
  hi : ∃ i, P.info? e = some i ∧ i.zero = some z ∧ i.size = size ∧ i.bytes = bytes
  hzs : z.cells.size = size
  hsz : 0 < size
theorem ElemT.mk' {P:Program} {t e size bytes:Nat} {z:Value} (ht:P.underlying t=some (.slice e)) (hi:(P.info? e).map (fun i=>(i.zero,i.size,i.bytes))=some (some z,size,bytes)) (hzs:z.cells.size=size) (hsz:0<size):ElemT P t e size bytes z:=by
 refine ⟨ht,?_,hzs,hsz⟩
 cases h:P.info? e with
 | none=>rw [h] at hi;simp at hi
 | some i=>rw [h] at hi;simp at hi;exact ⟨i,rfl,hi.1,hi.2.1,hi.2.2⟩
theorem ElemT.sz {P:Program} {t e size bytes:Nat} {z:Value} (E:ElemT P t e size bytes z):∀w,(Go.sizeOf e).run P w=.ok size w:=by
 obtain ⟨i,hi,_,hs,_⟩:=E.hi
 intro w
 simp [Go.sizeOf,typeInfo,hi,hs]
theorem SliceAt.lit (w:World) (e:TypeId) (n:Nat) (size:Nat) (a:Array Value) (hn:a.size=n*size) (hm:n≤maxLen):SliceAt (w.alloc (.cells a e)) (.slice (some ⟨w.heap.size,0,none⟩) n n) size a.toList :=
 ⟨n,n,hm,Nat.le_refl _,hm,by simpa using hn,.inr ⟨_,0,rfl,fun j hj=>by rw [Nat.zero_add];exact (Blk.newA w e a).cell j hj⟩⟩

theorem le_alloc {n:Nat} {w:World} (h:n≤w.heap.size) (o:Obj):n≤(w.alloc o).heap.size:=Nat.le_trans h (by simp)
theorem owns_shape {w:World} {base:Nat} {e:TypeId} {size n:Nat} {v:Value} {xs:List Value} (h:w.ownsRow base e size v n xs):∃a c,v=.slice a n c:=by
 rcases h.2 with ⟨rfl,rfl⟩|⟨g,cap,cur,rfl,_⟩
 ·exact ⟨_,_,rfl⟩
 ·exact ⟨_,_,rfl⟩
theorem one_int (k:IntKind) (n:Int):∀u∈[Value.int k n],u.oneCell'=true:=by simp [Value.oneCell']
theorem run_app {P:Program} {w:World} (t ty:TypeId) (base:Nat) {e size bytes:Nat} {z:Value} (E:ElemT P t e size bytes z)
  (v:Value) (n:Nat) (xs:List Value) (hown:w.ownsRow base e size v n xs) (y:Value) (m:Nat) (news:List Value) (hx:SliceAt w y size news) (hl:news.length=m*size) (h1:∀u∈news,u.oneCell'=true)
  (hbytes:(n+m)*bytes≤140737488355328) (hb0:0<bytes) (hbase:base≤w.heap.size) :
  ∃v' w',(Builtin.append_ #[t,t] ty #[v,y]).run P w=.ok v' w'∧w'.ownsRow base e size v' (n+m) (xs++news)∧w.grownBy w' v.ownBlock:=by
 obtain ⟨i,hi,hz,hsz,hby⟩:=E.hi
 have hnm:n+m≤maxLen:=by
  have:=Nat.le_mul_of_pos_right (n+m) hb0
  unfold maxLen;omega
 obtain ⟨k,cap,_,_,_,hk,hc⟩:=hx
 obtain rfl:k=m:=Nat.eq_of_mul_eq_mul_right E.hsz (by omega)
 have key:∀ad,y=.slice (some ad) k cap→(∀j u,news[j]?=some u→w.cell? (ad.add j)=some u)→∃v' w',(Builtin.append_ #[t,t] ty #[v,y]).run P w=.ok v' w'∧w'.ownsRow base e size v' (n+k) (xs++news)∧w.grownBy w' v.ownBlock:=fun ad hya hnews=>by
  obtain ⟨v',w',a0,a1,a2,_⟩:=run_append_own (P:=P) w base t ty e i z size bytes E.ht hi hz hsz hby E.hzs E.hsz v n xs hown ad k cap news hl hnews h1 hnm hbytes hbase
  exact ⟨v',w',by rw [hya];exact a0,a1,a2⟩
 rcases hc with ⟨rfl,ad,rfl⟩|⟨b,off,rfl,hc⟩
 ·have hnil:news=[]:=List.eq_nil_of_length_eq_zero (by simpa using hl)
  subst hnil
  cases ad with
  | some ad=>exact key ad rfl (fun j u hj=>by simp at hj)
  | none =>
   refine ⟨v,w,?_,by simpa using hown,⟨rfl,rfl,rfl,Nat.le_refl _,fun _ _ _=>rfl⟩⟩
   rcases hown.2 with ⟨rfl,rfl⟩|⟨g,cp,cur,rfl,_,_,hcp,_⟩
   ·simp [Builtin.append_,run_underlying E.ht,sizeOf,typeInfo,hi,Builtin.lenOf,Builtin.firstCells]
   ·simp [Builtin.append_,run_underlying E.ht,sizeOf,typeInfo,hi,Builtin.lenOf,Builtin.firstCells,hcp,storeCells]
 ·refine key ⟨b,off,none⟩ rfl fun j u hj=>?_
  have hadd:(⟨b,off,none⟩:Addr).add j=⟨b,off+j,none⟩:=by unfold Addr.add;split<;>simp_all
  have hjl:j<news.length:=by
   rcases Nat.lt_or_ge j news.length with h|h
   ·exact h
   ·rw [List.getElem?_eq_none h] at hj;cases hj
  rw [hadd,hc j hjl,←hj,List.getElem?_eq_getElem hjl]
theorem wpList_app {P:Program} {w:World} {ops:Array Oper} {rest:List Oper} {o:Oper} {a:Act} {Q:Exit→Act→World→Prop} (hgd:o.guard=none) (s x:Operand) (t:TypeId)
  (ho:o.op=.call { callee:=.builtin .append,args:=#[s,x],argTypes:=#[t,t] }) (base:Nat) {e size bytes:Nat} {z:Value} (E:ElemT P t e size bytes z)
  (v:Value) (n:Nat) (xs:List Value) (hs:a.eval s=v) (hown:w.ownsRow base e size v n xs) (y:Value) (hy:a.eval x=y) (m:Nat) (news:List Value) (hx:SliceAt w y size news) (hl:news.length=m*size) (h1:∀u∈news,u.oneCell'=true)
  (hbytes:(n+m)*bytes≤140737488355328) (hb0:0<bytes) (hbase:base≤w.heap.size)
  (h:∀v' w',w'.ownsRow base e size v' (n+m) (xs++news)→w.grownBy w' v.ownBlock→wpList P ops Q rest (a.put o.dst v') w'):wpList P ops Q (o::rest) a w:=by
 obtain ⟨v',w',hrun,r1,r2⟩:=run_app t o.type base E v n xs hown y m news hx hl h1 hbytes hb0 hbase
 refine wpList_plain hgd fun K hK=>?_
 unfold Oper.wp
 simp [execOp,ho,resolve,invoke,builtin,hs,hy,hrun,Result.andThen]
 exact hK _ _ (h v' w' r1 r2)

theorem make_full {P:Program} {t e size bytes:Nat} {z:Value} (E:ElemT P t e size bytes z) (w:World) (kl kc:IntKind) (n:Nat) (hbytes:bytes*n≤281474976710656) (hb0:0<bytes) :
  ∃w',(Instr.makeSlice t (.int kl (n:Int)) (.int kc (n:Int))).run P w=.ok (.slice (some ⟨w.heap.size,0,none⟩) n n) w'∧w'=w.alloc (.cells (madeCells z.cells (n*size)) e):=by
 obtain ⟨i,hi,hz,hsz,hby⟩:=E.hi
 subst hsz;subst hby
 have hn:n≤i.bytes*n:=Nat.le_mul_of_pos_left n hb0
 have hb':(i.bytes:Int)*(n:Int)≤281474976710656:=by
  have h:((i.bytes*n:Nat):Int)≤281474976710656:=by omega
  rwa [Int.natCast_mul] at h
 have hr:=run_make (P:=P) w t e i z E.ht hi hz kl kc n n (by omega) (Int.le_refl _) hb' (by omega)
 simp only [Int.toNat_natCast] at hr
 exact ⟨_,hr,rfl⟩

theorem make_cap {P:Program} {t e size bytes:Nat} {z:Value} (E:ElemT P t e size bytes z) (w:World) (kl kc:IntKind) (n:Nat) (hbytes:bytes*n≤281474976710656) (hb0:0<bytes) :
  (Instr.makeSlice t (.int kl 0) (.int kc (n:Int))).run P w=.ok (.slice (some ⟨w.heap.size,0,none⟩) 0 n) (w.alloc (.cells (madeCells z.cells (n*size)) e)):=by
 obtain ⟨i,hi,hz,hsz,hby⟩:=E.hi
 subst hsz;subst hby
 have hn:n≤i.bytes*n:=Nat.le_mul_of_pos_left n hb0
 have hb':(i.bytes:Int)*(n:Int)≤281474976710656:=by
  have h:((i.bytes*n:Nat):Int)≤281474976710656:=by omega
  rwa [Int.natCast_mul] at h
 have hr:=run_make (P:=P) w t e i z E.ht hi hz kl kc 0 n (by omega) (by omega) hb' (by omega)
 simp only [Int.toNat_natCast] at hr
 exact hr

def byteVals (l:List UInt8):List Value:=l.map fun b=>Value.int .u8 b.toNat
section
variable {P : Program}
theorem conv_bytes {w:World} {v:Value} {l:List UInt8} (h:SliceAt w v 1 (byteVals l)) (src e dst:TypeId) (hs:P.underlying src=some (.slice e)) (he:P.underlying e=some (.int .u8)) (hd:P.underlying dst=some .string) :
  (convert src dst v).run P w=.ok (.string ⟨l.toArray⟩) w:=by
 obtain ⟨n,cap,hm,hnc,hcm,hn,h⟩:=h
 have hl:l.length=n:=by simpa [byteVals] using hn
 subst hl
 have hz:strOfNums (l.map fun b=>(b.toNat:Int))=⟨l.toArray⟩:=by
  unfold strOfNums
  rw [List.map_map]
  congr 2
  conv=>rhs;rw [←List.map_id l]
  apply List.map_congr_left;intro x _;simp
 rcases h with ⟨h0,a,rfl⟩|⟨b,off,rfl,hc⟩
 ·have:l=[]:=List.eq_nil_of_length_eq_zero h0
  subst this
  cases a with
  | none=>rw [run_convert_bytes_nil w src e hs he 0 cap dst hd];rfl
  | some a=>rw [run_convert_bytes_string w src dst e _ 0 cap hs he hd,run_bytesToString w _ 0 cap [] (by simpa using run_loadCells_list (P:=P) w a [] (fun j v hj=>by simp at hj))];rfl
 ·rw [run_convert_bytes_arg w src e hs he b off l.length cap (l.map fun b=>(b.toNat:Int)) (by simp) (fun i hi=>?_) dst hd,hz]
  rw [hc i (by simpa [byteVals] using hi)]
  simp [byteVals,List.getD_eq_getElem?_getD,List.getElem?_eq_getElem hi]
theorem bytesWorld_below (w:World) (e:TypeId) (s:ByteArray):Below w.heap.size w (Lib.bytesWorld w e s) :=
 ⟨rfl,rfl,rfl,by rw [Lib.bytesWorld_size];omega,fun k hk=>Lib.bytesWorld_at_old w e s k hk⟩
theorem conv_string (w:World) (s:ByteArray) (hm:s.size≤maxLen) (src dst e:TypeId) {u:TypeDesc} (hs:P.underlying src=some u) (hd:P.underlying dst=some (.slice e)) (he:P.underlying e=some (.int .u8)) :
  ∃v w',(convert src dst (.string s)).run P w=.ok v w'∧SliceAt w' v 1 (byteVals s.data.toList)∧Below w.heap.size w w':=by
 refine ⟨_,_,Lib.run_convert_string_bytes w src dst e s hs hd he,?_,bytesWorld_below w e s⟩
 refine ⟨s.size,_,hm,grownCap_ge w s.size 0 e,grownCap_le_maxLen w s.size 0 e hm,by simp [byteVals],.inr ⟨_,0,rfl,fun j hj=>?_⟩⟩
 have hj':j<s.size:=by simpa [byteVals] using hj
 rw [Nat.zero_add,Lib.bytesWorld_cell w e s j hj']
 simp [byteVals,List.getD_eq_getElem?_getD,hj']
end
end

section
open Go.RowKit

set_option maxHeartbeats 400000 in
theorem trimLeftByte_any (s:ByteArray) (w:World) (hs:s.size≤maxLen) :
  Calls Tryz.prog 155 #[.string s,.int .u8 0] w fun e w'=>e=.returned (.string (ns (vn s)))∧w=w':=by
 unfold maxLen at hs
 go_enter Tryz.func155,Tryz.ntmps155
 go_wp2
 go_loop [0] (fun v=>∃t:ByteArray,v=.string t∧t.size≤9223372036854775807∧vn t=vn s) strLen
 case atStart=>exact ⟨s,rfl,hs,rfl⟩
 case round =>
  obtain ⟨t,rfl,ht,hv⟩:=hrel
  have HV:=Lib.hid hv;clear hv
  by_cases h0:0<t.size
  ·go_wp2
   ·have h1:(↑t[0].toNat==(0:Int))=true:=by assumption
    refine ⟨⟨_,rfl,?_,?_⟩,?_⟩
    ·rw [size_tail];omega
    ·rw [vn_tail t h0 (by simpa using h1),HV.out]
    ·simp only [strLen,size_tail];omega
   ·have h1:(↑t[0].toNat==(0:Int))=false:=by assumption
    go_ret
    exact ⟨ret_str (by rw [←HV.out];exact ns_of_head t h0 (by simpa using h1)),rfl⟩
  ·go_wp2
   go_ret
   exact ⟨ret_str (by rw [←HV.out];exact ns_of_empty t (by omega)),rfl⟩

set_option maxRecDepth 100000 in
set_option maxHeartbeats 400000 in
theorem trimLeft_any (s:ByteArray) (w:World) (hs:s.size≤maxLen) :
  Calls Tryz.prog 148 #[.string s,.string ⟨#[0]⟩] w fun e w'=>e=.returned (.string (ns (vn s)))∧w=w':=by
 unfold maxLen at hs
 by_cases h0:s.size=0
 ·have e:=ns_of_empty s h0
  have h1:=toList_nil s h0
  have HE:=Lib.hid e;clear e
  go_enter Tryz.func148,Tryz.ntmps148
  go_wp2_with fail
  go_ret
  exact ⟨ret_str HE.out,rfl⟩
 ·have h1:=toList_ne s h0
  have h2:=isEmpty_false s h0
  go_enter Tryz.func148,Tryz.ntmps148
  go_wp2_with (go_at_call 155;refine (trimLeftByte_any _ _ (by unfold maxLen;omega)).mono ?_;rintro e w' ⟨rfl,rfl⟩)
  go_ret
  exact ⟨rfl,rfl⟩

set_option maxHeartbeats 400000 in
theorem trim_any (s:ByteArray) (w:World) (hs:s.size≤maxLen) :
  Calls Tryz.prog 123 #[.string s] w fun e w'=>e=.returned (.string (ns (vn s)))∧w=w':=by
 go_enter Tryz.func123,Tryz.ntmps123
 go_wp2_with (go_at_call 148;refine (trimLeft_any _ _ hs).mono ?_;rintro e w' ⟨rfl,rfl⟩)
 go_ret
 exact ⟨rfl,rfl⟩
end

section
open Go.RowKit

set_option maxRecDepth 100000 in
set_option maxHeartbeats 400000 in
theorem small_any (n : Nat) (w : World) (hn : n < 18446744073709551616) :
    Calls Tryz.prog 128 #[.int .u64 n] w fun e w' => e = .returned (.string (ns n)) ∧ Below w.heap.size w w' := by
  have hl8 := nb_length_lt (n := n) (k := 8) (by omega)
  have HN := Lib.hid hn; clear hn
  go_enter Tryz.func128, Tryz.ntmps128
  go_wp2
  go_loopw [0, 4] (fun m at_ wr => ∃ (k p : Nat) (cs : List Value) (t : List UInt8), m = .int .u64 k ∧ k ≤ 18446744073709551615 ∧ p + t.length = 8 ∧ at_ = .int .i64 p ∧ nb n = nb k ++ t ∧
     Blk wr w.heap.size 178 cs ∧ cs.length = 8 ∧ cs.drop p = byteVals t ∧ Below w.heap.size w wr) (fun m _ _ => (intOf m).toNat)
  case atStart => exact ⟨n, 8, List.replicate 8 (.int .u8 0), [], rfl, by have := HN.out; omega, rfl, rfl, by simp, Blk.new w _ _, by simp, by simp [byteVals], (Below.refl _ _).alloc (Nat.le_refl _) _⟩
  case round =>
    obtain ⟨k, p, cs, t, rfl, hk, ht, rfl, hnb, hblk, hc, hd, hb⟩ := hrel
    have hlen : (nb k).length + t.length ≤ 8 := by rw [hnb] at hl8; simpa using hl8
    by_cases h0 : 0 < k
    · have hp : 0 < p := by
        obtain ⟨b, l, e, _⟩ := nb_head k (by omega)
        rw [e] at hlen; simp at hlen; omega
      have hp8 : p ≤ 8 := by omega
      have h1 : wr.cell? ⟨w.heap.size, p - 1, none⟩ = some (cs[p - 1]'(by omega)) := hblk.cell _ _
      generalize cs[p - 1]'(by omega) = x at h1
      have h2 : wr.frozen? ⟨w.heap.size, p - 1, none⟩ = false := hblk.frozen _
      have hcl : (k : Int) % 256 = ((UInt8.ofNat (k % 256)).toNat : Int) := by simp
      have H : Hid (p + t.length = 8 ∧ nb n = nb k ++ t ∧ Blk wr w.heap.size 178 cs ∧ cs.length = 8 ∧ cs.drop p = byteVals t ∧ (k : Int) % 256 = ((UInt8.ofNat (k % 256)).toNat : Int)) := ⟨ht, hnb, hblk, hc, hd, hcl⟩
      clear ht hnb hblk hc hd hcl hl8 hlen
      go_wp2
      obtain ⟨ht, hnb, hblk, hc, hd, hcl⟩ := H.out
      refine ⟨⟨k / 256, p - 1, cs.set (p - 1) (.int .u8 ((k : Int) % 256)), UInt8.ofNat (k % 256) :: t, by go_num, by omega, by simp; omega, by go_num, ?_, hblk.set _ _, by simpa using hc, ?_, hb.setCell (Nat.le_refl _) _⟩, by simp [intOf]; omega⟩
      · rw [hnb, nb_pos k (by omega)]; simp
      · rw [List.drop_eq_getElem_cons (by simp; omega)]
        simp only [List.getElem_set_self, byteVals, List.map_cons]
        rw [hcl, show p - 1 + 1 = p by omega, List.drop_set_of_lt (by omega), hd]; rfl
    · obtain rfl : k = 0 := by omega
      obtain ⟨v, hv, hsl⟩ := slice_arr_l (P := Tryz.prog) (t := 178) (e := 5) (size := 1) (n := 8) Tryz.underlying178 (fun _ => by kernel_rfl) hblk (by omega) (by simp [maxLen]) p (by omega)
      have hcv := conv_bytes (P := Tryz.prog) (l := t) (by rw [← hd]; simpa using hsl) 66 5 37 Tryz.underlying66 Tryz.underlying5 Tryz.underlying37
      have H : Hid (nb n = t) := by rw [hnb, nb_zero]; rfl
      clear hnb hd hblk hsl hlen hl8
      go_wp2
      go_ret
      exact ⟨ret_str (by unfold ns; rw [H.out]), hb⟩

set_option maxHeartbeats 400000 in
theorem of_any (n:Int) (w:World) (h0:0≤n) (hn:n≤9223372036854775807) :
  Calls Tryz.prog 85 #[.int .i64 n] w fun e w'=>e=.returned (.string (ns n.toNat))∧Below w.heap.size w w':=by
 obtain ⟨k,rfl⟩:=Int.eq_ofNat_of_zero_le h0
 go_enter Tryz.func85,Tryz.ntmps85
 go_wp2_with (go_at_call 128;refine (small_any _ _ (by omega)).mono ?_;rintro e w' ⟨rfl,hb⟩)
 go_ret
 exact ⟨rfl,hb⟩

end

section
open Go.RowKit

theorem nv_take_succ (s:ByteArray) (i:Nat) (h:i<s.size):nv (s.data.toList.take (i+1))=nv (s.data.toList.take i)*256+s[i].toNat:=by
 rw [List.take_succ_eq_append_getElem (by rw [bytes_size];exact h),nv_snoc,bytes_get s i h]
theorem nv_take_lt (s:ByteArray) (i:Nat) (h:i<s.size) (h8:s.size≤8):nv (s.data.toList.take i)<72057594037927936:=by
 have:=nv_lt (s.data.toList.take i)
 have hl:(s.data.toList.take i).length≤7:=by rw [List.length_take];omega
 have:256^(s.data.toList.take i).length≤256^7:=Nat.pow_le_pow_right (by omega) hl
 omega

set_option maxHeartbeats 400000 in
theorem word_any (s:ByteArray) (w:World) (hs:s.size≤8) :
  Calls Tryz.prog 149 #[.string s] w fun e w'=>e=.returned (.tuple #[.int .u64 (vn s),.bool true])∧w=w':=by
 go_enter Tryz.func149,Tryz.ntmps149
 go_wp2
 go_loop [4,11] (fun n i=>∃k:Nat,k≤s.size∧i=.int .i64 k∧n=.int .u64 (nv (s.data.toList.take k))) (fun _ i=>s.size-(intOf i).toNat)
 case atStart=>exact ⟨0,by omega,rfl,rfl⟩
 case round =>
  obtain ⟨k,hk,rfl,rfl⟩:=hrel
  by_cases hlt:k<s.size
  ·have hv:=nv_take_lt s k hlt hs
   have hsu:=nv_take_succ s k hlt
   generalize nv (s.data.toList.take k)=m at *
   have hb:s[k].toNat<256:=s[k].toNat_lt
   have H:=Lib.hid hsu;clear hsu
   go_wp2
   refine ⟨⟨k+1,by omega,by go_num,?_⟩,by simp [intOf];omega⟩
   rw [H.out,u64_or8 m _ hb hv]
  ·obtain rfl:k=s.size:=by omega
   have H:Hid (nv (s.data.toList.take s.size)=vn s):=by unfold vn;rw [List.take_of_length_le (by rw [bytes_size];exact Nat.le_refl _)];rfl
   go_wp2
   go_ret2
   exact ⟨by rw [H.out];rfl,rfl⟩

set_option maxHeartbeats 400000 in
theorem word_long (s:ByteArray) (w:World) (hs:8<s.size) (hm:s.size≤maxLen) :
  Calls Tryz.prog 149 #[.string s] w fun e w'=>e=.returned (.tuple #[.int .u64 0,.bool false])∧w=w':=by
 unfold maxLen at hm
 go_enter Tryz.func149,Tryz.ntmps149
 go_wp2
 go_ret2
 exact ⟨rfl,rfl⟩

theorem vn_ns_lt8 {s:ByteArray} (h:(ns (vn s)).size≤8):vn s<18446744073709551616:=by
 have:=vn_lt (ns (vn s))
 rw [vn_ns] at this
 have:256^(ns (vn s)).size≤256^8:=Nat.pow_le_pow_right (by omega) h
 omega
theorem ns_size_le8 {n:Nat} (h:n<18446744073709551616):(ns n).size≤8:=by
 rw [ns_size];exact nb_length_lt (k:=8) (by omega)

end

section
def lv (l:List Nat):Nat:=l.foldr (fun x n=>x+4294967296*n) 0
def Lim (l:List Nat):Prop:=∀x,x∈l→x<4294967296
def Can (l:List Nat):Prop:=∀x,l.getLast?=some x→x≠0
def ltrim (l:List Nat):List Nat:=(l.reverse.dropWhile (·== 0)).reverse
def limbVals (l:List Nat):List Value:=l.map fun x:Nat=>Value.int .u32 (x:Int)

theorem lv_nil:lv []=0:=rfl
theorem lv_cons (x:Nat) (l:List Nat):lv (x::l)=x+4294967296*lv l:=rfl
theorem lv_append (l m:List Nat):lv (l++m)=lv l+4294967296^l.length*lv m:=by
 induction l with
 | nil=>simp [lv_nil]
 | cons x l ih =>
  rw [List.cons_append,lv_cons,ih,lv_cons,List.length_cons,Nat.pow_succ,Nat.mul_add,Nat.mul_comm (4294967296^l.length) 4294967296,Nat.mul_assoc]
  omega
theorem lv_snoc (l:List Nat) (x:Nat):lv (l++[x])=lv l+4294967296^l.length*x:=by rw [lv_append,lv_cons,lv_nil,Nat.mul_zero,Nat.add_zero]
theorem lim_nil:Lim []:=fun x h=>by cases h
theorem lim_cons {x:Nat} {l:List Nat}:Lim (x::l)↔x<4294967296∧Lim l:=by simp [Lim]
theorem lim_append {l m:List Nat}:Lim (l++m)↔Lim l∧Lim m:=by
 simp only [Lim,List.mem_append]
 exact ⟨fun h=>⟨fun x hx=>h x (.inl hx),fun x hx=>h x (.inr hx)⟩,fun h x hx=>hx.elim (h.1 x) (h.2 x)⟩
theorem lim_take {l:List Nat} (h:Lim l) (k:Nat):Lim (l.take k):=fun x hx=>h x (List.mem_of_mem_take hx)
theorem lim_get {l:List Nat} (h:Lim l) (i:Nat) (d:Nat) (hi:i<l.length):l.getD i d<4294967296:=by
 rw [List.getD_eq_getElem?_getD,List.getElem?_eq_getElem hi];exact h _ (List.getElem_mem hi)
theorem lv_lt {l:List Nat} (h:Lim l):lv l<4294967296^l.length:=by
 induction l with
 | nil=>simp [lv_nil]
 | cons x l ih =>
  obtain ⟨h1,h2⟩:=lim_cons.1 h
  rw [lv_cons,List.length_cons,Nat.pow_succ]
  have:=ih h2
  omega
theorem lv_zeros (n:Nat):lv (List.replicate n 0)=0:=by
 induction n with
 | zero=>rfl
 | succ n ih=>rw [List.replicate_succ,lv_cons,ih]
theorem can_nil:Can []:=fun x h=>by simp at h
theorem lv_ltrim (l:List Nat):lv (ltrim l)=lv l:=by
 have key:∀r:List Nat,lv (r.dropWhile (·== 0)).reverse=lv r.reverse:=by
  intro r
  induction r with
  | nil=>rfl
  | cons x r ih =>
   by_cases h:x=0
   ·subst h
    rw [List.dropWhile_cons_of_pos (by simp),ih,List.reverse_cons,lv_snoc];simp
   ·rw [List.dropWhile_cons_of_neg (by simpa using h)]
 have:=key l.reverse
 rwa [List.reverse_reverse] at this
theorem can_ltrim (l:List Nat):Can (ltrim l):=by
 intro x h
 unfold ltrim at h
 rw [List.getLast?_reverse] at h
 have:=List.head?_dropWhile_not (fun x:Nat=>x==0) l.reverse
 rw [h] at this
 simpa using this
theorem lim_ltrim {l:List Nat} (h:Lim l):Lim (ltrim l):=fun x hx=>h x (by
 unfold ltrim at hx
 rw [List.mem_reverse] at hx
 have:=(List.dropWhile_sublist (fun x:Nat=>x==0)).subset hx
 simpa using this)
theorem ltrim_snoc_zero (l:List Nat):ltrim (l++[0])=ltrim l:=by simp [ltrim]
theorem ltrim_snoc (l:List Nat) (x:Nat) (h:x≠0):ltrim (l++[x])=l++[x]:=by
 unfold ltrim
 rw [List.reverse_append]
 simp only [List.reverse_cons,List.reverse_nil,List.nil_append,List.cons_append]
 rw [List.dropWhile_cons_of_neg (by simpa using h)]
 simp
theorem take_snoc {α:Type} [Inhabited α] (l:List α) (k:Nat) (h:k<l.length):l.take (k+1)=l.take k++[l.getD k default]:=by
 rw [List.take_succ_eq_append_getElem h,List.getD_eq_getElem?_getD,List.getElem?_eq_getElem h];rfl
theorem can_ge {l:List Nat} (h:Can l) (hne:l≠[]):4294967296^(l.length-1)≤lv l:=by
 obtain ⟨m,x,rfl⟩:∃m x,l=m++[x]:=⟨l.dropLast,l.getLast hne,(List.dropLast_concat_getLast hne).symm⟩
 have hx:x≠0:=h x (by simp)
 rw [lv_snoc]
 simp only [List.length_append,List.length_cons,List.length_nil]
 have:=Nat.mul_le_mul_left (4294967296^m.length) (show 1≤x by omega)
 simp only [Nat.add_sub_cancel]
 omega
theorem can_length_lt {l m:List Nat} (hl:Lim l) (hm:Can m) (h:l.length<m.length):lv l<lv m:=by
 have h1:=lv_lt hl
 have h2:=can_ge hm (by intro e;rw [e] at h;simp at h)
 have h3:4294967296^l.length≤4294967296^(m.length-1):=Nat.pow_le_pow_right (by omega) (by omega)
 omega
theorem can_zero {l:List Nat} (h:Can l):lv l=0↔l=[]:=by
 constructor
 ·intro e
  by_cases hn:l=[]
  ·exact hn
  ·have:=can_ge h hn
   have:0<4294967296^(l.length-1):=Nat.pow_pos (by omega)
   omega
 ·rintro rfl;rfl
theorem can_length_le {l:List Nat} (h:Can l) {k:Nat} (hk:lv l<4294967296^k):l.length≤k:=by
 by_cases hn:l=[]
 ·subst hn;simp
 ·have h1:=can_ge h hn
  have:=(Nat.pow_lt_pow_iff_right (by omega:1<4294967296)).1 (Nat.lt_of_le_of_lt h1 hk)
  omega
theorem lv_take_drop (l:List Nat) (k:Nat) (h:k≤l.length):lv l=lv (l.take k)+4294967296^k*lv (l.drop k):=by
 have:=lv_append (l.take k) (l.drop k)
 rw [List.take_append_drop,List.length_take,Nat.min_eq_left h] at this
 exact this
theorem pow_split (n:Nat):(4294967296:Nat)^n=256^(4*n):=by rw [Nat.pow_mul]
theorem split_step (l t:List UInt8) (ls:List Nat) (E i:Nat) (hE:E+4*i=l.length) (hi:ls.length=i) (h:lv ls=nv (l.drop E)) (ht:t=(l.take E).drop (E-4)) :
  lv (ls++[nv t])=nv (l.drop (E-4)):=by
 have e:l.drop (E-4)=t++l.drop E:=by
  rw [ht]
  conv=>lhs;rw [←List.take_append_drop E l]
  rw [List.drop_append_of_le_length (by rw [List.length_take];omega)]
 rw [e,nv_append,lv_snoc,h,hi,pow_split,List.length_drop,show l.length-E=4*i by omega,Nat.mul_comm]
 omega
theorem chunk_lt (l:List UInt8) (E:Nat):nv ((l.take E).drop (E-4))<4294967296:=by
 have h:=nv_lt ((l.take E).drop (E-4))
 have:((l.take E).drop (E-4)).length≤4:=by rw [List.length_drop,List.length_take];omega
 have:=Nat.pow_le_pow_right (n:=256) (by omega) this
 omega
theorem add_step (l m o:List Nat) (k c y:Nat) (hk:k<l.length) (ho:o.length=k) (hy:y=if k<m.length then m.getD k default else 0)
  (h:lv o+4294967296^k*c=lv (l.take k)+lv (m.take k)) :
  lv (o++[(c+l.getD k default+y)%4294967296])+4294967296^(k+1)*((c+l.getD k default+y)/4294967296)=lv (l.take (k+1))+lv (m.take (k+1)):=by
 have hl:lv (l.take (k+1))=lv (l.take k)+4294967296^k*l.getD k default:=by
  rw [take_snoc l k hk,lv_snoc,List.length_take,Nat.min_eq_left (by omega)]
 have hm:lv (m.take (k+1))=lv (m.take k)+4294967296^k*y:=by
  by_cases h1:k<m.length
  ·rw [take_snoc m k h1,lv_snoc,List.length_take,Nat.min_eq_left (by omega),hy,if_pos h1]
  ·rw [hy,if_neg h1,List.take_of_length_le (by omega),List.take_of_length_le (by omega)];simp
 rw [hl,hm,lv_snoc,ho]
 generalize hx:l.getD k default=x at *
 have hs:4294967296^k*(c+x+y)=4294967296^k*((c+x+y)%4294967296)+4294967296^(k+1)*((c+x+y)/4294967296):=by
  rw [Nat.pow_succ,Nat.mul_assoc,←Nat.mul_add,Nat.mod_add_div]
 have hd:4294967296^k*(c+x+y)=4294967296^k*c+4294967296^k*x+4294967296^k*y:=by rw [Nat.mul_add,Nat.mul_add]
 omega
theorem sub_step (l m o:List Nat) (k c y r c':Nat) (hk:k<l.length) (ho:o.length=k) (hy:y=if k<m.length then m.getD k default else 0)
  (h:lv o+lv (m.take k)=lv (l.take k)+4294967296^k*c) (hr:r+(c+y)=l.getD k default+4294967296*c') :
  lv (o++[r])+lv (m.take (k+1))=lv (l.take (k+1))+4294967296^(k+1)*c':=by
 have hl:lv (l.take (k+1))=lv (l.take k)+4294967296^k*l.getD k default:=by
  rw [take_snoc l k hk,lv_snoc,List.length_take,Nat.min_eq_left (by omega)]
 have hm:lv (m.take (k+1))=lv (m.take k)+4294967296^k*y:=by
  by_cases h1:k<m.length
  ·rw [take_snoc m k h1,lv_snoc,List.length_take,Nat.min_eq_left (by omega),hy,if_pos h1]
  ·rw [hy,if_neg h1,List.take_of_length_le (by omega),List.take_of_length_le (by omega)];simp
 rw [hl,hm,lv_snoc,ho]
 generalize hx:l.getD k default=x at *
 have e1:4294967296^k*r+(4294967296^k*c+4294967296^k*y)=4294967296^k*x+4294967296^(k+1)*c':=by
  rw [←Nat.mul_add,←Nat.mul_add,hr,Nat.mul_add,Nat.pow_succ,Nat.mul_assoc]
 omega
theorem lv_at (l:List Nat) (k:Nat) (h:k<l.length):lv l=lv (l.take k)+4294967296^k*(l.getD k default+4294967296*lv (l.drop (k+1))):=by
 rw [lv_take_drop l k (by omega),List.drop_eq_getElem_cons h,lv_cons,List.getD_eq_getElem?_getD,List.getElem?_eq_getElem h];rfl
theorem less_lt {l m:List Nat} (hl:Lim l) (k:Nat) (hlen:l.length=m.length) (hk:k<l.length) (hd:l.drop (k+1)=m.drop (k+1)) (hx:l.getD k default<m.getD k default):lv l<lv m:=by
 rw [lv_at l k hk,lv_at m k (by omega),hd]
 have h1:=lv_lt (lim_take hl k)
 rw [List.length_take,Nat.min_eq_left (by omega)] at h1
 have:=Nat.mul_le_mul_left (4294967296^k) (show l.getD k default+4294967296*lv (m.drop (k+1))+1≤m.getD k default+4294967296*lv (m.drop (k+1)) by omega)
 rw [Nat.mul_add] at this
 omega
theorem drop_step {l m:List Nat} (k:Nat) (hlen:l.length=m.length) (hk:k<l.length) (hd:l.drop (k+1)=m.drop (k+1)) (hx:l.getD k default=m.getD k default):l.drop k=m.drop k:=by
 rw [List.drop_eq_getElem_cons hk,List.drop_eq_getElem_cons (show k<m.length by omega),hd]
 congr 1
 rwa [List.getD_eq_getElem?_getD,List.getElem?_eq_getElem hk,List.getD_eq_getElem?_getD,List.getElem?_eq_getElem (by omega)] at hx
theorem limbs_le {l:List Nat} {n k:Nat} (hc:Can l) (h:lv l=n) (hn:n<256^k):l.length≤(k+3)/4:=by
 refine can_length_le hc ?_
 rw [h,pow_split]
 exact Nat.lt_of_lt_of_le hn (Nat.pow_le_pow_right (by omega) (by omega))
end

section
open Go.RowKit

def Limbs (w:World) (v:Value) (l:List Nat):Prop:=SliceAt w v 1 (limbVals l)∧Lim l
theorem Limbs.ext {w w':World} {v:Value} {l:List Nat} (h:Limbs w v l) (hb:Below w.heap.size w w'):Limbs w' v l:=⟨h.1.ext hb,h.2⟩

def RetTrim (w:World) (v:Value) (l:List Nat) (e:Ending) (w':World):Prop:=∃v',e=.returned v'∧Limbs w v' (ltrim l)∧(∀B,FreshV B v→FreshV B v')∧w=w'

theorem zeroU32:∀w,(Go.sizeOf 145).run Tryz.prog w=.ok 1 w:=fun _=>by kernel_rfl

set_option maxHeartbeats 400000 in
theorem ltrim_any (l:List Nat) (v:Value) (w:World) (h:Limbs w v l) :
  Calls Tryz.prog 152 #[v] w (RetTrim w v l):=by
 obtain ⟨h,hlim⟩:=h
 obtain ⟨v0,HV0⟩:∃v0,Hid (v=v0):=⟨v,rfl⟩
 go_enter Tryz.func152,Tryz.ntmps152
 go_wp2
 go_loop [0] (fun v=>∃k:Nat,k≤l.length∧SliceAt w v 1 (limbVals (l.take k))∧(∀B,FreshV B v0→FreshV B v)∧ltrim (l.take k)=ltrim l) sliceLen
 case atStart=>exact ⟨l.length,Nat.le_refl _,by simpa using h,fun B hB=>by rw [HV0.out];exact hB,by simp⟩
 case round =>
  clear h
  obtain ⟨k,hk,hs,hfr,ht⟩:=hrel
  have HF:=Lib.hid hfr;clear hfr
  have HS:=Lib.hid hs
  obtain ⟨a,cap,rfl,hnc,hcm,hcell⟩:=SliceAt.open1 hs
  have hlk:(l.take k).length=k:=by rw [List.length_take];omega
  rw [hlk] at hs hnc hcell HS HF ⊢
  unfold maxLen at hcm
  by_cases h0:0<k
  ·obtain ⟨v',hv',hs',hf'⟩:=slice_h (P:=Tryz.prog) (t:=149) (e:=145) (size:=1) (n:=k) Tryz.underlying149 zeroU32 hs (by rw [limbVals,List.length_map,hlk];omega) (by omega) (k-1) (by omega)
   obtain ⟨b,off,rfl,hc⟩:=hcell (k-1) (by omega)
   have hx:=take_snoc l (k-1) (by omega)
   rw [show k-1+1=k by omega] at hx
   have hxx:(l.take k).getD (k-1) default=l.getD (k-1) default:=by rw [List.getD_eq_getElem?_getD,List.getElem?_take_of_lt (by omega),←List.getD_eq_getElem?_getD]
   rw [hxx] at hc
   generalize l.getD (k-1) default=x at hx hc
   have H:Hid (l.take k=l.take (k-1)++[x]∧ltrim (l.take k)=ltrim l∧SliceAt w v' 1 (limbVals (l.take (k-1)))):=⟨hx,ht,by
    rw [Nat.mul_one,limbVals,←List.map_take,List.take_take,Nat.min_eq_left (by omega)] at hs';exact hs'⟩
   have HF2:Hid (∀B,FreshV B v0→FreshV B v'):=fun B hB=>hf' B (HF.out B hB)
   clear hf'
   clear hcell hx hxx ht hs hs' hlk
   have hv:(∀w1,(Instr.slice 149 (.slice (some ⟨b,off,none⟩) k cap) none (some (.int .i64 ((k:Int)-1))) none).run Tryz.prog w1=.ok v' w1):=by
    have e:((k:Int)-1)=((k-1:Nat):Int):=by omega
    rw [e];exact hv'
   clear hv'
   go_wp2
   ·have hq:((x:Int)==0)=true:=by assumption
    have hx0:x=0:=by simpa using hq
    obtain ⟨h1,h2,h3⟩:=H.out
    rw [hx0] at h1
    rw [h1,ltrim_snoc_zero] at h2
    have:=h3.len
    refine ⟨⟨k-1,by omega,h3,HF2.out,h2⟩,?_⟩
    rw [limbVals,List.length_map,List.length_take] at this
    simp only [sliceLen] at this ⊢;omega
   ·have hq:((x:Int)==0)=false:=by assumption
    have hx0:x≠0:=by simpa using hq
    obtain ⟨h1,h2,h3⟩:=H.out
    go_ret
    refine ⟨_,rfl,⟨?_,lim_ltrim hlim⟩,by rw [HV0.out];exact HF.out,rfl⟩
    rw [←h2,h1,ltrim_snoc _ _ hx0,←h1]
    exact HS.out
  ·obtain rfl:k=0:=by omega
   clear hcell
   go_wp2
   go_ret
   refine ⟨_,rfl,⟨?_,lim_ltrim hlim⟩,by rw [HV0.out];exact HF.out,rfl⟩
   rw [←ht]
   exact HS.out

def RetLimbs (w:World) (n:Nat) (e:Ending) (w':World):Prop:=∃v l,e=.returned v∧Limbs w' v l∧Can l∧lv l=n∧FreshV w.heap.size v∧Below w.heap.size w w'

theorem el_limbs:ElemT Tryz.prog 149 145 1 4 (.int .u32 0):=ElemT.mk' Tryz.underlying149 (by kernel_rfl) rfl (by decide)

theorem nv_take_lt3 (t:List UInt8) (k:Nat) (h:k<t.length) (h4:t.length≤4):nv (t.take k)<16777216:=by
 have:=nv_lt (t.take k)
 have hl:(t.take k).length≤3:=by rw [List.length_take];omega
 have:=Nat.pow_le_pow_right (n:=256) (by omega) hl
 omega

set_option maxRecDepth 100000 in
set_option maxHeartbeats 1000000 in
theorem split_any (s:ByteArray) (w:World) (hs:s.size≤1099511627776) :
  Calls Tryz.prog 126 #[.string s] w (RetLimbs w (vn s)):=by
 go_enter Tryz.func126,Tryz.ntmps126
 go_wp2
 go_loopw [3,4] (fun v e wr=>∃(i:Nat) (ls:List Nat) (z:Int),wr.ownsRow w.heap.size 145 1 v i (limbVals ls)∧ls.length=i∧Lim ls∧e=.int .i64 z∧z=(s.size:Int)-4*i∧4*i≤s.size+3∧lv ls=nv (s.data.toList.drop (s.size-4*i))∧Below w.heap.size w wr) (fun _ e _=>(intOf e).toNat)
 case atStart=>exact ⟨0,[],_,World.ownsRow_nil _ _ _ _,rfl,lim_nil,rfl,by omega,by omega,by rw [List.drop_of_length_le (by rw [bytes_size];omega)];rfl,Below.refl _ _⟩
 case round =>
  obtain ⟨i,ls,z,hown,hi,hlim,rfl,hz,hi4,hlv,hb⟩:=hrel
  by_cases h0:0<z
  ·obtain ⟨E,rfl⟩:=Int.eq_ofNat_of_zero_le (show 0≤z by omega)
   have hE:E+4*i=s.size:=by omega
   have hEs:E≤s.size:=by omega
   obtain ⟨t,ht⟩:∃t:ByteArray,t=s.extract (E-4) E:=⟨_,rfl⟩
   have htl:t.data.toList=(s.data.toList.take E).drop (E-4):=by
    rw [ht,ByteArray.data_extract,Array.toList_extract,List.extract_eq_take_drop,List.drop_take]
   have hn:=chunk_lt s.data.toList E
   rw [←htl] at hn
   have hts:t.size≤4:=by rw [←bytes_size,htl,List.length_drop,List.length_take];omega
   have hstep:=split_step s.data.toList t.data.toList ls E i (by rw [bytes_size];exact hE) hi (by rw [hlv,show s.size-4*i=E by omega]) htl
   obtain ⟨v2,w2,hcv,hs2,hb2⟩:=conv_string (P:=Tryz.prog) wr t (by unfold maxLen;omega) 37 66 5 Tryz.underlying37 Tryz.underlying66 Tryz.underlying5
   obtain ⟨a2,cap2,rfl,_,hcap2,hcell2⟩:=SliceAt.open1 (α:=UInt8) hs2
   rw [bytes_size] at hcell2 hcv
   have hslA:4<E→(∀w1,(Instr.slice 37 (.string s) (some (.int .i64 ((E:Int)-4))) (some (.int .i64 (E:Int))) none).run Tryz.prog w1=.ok (.string t) w1):=by
    intro h4 w1
    rw [show ((E:Int)-4)=((E-4:Nat):Int) by omega,str_lh Tryz.underlying37 s _ _ (by omega) hEs,ht]
   have hslB:E≤4→(∀w1,(Instr.slice 37 (.string s) (some (.int .i64 0)) (some (.int .i64 (E:Int))) none).run Tryz.prog w1=.ok (.string t) w1):=by
    intro h4 w1
    have:=str_lh (P:=Tryz.prog) Tryz.underlying37 s 0 E (by omega) hEs w1
    rw [ht,show E-4=0 by omega];exact this
   have H:Hid (wr.ownsRow w.heap.size 145 1 u3 i (limbVals ls)∧ls.length=i∧(E:Int)=(s.size:Int)-4*i∧E+4*i=s.size∧lv (ls++[nv t.data.toList])=nv (s.data.toList.drop (E-4))∧Below wr.heap.size wr w2):=⟨hown,hi,hz,hE,hstep,hb2⟩
   clear hown hi hlv hz hE hstep hs2 htl ht hb2
   by_cases h4:4<E
   all_goals
    first|(have hsl:=hslA h4;clear hslA hslB)|(have hsl:=hslB (by omega);clear hslA hslB)
    go_wp2
    go_loop [5,22] (fun n q=>∃k:Nat,k≤t.size∧q=.int .i64 k∧n=.int .u32 (nv (t.data.toList.take k))) (fun _ q=>t.size-(intOf q).toNat)
    case atStart=>exact ⟨0,by omega,rfl,rfl⟩
    case round =>
     obtain ⟨k,hk,rfl,rfl⟩:=hrel
     clear hsl hcv
     by_cases hlt:k<t.size
     ·obtain ⟨b2,off2,rfl,hc2⟩:=hcell2 k hlt
      clear hcell2
      have hsu:=nv_take_succ t k hlt
      have h3:=nv_take_lt3 t.data.toList k (by rw [bytes_size];exact hlt) (by rw [bytes_size];exact hts)
      have hge:t.data.toList.getD k default=t[k]:=by rw [bytes_get t k hlt,List.getD_eq_getElem?_getD,List.getElem?_eq_getElem (by rw [bytes_size];exact hlt)];rfl
      rw [hge] at hc2
      have hb8:t[k].toNat<256:=t[k].toNat_lt
      generalize nv (t.data.toList.take k)=m at *
      generalize t[k]=y at *
      have HS:=Lib.hid hsu;clear hsu hge
      go_wp2
      refine ⟨⟨k+1,by omega,by go_num,?_⟩,by simp [intOf];omega⟩
      rw [HS.out,u32_or8 m _ hb8 h3]
     ·obtain rfl:k=t.size:=by omega
      clear hcell2
      rw [List.take_of_length_le (by rw [bytes_size];exact Nat.le_refl _)]
      obtain ⟨hown,hi,hz,hE,hstep,hb2⟩:=H.out
      have hown2:w2.ownsRow w.heap.size 145 1 u3 i (limbVals ls):=hown.kept (row:=none) ⟨hb2.os,hb2.tape,hb2.output,hb2.size,fun k hk _=>hb2.block k hk⟩ (by cases hv:u3.ownBlock<;>simp)
      have hsz2:w.heap.size≤w2.heap.size:=Nat.le_trans hb.size hb2.size
      have hb3:Below w.heap.size w w2:=hb.trans (hb2.mono hb.size)
      clear hown hi hz hE hstep hb2
      generalize hm:nv t.data.toList=m at *
      have HM:=Lib.hid hm;clear hm
      go_wp2_with (at_builtin;go_must (refine wpList_app rfl _ _ 149 rfl w.heap.size el_limbs _ _ _ rfl (hown2.alloc _) _ rfl 1 [.int .u32 m] (SliceAt.lit _ _ 1 1 _ rfl (by decide)) rfl (one_int _ _) (by omega) (by decide) (le_alloc hsz2 _) ?_);intro v' w' hown' hg)
      obtain ⟨hown,hi,hz,hE,hstep,hb2⟩:=H.out
      have hbf:=(hb3.alloc hsz2 (Obj.cells #[Value.int IntKind.u32 ↑m] 145)).grown hg (le_alloc hsz2 _) (fun k hk=>(hown2.lt k hk).1)
      refine ⟨⟨i+1,ls++[m],_,by simpa [limbVals] using hown',by simp [hi],lim_append.2 ⟨hlim,lim_cons.2 ⟨hn,lim_nil⟩⟩,rfl,by omega,by omega,?_,hbf⟩,by simp [intOf];omega⟩
      rw [hstep,show s.size-4*(i+1)=E-4 by omega]
  ·have hL:Limbs wr u3 ls:=⟨SliceAt.owned hown,hlim⟩
   have H:Hid (lv ls=vn s):=by unfold Hid vn;rw [hlv,show s.size-4*i=0 by omega,List.drop_zero]
   have HF:Hid (FreshV w.heap.size u3):=FreshV.owned hown
   clear hown hi hz hlv
   go_wp2_with (go_at_call 152;refine (ltrim_any _ _ _ hL).mono ?_;rintro e w' ⟨v',rfl,hl',hf',rfl⟩)
   go_ret
   exact ⟨_,_,rfl,hl',can_ltrim _,by rw [lv_ltrim];exact H.out,hf' _ HF.out,hb⟩
end

section
open Go.RowKit

def CellsKept (w w':World):Prop:=∀(b:Nat) (c:Array Value) (e:TypeId) (f:Nat × Nat),w.heap[b]?=some (Obj.cells c e f)→w'.heap[b]?=some (Obj.cells c e f)
theorem CellsKept.refl (w:World):CellsKept w w:=fun _ _ _ _ h=>h
theorem CellsKept.cell {w w':World} (h:CellsKept w w') (a:Addr) (hv:w.cell? a≠none):w'.cell? a=w.cell? a:=by
 unfold World.cell? at hv ⊢
 cases hb:w.heap[a.block]? with
 | none=>rw [hb] at hv;exact absurd rfl hv
 | some o =>
  rw [hb] at hv
  cases o with
  | cells c e f=>rw [h _ _ _ _ hb]
  | _=>exact absurd rfl hv
theorem CellsKept.blk {w w':World} (h:CellsKept w w') {b:Nat} {e:TypeId} {cs:List Value} (hb:Blk w b e cs):Blk w' b e cs:=h _ _ _ _ hb
theorem CellsKept.slice {w w':World} (h:CellsKept w w') {v:Value} {size:Nat} {cs:List Value} (hs:SliceAt w v size cs):SliceAt w' v size cs:=hs.of_cells h.cell
theorem CellsKept.owns {w w':World} (h:CellsKept w w') {base:Nat} {e:TypeId} {size n:Nat} {v:Value} {xs:List Value} (ho:w.ownsRow base e size v n xs):w'.ownsRow base e size v n xs:=by
 obtain ⟨hl,ho⟩:=ho
 refine ⟨hl,?_⟩
 rcases ho with ho|⟨g,cap,cur,rfl,h1,h2,h3⟩
 ·exact .inl ho
 ·exact .inr ⟨g,cap,cur,rfl,h1,h _ _ _ _ h2,h3⟩
theorem turn_kept {w w':World} {row:Option Nat} (hg:w.grownBy w' row) (hr:∀r,row=some r→∃o:Obj,w.heap[r]?=some o∧o.isCells=false):CellsKept w w':=by
 intro b c e f hb
 rw [hg.block b (Array.getElem?_eq_some_iff.1 hb).1 (fun hrow=>?_)]
 ·exact hb
 ·obtain ⟨o,ho,hc⟩:=hr b hrow.symm
  rw [hb] at ho;cases ho;cases hc
theorem turn_below {n₀ B:Nat} {w₀ w w':World} {row:Option Nat} (h:Below n₀ w₀ w) (hn:n₀≤w₀.heap.size) (hB:n₀≤B) (hg:w.grownBy w' row) (hr:∀r,row=some r→B≤r∧∃o:Obj,w.heap[r]?=some o∧o.isCells=false):Below n₀ w₀ w' :=
 h.grown hg (Nat.le_trans hn h.size) (fun k e=>Nat.le_trans hB (hr k e).1)
theorem ownFrom_of {β:Type} {n₀ B:Nat} {w₀:World} (hn:n₀≤w₀.heap.size) (hB:n₀≤B) {I:β→World→Prop} (h:∀s W W',I s W→CellsKept W W'→I s W'):OwnFrom B (fun s W=>I s W∧Below n₀ w₀ W) :=
 fun s W W' row hs hg hr=>⟨h s W W' hs.1 (turn_kept hg (fun r e=>(hr r e).2)),turn_below hs.2 hn hB hg hr⟩
theorem putObj_cells {w:World} {l:Nat} {o:Obj} (o':Obj) (hl:w.heap[l]?=some o) (ho:o.isCells=false):CellsKept w (w.putObj l o') :=
 turn_kept (grownBy_putObj' w l o') (fun r e=>by cases e;exact ⟨o,hl,ho⟩)
theorem below_putObj {n₀ l:Nat} {w₀ w:World} (h:Below n₀ w₀ w) (hl:n₀≤l) (hw:n₀≤w.heap.size) (o':Obj):Below n₀ w₀ (w.putObj l o') :=
 h.grown (grownBy_putObj' w l o') hw (fun k e=>by cases e;exact hl)
theorem keepsFrom_setCell (B:Nat) (w:World) (a:Addr) (v:Value):KeepsFrom B w (w.setCell a v):=(KeepsOthers.setCell w a v).from B
theorem keepsFrom_alloc (B:Nat) (w:World) (o:Obj):KeepsFrom B w (w.alloc o):=(KeepsOthers.alloc w o).from B
theorem keepsFrom_app {B base:Nat} {w w':World} {e:TypeId} {size n:Nat} {v:Value} {xs:List Value} (ho:w.ownsRow base e size v n xs) (hg:w.grownBy w' v.ownBlock):KeepsFrom B w w':=by
 refine ⟨hg.size,fun k o _ hk hc=>(hg.block k (Array.getElem?_eq_some_iff.1 hk).1 (fun e=>?_)).trans hk⟩
 rcases ho.2 with ⟨rfl,_⟩|⟨g,cap,cur,rfl,_,hgb,_⟩
 ·simp [Value.ownBlock] at e
 ·obtain rfl:k=g:=by simpa [Value.ownBlock] using e
  rw [hgb] at hk;cases hk;cases hc
theorem Blk.not_row {w:World} {b:Nat} {t e:TypeId} {cs:List Value} (h:Blk w b t cs) (hte:t≠e) {base size n:Nat} {v:Value} {xs:List Value} (ho:w.ownsRow base e size v n xs):some b≠v.ownBlock:=by
 intro he
 rcases ho.2 with ⟨rfl,_⟩|⟨g,cap,cur,rfl,_,hgb,_⟩
 ·simp [Value.ownBlock] at he
 ·obtain rfl:b=g:=by simpa [Value.ownBlock] using he
  unfold Blk at h
  rw [h] at hgb
  simp at hgb
  exact hte hgb.2
theorem owns_setCell {w:World} {b:Nat} {t e:TypeId} {cs:List Value} (h:Blk w b t cs) (hte:t≠e) {base size n:Nat} {v:Value} {xs:List Value} (ho:w.ownsRow base e size v n xs) (i:Nat) (u:Value):(w.setCell ⟨b,i,none⟩ u).ownsRow base e size v n xs :=
 ho.kept (row:=some b) ⟨rfl,rfl,rfl,by simp [World.setCell],fun k hk hne=>Below.heap_setCell _ _ _ _ (fun e=>hne (by rw [e]))⟩ (.inr (h.not_row hte ho).symm)
def KeepBox (n₀ Bn:Nat) (A B:World):Prop:=Below n₀ A B∧∀v,A.cell? ⟨Bn,0,none⟩=some v→B.cell? ⟨Bn,0,none⟩=some v
theorem keepBox_t {n₀ Bn:Nat} {A B C:World} (h:KeepBox n₀ Bn A B) (k:KeepBox n₀ Bn B C):KeepBox n₀ Bn A C:=⟨h.1.trans k.1,fun v hv=>k.2 v (h.2 v hv)⟩
theorem keepBox_b {n₀ Bn:Nat} {w:World} (hn:n₀≤w.heap.size) (W:World) (l:Nat) (o o':Obj) (hl:w.heap.size≤l) (h:W.heap[l]?=some o) (hc:o.isCells=false) (hw:o.isWalk=false):KeepBox n₀ Bn W (W.putObj l o') :=
 ⟨belowK_b hn W l o o' hl h hc hw,fun v hv=>by rw [(putObj_cells o' h hc).cell _ (by rw [hv];simp)];exact hv⟩
theorem keepBox_of {n₀ Bn:Nat} {t:TypeId} {s:Value} {A B:World} (h:Below n₀ A B) (ha:Blk A Bn t [s]) (hb:Blk B Bn t [s]):KeepBox n₀ Bn A B :=
 ⟨h,fun v hv=>by rw [ha.cell 0 (by simp)] at hv;rw [hb.cell 0 (by simp)];exact hv⟩
theorem wpListIn_app {F:Fence} {k:Nat} {P:Program} {w:World} {ops:Array Oper} {rest:List Oper} {o:Oper} {a:Act} {Q:Exit→Act→World→Prop} (hgd:o.guard=none) (s x:Operand) (t:TypeId)
  (ho:o.op=.call { callee:=.builtin .append,args:=#[s,x],argTypes:=#[t,t] }) (base:Nat) {e size bytes:Nat} {z:Value} (E:ElemT P t e size bytes z)
  (v:Value) (n:Nat) (xs:List Value) (hs:a.eval s=v) (hown:w.ownsRow base e size v n xs) (y:Value) (hy:a.eval x=y) (m:Nat) (news:List Value) (hx:SliceAt w y size news) (hl:news.length=m*size) (h1:∀u∈news,u.oneCell'=true)
  (hbytes:(n+m)*bytes≤140737488355328) (hb0:0<bytes) (hbase:base≤w.heap.size)
  (h:∀v' w',w'.ownsRow base e size v' (n+m) (xs++news)→w.grownBy w' v.ownBlock→wpListIn F k P ops Q rest (a.put o.dst v') w'):wpListIn F k P ops Q (o::rest) a w:=by
 obtain ⟨v',w',hrun,r1,r2⟩:=run_app t o.type base E v n xs hown y m news hx hl h1 hbytes hb0 hbase
 refine wpListIn_plain hgd fun K hK=>?_
 unfold Oper.wpIn
 refine ⟨?_,?_⟩
 ·simp [Oper.about,ho,resolve,Target.leads,Sem.run_pure]
 ·rw [Oper.semAt_plain F _ _ (by rw [ho];intro c hc';cases hc')]
  simp [execOp,ho,resolve,invoke,builtin,hs,hy,hrun,Result.andThen]
  exact hK _ _ (h v' w' r1 r2)
end

section
open Go.RowKit Go.Shelf
attribute [local go_sem] Oper.semAt_some

def RetBackward (w:World) (v:Value) (e:Ending) (w':World):Prop:=e=.returned (.func (.func 171) #[] #[.pointer (some ⟨w.heap.size,0,none⟩)])∧w'=w.alloc (.cells #[v] 149)

theorem backward_any (a:Option Addr) (n cap:Nat) (w:World) :
  Calls Tryz.prog 153 #[.slice a n cap] w (RetBackward w (.slice a n cap)):=by
 go_enter Tryz.func153,Tryz.ntmps153
 go_wp2
 go_ret
 exact ⟨rfl,rfl⟩

def backs (l:List Nat):List (Nat × Nat):=(List.range l.length).map fun k=>(l.length-1-k,l.getD (l.length-1-k) default)

theorem backs_length (l:List Nat):(backs l).length=l.length:=by simp [backs]
theorem backs_take (l:List Nat) (k m:Nat) (h:m+1+k=l.length):(backs l).take (k+1)=(backs l).take k++[(m,l.getD m default)]:=by
 rw [List.take_add_one]
 congr 1
 simp only [backs,List.getElem?_map,List.getElem?_range (show k<l.length by omega),Option.map_some,Option.toList_some,show l.length-1-k=m by omega]

set_option maxRecDepth 100000 in
set_option maxHeartbeats 1000000 in
theorem back1_in (n:Nat) (hn:1≤n) (lp Bn n₀:Nat) (v:Value) (ls:List Nat) (J Jx:List (Nat × Nat)→World→Prop)
  (hY:∀pre x W,J pre W→pre.length<ls.length→YieldAt Fence.wide (n-1) Tryz.prog lp #[.int .i64 (x.1:Nat),.int .u32 (x.2:Nat)] W fun e W' =>
   (e=.returned (.bool true)∧J (pre++[x]) W'∧KeepBox n₀ Bn W W')∨(e=.returned (.bool false)∧Jx (pre++[x]) W'))
  (w0 W:World) (hBn:W.cell? ⟨Bn,0,none⟩=some v) (hL:SliceAt w0 v 1 (limbVals ls)) (hw0:n₀=w0.heap.size) (hW:Below n₀ w0 W) (h0:J [] W) :
  CallsIn Fence.wide n Tryz.prog 171 #[.func (.yield lp) #[] #[],.pointer (some ⟨Bn,0,none⟩)] W fun e W'=>(∃v,e=.returned v) ∧
   ((∃ys,ys=backs ls∧J ys W')∨(∃pre,pre <+: backs ls∧Jx pre W')):=by
 refine callsIn_of_wp Tryz.func171 rfl trivial ?_ rfl
 simp only [Tryz.ntmps171,List.size_toArray,List.length_cons,List.length_nil,Nat.reduceAdd,Nat.reduceSub,Array.replicate_succ,Array.replicate_zero,List.push_toArray,List.append_toArray,List.nil_append,List.cons_append]
 subst hw0
 obtain ⟨a,cap,rfl,hnc,hcm,hcell⟩:=SliceAt.open1 hL
 unfold maxLen at hcm
 gi_wp2
 gi_loopw [3] (fun q wr=>∃(k:Nat) (i:Int),q=.int .i64 i∧i+1+k=ls.length∧-1≤i∧J ((backs ls).take k) wr∧wr.cell? ⟨Bn,0,none⟩=some (.slice a ls.length cap)∧Below w0.heap.size w0 wr) (fun q _=>(intOf q+1).toNat)
 case atStart=>exact ⟨0,_,rfl,by omega,by omega,h0,hBn,hW⟩
 case round =>
  clear hBn hW h0
  obtain ⟨k,i,rfl,hik,hi1,hJ,hbox,hb⟩:=hrel
  by_cases hi:0≤i
  ·obtain ⟨m,rfl⟩:=Int.eq_ofNat_of_zero_le hi
   have hm:m+1+k=ls.length:=by omega
   have hml:m<ls.length:=by omega
   obtain ⟨b,off,rfl,hc0⟩:=hcell m hml
   have hc:wr.cell? ⟨b,off+m,none⟩=some (Value.int IntKind.u32 ↑(ls.getD m default)):=by rw [hb.cell (World.block_lt_of_cell? w0 _ hc0)];exact hc0
   obtain ⟨fn,tmps,assign,body,hy,hR⟩:=hY _ (m,ls.getD m default) wr hJ (by rw [List.length_take,backs_length];omega)
   have hbt:=backs_take ls k m hm
   rw [←hbt] at hR
   dsimp only at hy
   generalize ls.getD m default=x at hc hy
   have H:Hid (m+1+k=ls.length):=hm
   clear hcell hc0 hbt hY hik hm hJ
   gi_wp2
   refine hR.mono ?_
   rintro e W3 (⟨rfl,hJ3,hk3⟩|⟨rfl,hJx3⟩)
   ·have hbox3:=hk3.2 _ hbox
    have hb3:=hb.trans hk3.1
    have hmH:=H.out
    gi_wp2
    go_roundw
    case rel=>refine ⟨k+1,_,rfl,?_,?_,hJ3,hbox3,hb3⟩<;>omega
    case measure=>simp [intOf]
   ·gi_wp2
    refine bodyPost_ret (results_none rfl _ _ _) rfl ?_
    exact ⟨⟨_,rfl⟩,.inr ⟨_,List.take_prefix _ _,hJx3⟩⟩
  ·obtain rfl:i=-1:=by omega
   have hkk:k=ls.length:=by omega
   rw [List.take_of_length_le (by rw [backs_length];omega)] at hJ
   clear hcell
   gi_wp2
   go_end0
   exact ⟨⟨_,rfl⟩,.inl hJ⟩

theorem back_stops (n:Nat) (hn:1≤n) (Bn:Nat) (v:Value) (ls:List Nat) (w0 w:World) (hb:Below w0.heap.size w0 w) (hBn:w.cell? ⟨Bn,0,none⟩=some v) (hL:SliceAt w0 v 1 (limbVals ls)) :
  SeqStopsK Fence.wide n Tryz.prog 171 #[.pointer (some ⟨Bn,0,none⟩)] (fun x:Nat × Nat=>#[Value.int .i64 (x.1:Nat),.int .u32 (x.2:Nat)]) (KeepBox w0.heap.size Bn) (fun ys=>ys=backs ls) (fun pre=>pre <+: backs ls) ls.length w:=fun l J Jx W hW _ _ hY h0 =>
 back1_in n hn l Bn _ v ls J Jx hY w0 W (by rw [hW.cell (p:=⟨Bn,0,none⟩) (World.block_lt_of_cell? w _ hBn)];exact hBn) hL rfl (hb.trans (hW.mono hb.size)) h0

def limbBytes (x:Nat):List UInt8:=[UInt8.ofNat (x/16777216),UInt8.ofNat (x/65536),UInt8.ofNat (x/256),UInt8.ofNat x]
def backBytes (pre:List (Nat × Nat)):List UInt8:=pre.flatMap fun p=>limbBytes p.2

theorem nv_limbBytes (x:Nat) (h:x<4294967296):nv (limbBytes x)=x:=by
 simp only [limbBytes,nv,List.foldl_cons,List.foldl_nil,UInt8.toNat_ofNat']
 omega
theorem backBytes_backs (l:List Nat):backBytes (backs l)=l.reverse.flatMap limbBytes:=by
 have:(backs l).map (·.2)=l.reverse:=by
  apply List.ext_getElem
  ·simp [backs]
  ·intro i h1 h2
   have:i<l.length:=by simpa [backs] using h1
   simp [backs,List.getElem?_eq_getElem (show l.length-1-i<l.length by omega)]
 rw [←this,List.flatMap_map];rfl
theorem nv_back (l:List Nat) (h:Lim l):nv (l.reverse.flatMap limbBytes)=lv l∧(l.reverse.flatMap limbBytes).length=4*l.length:=by
 induction l with
 | nil=>exact ⟨rfl,rfl⟩
 | cons x l ih =>
  obtain ⟨h1,h2⟩:=lim_cons.1 h
  obtain ⟨i1,i2⟩:=ih h2
  rw [List.reverse_cons,List.flatMap_append,List.length_append,i2,nv_append,i1]
  simp only [List.flatMap_cons,List.flatMap_nil,List.append_nil,List.length_cons,nv_limbBytes x h1,lv_cons]
  simp only [limbBytes,List.length_cons,List.length_nil]
  exact ⟨by omega,by omega⟩

def RetNat (w:World) (n:Nat) (e:Ending) (w':World):Prop:=e=.returned (.string (ns n))∧Below w.heap.size w w'

theorem el_bytes:ElemT Tryz.prog 66 5 1 1 (.int .u8 0):=ElemT.mk' Tryz.underlying66 (by kernel_rfl) rfl (by decide)

set_option maxRecDepth 100000 in
set_option maxHeartbeats 1000000 in
theorem lnat_any (ls:List Nat) (v:Value) (w:World) (h:Limbs w v ls) (hlen:ls.length≤1099511627776) :
  Calls Tryz.prog 127 #[v] w (RetNat w (lv ls)):=by
 obtain ⟨hs,hlim⟩:=h
 obtain ⟨a,cap,rfl,hnc,hcm,hcell⟩:=SliceAt.open1 hs
 refine (callsIn_wide (n:=9)).1 ?_
 refine callsIn_of_wp_marks Tryz.func127 rfl trivial ?_ rfl
 simp only [Tryz.ntmps127,List.size_toArray,List.length_cons,List.length_nil,Nat.reduceAdd,Nat.reduceSub,Array.replicate_succ,Array.replicate_zero,List.push_toArray,List.append_toArray,List.nil_append,List.cons_append]
 clear hcell
 have hmk:=make_cap el_bytes w .i64 .i64 (4*ls.length) (by omega) (by decide)
 rw [show ((4*ls.length:Nat):Int)=4*(ls.length:Int) by omega] at hmk
 gi_wp2_with (refine ⟨trivial,?_⟩;gi_at_call 153;refine (callsIn_wide.2 (backward_any _ _ _ _)).mono ?_;rintro e w' ⟨rfl,rfl⟩)
 clear hmk
 have hB0:Below w.heap.size w (((w.alloc (Obj.cells (madeCells #[Value.int IntKind.u8 0] (4*ls.length)) 5)).alloc (Obj.cells #[Value.slice (some ⟨w.heap.size,0,none⟩) 0 (4*ls.length)] 66)).alloc (.cells #[.slice a ls.length cap] 149)) :=
  (((Below.refl _ w).alloc (Nat.le_refl _) _).alloc (by simp) _).alloc (by simp;omega) _
 have hown0:=((World.ownsRow_made (base:=w.heap.size) (e:=5) (size:=1) w (madeCells #[Value.int IntKind.u8 0] (4*ls.length)) (4*ls.length) (Nat.le_refl _) (by unfold maxLen;omega) (by simp [size_madeCells])).alloc (Obj.cells #[Value.slice (some ⟨w.heap.size,0,none⟩) 0 (4*ls.length)] 66)).alloc (.cells #[.slice a ls.length cap] 149)
 have hblk0:=(Blk.new (w.alloc (Obj.cells (madeCells #[Value.int IntKind.u8 0] (4*ls.length)) 5)) 66 [Value.slice (some ⟨w.heap.size,0,none⟩) 0 (4*ls.length)]).alloc (.cells #[.slice a ls.length cap] 149)
 have hbxb:=Blk.new ((w.alloc (Obj.cells (madeCells #[Value.int IntKind.u8 0] (4*ls.length)) 5)).alloc (Obj.cells #[Value.slice (some ⟨w.heap.size,0,none⟩) 0 (4*ls.length)] 66)) 149 [.slice a ls.length cap]
 have hbx0:(((w.alloc (Obj.cells (madeCells #[Value.int IntKind.u8 0] (4*ls.length)) 5)).alloc (Obj.cells #[Value.slice (some ⟨w.heap.size,0,none⟩) 0 (4*ls.length)] 66)).alloc (.cells #[.slice a ls.length cap] 149)).cell? ⟨w.heap.size+1+1,0,none⟩=some (.slice a ls.length cap):=by
  have:=hbxb.cell 0 (by simp)
  simpa using this
 refine wpIn_rangeFunc_ownG rfl (by decide) (gf:=171) (lb:=#[.pointer (some ⟨w.heap.size+1+1,0,none⟩)]) rfl trivial (enters_of Tryz.func171 (by kernel_rfl) rfl)
  (back_stops (9-1) (by decide) _ _ ls w _ hB0 hbx0 hs) keepBox_t (keepBox_b (by simp;omega)) (Below.refl _ _) (fun _=>rfl)
  (fun pre W=>(∃bv,Blk W (w.heap.size+1) 66 [bv]∧W.ownsRow w.heap.size 5 1 bv (4*pre.length) (byteVals (backBytes pre))∧Blk W (w.heap.size+1+1) 149 [.slice a ls.length cap])∧Below w.heap.size w W)
  (fun _ _ _=>False)
  (ownFrom_of (Nat.le_refl _) (by simp;omega) (fun s W W' h hc=>by obtain ⟨bv,h1,h2,h3⟩:=h;exact ⟨bv,hc.blk h1,hc.owns h2,hc.blk h3⟩))
  (fun _ _ _ _ _ hs _ _=>hs)
  ⟨⟨_,by simpa using hblk0,hown0,by simpa using hbxb⟩,hB0⟩
  (fun x=>{ tmps:=#[.slice a ls.length cap,undef,.string ⟨#[]⟩,.pointer (some ⟨w.heap.size+1,0,none⟩),undef,.int .u32 (x.2:Nat),.slice a ls.length cap,.int .i64 ls.length,.int .i64 (4*(ls.length:Int)),.slice (some ⟨w.heap.size,0,none⟩) 0 (4*ls.length),.slice a ls.length cap,.func (.func 171) #[] #[.pointer (some ⟨w.heap.size+1+1,0,none⟩)],.int .i64 (x.1:Nat),.int .u32 (x.2:Nat),undef,undef,undef,undef,undef,undef,undef,undef,undef,undef,undef,undef,undef,undef,undef,undef,undef],defers:=[] }) ?assign ?body ?done ?stop
 case assign =>
  intro l x W K hK
  gi_wp2
  exact hK
 case body =>
  rintro l pre x W ⟨⟨bv,hblk,hown,hbx⟩,hB⟩ hlt
  have hc:=hblk.cell 0 (by simp)
  simp only [List.getElem_cons_zero] at hc
  have hf:=hblk.frozen 0
  have hsz:w.heap.size≤W.heap.size:=hB.size
  gi_wp2_with (gi_at_builtin;go_must (refine wpListIn_app rfl _ _ 66 rfl w.heap.size el_bytes _ _ _ rfl (hown.alloc _) _ rfl 4 [.int .u8 ((x.2:Int)/16777216%256),.int .u8 ((x.2:Int)/65536%256),.int .u8 ((x.2:Int)/256%256),.int .u8 ((x.2:Int)%256)] (SliceAt.lit _ _ 4 1 _ rfl (by decide)) rfl (by simp [Value.oneCell']) (by omega) (by decide) (le_alloc hsz _) ?_);intro v' w' hown' hg;obtain ⟨a',c',rfl⟩:=owns_shape hown';have hblk':=(hblk.alloc _).grown hg (Blk.not_row hblk (by decide) hown);have hc':=hblk'.cell 0 (by simp);have hf':=hblk'.frozen 0;simp only [List.getElem_cons_zero] at hc')
  have hb1:Below w.heap.size W (w'.setCell ⟨w.heap.size+1,0,none⟩ (.slice a' (4*pre.length+4) c')) :=
   (((Below.refl _ W).alloc hsz _).grown hg (le_alloc hsz _) (fun k hk=>(hown.lt k hk).1)).setCell (p:=⟨w.heap.size+1,0,none⟩) (by simp) _
  have hbx1:=((hbx.alloc (.cells #[.int .u8 ((x.2:Int)/16777216%256),.int .u8 ((x.2:Int)/65536%256),.int .u8 ((x.2:Int)/256%256),.int .u8 ((x.2:Int)%256)] 5)).grown hg (Blk.not_row hbx (by decide) hown)).setOther (a:=⟨w.heap.size+1,0,none⟩) (by simp) (.slice a' (4*pre.length+4) c')
  refine ⟨((keepsFrom_alloc _ _ _).trans (keepsFrom_app (hown.alloc _) hg)).trans (keepsFrom_setCell _ _ _ _),keepBox_of hb1 hbx hbx1,⟨_,hblk'.set 0 _,?_,hbx1⟩,hB.trans hb1⟩
  have:=owns_setCell hblk' (by decide) hown' 0 (.slice a' (4*pre.length+4) c')
  rw [List.length_append]
  simpa [backBytes,limbBytes,byteVals,Nat.mul_add] using this
 case done =>
  rintro D ys W hD rfl ⟨⟨bv,hblk,hown,hbx⟩,hB⟩ hK
  have hc:=hblk.cell 0 (by simp)
  simp only [List.getElem_cons_zero] at hc
  have hconv:=conv_bytes (P:=Tryz.prog) (SliceAt.owned hown) 66 5 37 Tryz.underlying66 Tryz.underlying5 Tryz.underlying37
  obtain ⟨hnv,hbl⟩:=nv_back ls hlim
  rw [←backBytes_backs] at hnv hbl
  have hsize:(⟨(backBytes (backs ls)).toArray⟩:ByteArray).size≤maxLen:=by
   show (backBytes (backs ls)).toArray.size≤maxLen
   rw [List.size_toArray,hbl];unfold maxLen;omega
  have HN:Hid (vn ⟨(backBytes (backs ls)).toArray⟩=lv ls):=hnv
  clear hnv hbl
  gi_wp2_with (refine ⟨trivial,?_⟩;gi_at_call 123;refine (callsIn_wide.2 (trim_any _ _ hsize)).mono ?_;rintro e w' ⟨rfl,rfl⟩)
  refine ⟨by simp,.inl ⟨_,_,rfl,run_takeDeferred hK,?_⟩⟩
  refine ⟨_,results_tmp rfl _ _ _,?_⟩
  exact ⟨ret_str (by rw [HN.out]),below_putObj hB (by simp at hD;omega) hB.size _⟩
 case stop =>
  rintro D c pre W _ _ h _
  exact h.elim
end

section
open Go.RowKit

theorem Limbs.op {w:World} {v:Value} {l:List Nat} (h:Limbs w v l):∃a cap,v=.slice a l.length cap∧l.length≤cap∧cap≤maxLen∧∀i,i<l.length→(∃b off,a=some ⟨b,off,none⟩∧w.cell? ⟨b,off+i,none⟩=some (.int .u32 (l.getD i default:Nat)))∧l.getD i default<4294967296:=by
 obtain ⟨a,cap,h1,h2,h3,h4⟩:=SliceAt.open1 h.1
 exact ⟨a,cap,h1,h2,h3,fun i hi=>⟨h4 i hi,lim_get h.2 i default hi⟩⟩

set_option maxRecDepth 100000 in
set_option maxHeartbeats 2000000 in
theorem add_any (s t:ByteArray) (w:World) (hs:s.size≤274877906944) (ht:t.size≤274877906944) :
  Calls Tryz.prog 84 #[.string s,.string t] w (RetNat w (vn s+vn t)):=by
 have hvs:=vn_lt s
 have hvt:=vn_lt t
 go_enter Tryz.func84,Tryz.ntmps84
 go_wp2_with fail
 refine (split_any s w (by omega)).mono ?_
 rintro e w1 ⟨v1,l,rfl,hl,hcl,hvl,_,hb1⟩
 go_wp2_with fail
 refine (split_any t w1 (by omega)).mono ?_
 rintro e w2 ⟨v2,m,rfl,hm,hcm,hvm,_,hb2⟩
 have hl2:=hl.ext hb2
 have hll:=limbs_le hcl hvl hvs
 have hml:=limbs_le hcm hvm hvt
 have H:Hid (lv l+lv m=vn s+vn t):=by rw [Hid,hvl,hvm]
 have hb:Below w.heap.size w w2:=hb1.trans (hb2.mono hb1.size)
 clear hl hcl hvl hcm hvm hvs hvt hb1 hb2
 obtain ⟨a1,p1,rfl,hnc1,hcm1,hcl⟩:=hl2.op
 obtain ⟨a2,p2,rfl,hnc2,hcm2,hcm⟩:=hm.op
 clear hl2 hm
 unfold maxLen at hcm1 hcm2
 by_cases hsw:l.length<m.length
 ·have hmk:=make_cap el_limbs w2 .i64 .i64 (m.length+1) (by omega) (by decide)
  rw [show ((m.length+1:Nat):Int)=(m.length:Int)+1 by omega] at hmk
  have hown0:=World.ownsRow_made (base:=w2.heap.size) (e:=145) (size:=1) w2 (madeCells #[Value.int IntKind.u32 0] (m.length+1)) (m.length+1) (Nat.le_refl _) (by unfold maxLen;omega) (by simp [size_madeCells])
  have hb20:=(Below.refl w2.heap.size w2).alloc (Nat.le_refl _) (.cells (madeCells #[Value.int IntKind.u32 0] (m.length+1)) 145)
  go_wp2
  go_loopw [7,8,28] (fun o c q wr=>∃(k cc:Nat) (os:List Nat),q=.int .i64 k∧k≤m.length∧c=.int .u64 cc∧cc≤1∧wr.ownsRow w2.heap.size 145 1 o k (limbVals os)∧os.length=k∧Lim os∧lv os+4294967296^k*cc=lv (m.take k)+lv (l.take k)∧Below w2.heap.size w2 wr) (fun _ _ q _=>m.length-(intOf q).toNat)
  case atStart=>exact ⟨0,0,[],rfl,Nat.zero_le _,rfl,by omega,hown0,rfl,lim_nil,by simp [lv_nil],hb20⟩
  case round =>
   obtain ⟨k,cc,os,rfl,hk,rfl,hcc,hown,ho,hlo,hlv,hb2r⟩:=hrel
   have hszr:w2.heap.size≤wr.heap.size:=hb2r.size
   clear hmk hown0 hb20
   by_cases hlt:k<m.length
   ·obtain ⟨⟨b1,o1,rfl,hc1⟩,hx1⟩:=hcm k hlt
    have hc1r:=(ext_cell hb2r _ (by rw [hc1];simp)).trans hc1
    have hst:=fun y hy=>add_step m l os k cc y hlt ho hy hlv
    by_cases hlm:k<l.length
    ·obtain ⟨⟨b2,o2,rfl,hc2⟩,hx2⟩:=hcl k hlm
     have hc2r:=(ext_cell hb2r _ (by rw [hc2];simp)).trans hc2
     have hst2:=hst (l.getD k default) (by rw [if_pos hlm])
     generalize m.getD k default=x at *
     generalize l.getD k default=y at *
     have HH:Hid (lv (os++[(cc+x+y)%4294967296])+4294967296^(k+1)*((cc+x+y)/4294967296)=lv (m.take (k+1))+lv (l.take (k+1))∧os.length=k):=⟨hst2,ho⟩
     clear hst2 hst ho hlv hcm hcl hc1 hc2
     go_wp2_with (at_builtin;go_must (refine wpList_app rfl _ _ 149 rfl w2.heap.size el_limbs _ _ _ rfl (hown.alloc _) _ rfl 1 [.int .u32 ((↑cc+↑x+↑y)%4294967296)] (SliceAt.lit _ _ 1 1 _ rfl (by decide)) rfl (one_int _ _) (by omega) (by decide) (le_alloc hszr _) ?_);intro v' w' hown' hg)
     have hbf2:=(hb2r.alloc hb2r.size (Obj.cells #[Value.int IntKind.u32 ((↑cc+↑x+↑y)%4294967296)] 145)).grown hg (le_alloc hb2r.size _) (fun k hk=>(fun k hk=>(hown.lt k hk).1) k hk)
     obtain ⟨hH,hoH⟩:=HH.out
     refine ⟨⟨k+1,(cc+x+y)/4294967296,os++[(cc+x+y)%4294967296],by go_num,by omega,by go_num,by omega,by simpa [limbVals] using hown',by simp [hoH],lim_append.2 ⟨hlo,lim_cons.2 ⟨by omega,lim_nil⟩⟩,hH,hbf2⟩,by simp [intOf];omega⟩
    ·have hst2:=hst 0 (by rw [if_neg hlm])
     generalize m.getD k default=x at *
     have HH:Hid (lv (os++[(cc+x)%4294967296])+4294967296^(k+1)*((cc+x)/4294967296)=lv (m.take (k+1))+lv (l.take (k+1))∧os.length=k):=⟨hst2,ho⟩
     clear hst2 hst ho hlv hcm hcl hc1
     go_wp2_with (at_builtin;go_must (refine wpList_app rfl _ _ 149 rfl w2.heap.size el_limbs _ _ _ rfl (hown.alloc _) _ rfl 1 [.int .u32 ((↑cc+↑x)%4294967296)] (SliceAt.lit _ _ 1 1 _ rfl (by decide)) rfl (one_int _ _) (by omega) (by decide) (le_alloc hszr _) ?_);intro v' w' hown' hg)
     have hbf2:=(hb2r.alloc hb2r.size (Obj.cells #[Value.int IntKind.u32 ((↑cc+↑x)%4294967296)] 145)).grown hg (le_alloc hb2r.size _) (fun k hk=>(fun k hk=>(hown.lt k hk).1) k hk)
     obtain ⟨hH,hoH⟩:=HH.out
     refine ⟨⟨k+1,(cc+x)/4294967296,os++[(cc+x)%4294967296],by go_num,by omega,by go_num,by omega,by simpa [limbVals] using hown',by simp [hoH],lim_append.2 ⟨hlo,lim_cons.2 ⟨by omega,lim_nil⟩⟩,hH,hbf2⟩,by simp [intOf];omega⟩
   ·obtain rfl:k=m.length:=by omega
    rw [List.take_of_length_le (Nat.le_refl _),List.take_of_length_le (by omega)] at hlv
    have HH:Hid (lv (os++[cc])=vn s+vn t∧os.length=m.length):=⟨by rw [lv_snoc,ho,hlv];have:=H.out;omega,ho⟩
    clear hcm hcl hlv ho
    go_wp2_with (first
     | (at_builtin;go_must (refine wpList_app rfl _ _ 149 rfl w2.heap.size el_limbs _ _ _ rfl (hown.alloc _) _ rfl 1 [.int .u32 (cc:Int)] (SliceAt.lit _ _ 1 1 _ rfl (by decide)) rfl (one_int _ _) (by omega) (by decide) (le_alloc hszr _) ?_);intro v' w' hown' hg)
     | (go_at_call 127;go_must (refine (lnat_any (os++[cc]) _ _ ⟨SliceAt.owned (by simpa [limbVals] using hown'),lim_append.2 ⟨hlo,lim_cons.2 ⟨by omega,lim_nil⟩⟩⟩ (by rw [List.length_append,HH.out.2];simp;omega)).mono ?_);rintro e w'' ⟨rfl,hb3⟩))
    have hbf:=(hb2r.alloc hszr (Obj.cells #[Value.int IntKind.u32 (cc:Int)] 145)).grown hg (le_alloc hszr _) (fun k hk=>(hown.lt k hk).1)
    go_ret
    exact ⟨ret_str (by rw [HH.out.1]),(hb.trans (hbf.mono hb.size)).trans (hb3.mono (Nat.le_trans hb.size hbf.size))⟩
 ·have hmk:=make_cap el_limbs w2 .i64 .i64 (l.length+1) (by omega) (by decide)
  rw [show ((l.length+1:Nat):Int)=(l.length:Int)+1 by omega] at hmk
  have hown0:=World.ownsRow_made (base:=w2.heap.size) (e:=145) (size:=1) w2 (madeCells #[Value.int IntKind.u32 0] (l.length+1)) (l.length+1) (Nat.le_refl _) (by unfold maxLen;omega) (by simp [size_madeCells])
  have hb20:=(Below.refl w2.heap.size w2).alloc (Nat.le_refl _) (.cells (madeCells #[Value.int IntKind.u32 0] (l.length+1)) 145)
  go_wp2
  go_loopw [7,8,28] (fun o c q wr=>∃(k cc:Nat) (os:List Nat),q=.int .i64 k∧k≤l.length∧c=.int .u64 cc∧cc≤1∧wr.ownsRow w2.heap.size 145 1 o k (limbVals os)∧os.length=k∧Lim os∧lv os+4294967296^k*cc=lv (l.take k)+lv (m.take k)∧Below w2.heap.size w2 wr) (fun _ _ q _=>l.length-(intOf q).toNat)
  case atStart=>exact ⟨0,0,[],rfl,Nat.zero_le _,rfl,by omega,hown0,rfl,lim_nil,by simp [lv_nil],hb20⟩
  case round =>
   obtain ⟨k,cc,os,rfl,hk,rfl,hcc,hown,ho,hlo,hlv,hb2r⟩:=hrel
   have hszr:w2.heap.size≤wr.heap.size:=hb2r.size
   clear hmk hown0 hb20
   by_cases hlt:k<l.length
   ·obtain ⟨⟨b1,o1,rfl,hc1⟩,hx1⟩:=hcl k hlt
    have hc1r:=(ext_cell hb2r _ (by rw [hc1];simp)).trans hc1
    have hst:=fun y hy=>add_step l m os k cc y hlt ho hy hlv
    by_cases hlm:k<m.length
    ·obtain ⟨⟨b2,o2,rfl,hc2⟩,hx2⟩:=hcm k hlm
     have hc2r:=(ext_cell hb2r _ (by rw [hc2];simp)).trans hc2
     have hst2:=hst (m.getD k default) (by rw [if_pos hlm])
     generalize l.getD k default=x at *
     generalize m.getD k default=y at *
     have HH:Hid (lv (os++[(cc+x+y)%4294967296])+4294967296^(k+1)*((cc+x+y)/4294967296)=lv (l.take (k+1))+lv (m.take (k+1))∧os.length=k):=⟨hst2,ho⟩
     clear hst2 hst ho hlv hcl hcm hc1 hc2
     go_wp2_with (at_builtin;go_must (refine wpList_app rfl _ _ 149 rfl w2.heap.size el_limbs _ _ _ rfl (hown.alloc _) _ rfl 1 [.int .u32 ((↑cc+↑x+↑y)%4294967296)] (SliceAt.lit _ _ 1 1 _ rfl (by decide)) rfl (one_int _ _) (by omega) (by decide) (le_alloc hszr _) ?_);intro v' w' hown' hg)
     have hbf2:=(hb2r.alloc hb2r.size (Obj.cells #[Value.int IntKind.u32 ((↑cc+↑x+↑y)%4294967296)] 145)).grown hg (le_alloc hb2r.size _) (fun k hk=>(fun k hk=>(hown.lt k hk).1) k hk)
     obtain ⟨hH,hoH⟩:=HH.out
     refine ⟨⟨k+1,(cc+x+y)/4294967296,os++[(cc+x+y)%4294967296],by go_num,by omega,by go_num,by omega,by simpa [limbVals] using hown',by simp [hoH],lim_append.2 ⟨hlo,lim_cons.2 ⟨by omega,lim_nil⟩⟩,hH,hbf2⟩,by simp [intOf];omega⟩
    ·have hst2:=hst 0 (by rw [if_neg hlm])
     generalize l.getD k default=x at *
     have HH:Hid (lv (os++[(cc+x)%4294967296])+4294967296^(k+1)*((cc+x)/4294967296)=lv (l.take (k+1))+lv (m.take (k+1))∧os.length=k):=⟨hst2,ho⟩
     clear hst2 hst ho hlv hcl hcm hc1
     go_wp2_with (at_builtin;go_must (refine wpList_app rfl _ _ 149 rfl w2.heap.size el_limbs _ _ _ rfl (hown.alloc _) _ rfl 1 [.int .u32 ((↑cc+↑x)%4294967296)] (SliceAt.lit _ _ 1 1 _ rfl (by decide)) rfl (one_int _ _) (by omega) (by decide) (le_alloc hszr _) ?_);intro v' w' hown' hg)
     have hbf2:=(hb2r.alloc hb2r.size (Obj.cells #[Value.int IntKind.u32 ((↑cc+↑x)%4294967296)] 145)).grown hg (le_alloc hb2r.size _) (fun k hk=>(fun k hk=>(hown.lt k hk).1) k hk)
     obtain ⟨hH,hoH⟩:=HH.out
     refine ⟨⟨k+1,(cc+x)/4294967296,os++[(cc+x)%4294967296],by go_num,by omega,by go_num,by omega,by simpa [limbVals] using hown',by simp [hoH],lim_append.2 ⟨hlo,lim_cons.2 ⟨by omega,lim_nil⟩⟩,hH,hbf2⟩,by simp [intOf];omega⟩
   ·obtain rfl:k=l.length:=by omega
    rw [List.take_of_length_le (Nat.le_refl _),List.take_of_length_le (by omega)] at hlv
    have HH:Hid (lv (os++[cc])=vn s+vn t∧os.length=l.length):=⟨by rw [lv_snoc,ho,hlv];have:=H.out;omega,ho⟩
    clear hcl hcm hlv ho
    go_wp2_with (first
     | (at_builtin;go_must (refine wpList_app rfl _ _ 149 rfl w2.heap.size el_limbs _ _ _ rfl (hown.alloc _) _ rfl 1 [.int .u32 (cc:Int)] (SliceAt.lit _ _ 1 1 _ rfl (by decide)) rfl (one_int _ _) (by omega) (by decide) (le_alloc hszr _) ?_);intro v' w' hown' hg)
     | (go_at_call 127;go_must (refine (lnat_any (os++[cc]) _ _ ⟨SliceAt.owned (by simpa [limbVals] using hown'),lim_append.2 ⟨hlo,lim_cons.2 ⟨by omega,lim_nil⟩⟩⟩ (by rw [List.length_append,HH.out.2];simp;omega)).mono ?_);rintro e w'' ⟨rfl,hb3⟩))
    have hbf:=(hb2r.alloc hszr (Obj.cells #[Value.int IntKind.u32 (cc:Int)] 145)).grown hg (le_alloc hszr _) (fun k hk=>(hown.lt k hk).1)
    go_ret
    exact ⟨ret_str (by rw [HH.out.1]),(hb.trans (hbf.mono hb.size)).trans (hb3.mono (Nat.le_trans hb.size hbf.size))⟩
end

section
open Go.RowKit

theorem u64_sub_lo (x t:Nat) (h:x<t) (ht:t≤4294967296):IntKind.u64.wrap ((x:Int)-((t:Nat):Int))%4294967296=((x+4294967296-t:Nat):Int):=by
 rw [IntKind.wrap_u64];omega
theorem u64_sub_hi (x t:Nat) (h:x<t) (ht:t≤4294967296):IntKind.u64.wrap ((x:Int)-((t:Nat):Int))/9223372036854775808=((1:Nat):Int):=by
 rw [IntKind.wrap_u64];omega

set_option maxRecDepth 100000 in
set_option maxHeartbeats 2000000 in
theorem minus_any (l m:List Nat) (v1 v2:Value) (w:World) (h1:Limbs w v1 l) (h2:Limbs w v2 m) (hle:lv m≤lv l) (hlen:m.length≤l.length) (hbig:l.length≤274877906944) :
  Calls Tryz.prog 170 #[v1,v2] w (RetLimbs w (lv l-lv m)):=by
 obtain ⟨a1,p1,rfl,hnc1,hcm1,hcl⟩:=h1.op
 obtain ⟨a2,p2,rfl,hnc2,hcm2,hcm⟩:=h2.op
 unfold maxLen at hcm1 hcm2
 have hmk:=make_cap el_limbs w .i64 .i64 l.length (by omega) (by decide)
 have hown0:=World.ownsRow_made (base:=w.heap.size) (e:=145) (size:=1) w (madeCells #[Value.int IntKind.u32 0] l.length) l.length (Nat.le_refl _) (by unfold maxLen;omega) (by simp [size_madeCells])
 have hb0:=(Below.refl w.heap.size w).alloc (Nat.le_refl _) (.cells (madeCells #[Value.int IntKind.u32 0] l.length) 145)
 clear h1 h2
 have HLE:=Lib.hid hle;clear hle
 go_enter Tryz.func170,Tryz.ntmps170
 go_wp2
 go_loopw [5,6,16] (fun o c q wr=>∃(k cc:Nat) (os:List Nat),q=.int .i64 k∧k≤l.length∧c=.int .u64 cc∧cc≤1∧wr.ownsRow w.heap.size 145 1 o k (limbVals os)∧os.length=k∧Lim os∧lv os+lv (m.take k)=lv (l.take k)+4294967296^k*cc∧Below w.heap.size w wr) (fun _ _ q _=>l.length-(intOf q).toNat)
 case atStart=>exact ⟨0,0,[],rfl,Nat.zero_le _,rfl,by omega,hown0,rfl,lim_nil,by simp [lv_nil],hb0⟩
 case round =>
  obtain ⟨k,cc,os,rfl,hk,rfl,hcc,hown,ho,hlo,hlv,hbr⟩:=hrel
  have hszr:w.heap.size≤wr.heap.size:=hbr.size
  clear hmk hown0 hb0
  by_cases hlt:k<l.length
  ·obtain ⟨⟨b1,o1,rfl,hc1⟩,hx1⟩:=hcl k hlt
   have hc1r:=(ext_cell hbr _ (by rw [hc1];simp)).trans hc1
   have hst:=fun y r c' hy hr=>sub_step l m os k cc y r c' hlt ho hy hlv hr
   by_cases hlm:k<m.length
   ·obtain ⟨⟨b2,o2,rfl,hc2⟩,hx2⟩:=hcm k hlm
    have hc2r:=(ext_cell hbr _ (by rw [hc2];simp)).trans hc2
    clear hcl hcm hc1 hc2
    generalize hyy:m.getD k default=y at *
    by_cases hxy:cc+y≤l.getD k default
    ·have HH:Hid (os.length=k∧lv (os++[(l.getD k default-(cc+y))])+lv (m.take (k+1))=lv (l.take (k+1))+4294967296^(k+1)*0):=⟨ho,hst y (l.getD k default-(cc+y)) 0 (by rw [if_pos hlm]) (by omega)⟩
     generalize l.getD k default=x at *
     clear ho hlv hst
     go_wp2_with (at_builtin;go_must (refine wpList_app rfl _ _ 149 rfl w.heap.size el_limbs _ _ _ rfl (hown.alloc _) _ rfl 1 [.int .u32 (↑x-(↑cc+↑y))] (SliceAt.lit _ _ 1 1 _ rfl (by decide)) rfl (one_int _ _) (by omega) (by decide) (le_alloc hszr _) ?_);intro v' w' hown' hg)
     have hbf:=(hbr.alloc hszr (Obj.cells #[Value.int IntKind.u32 (↑x-(↑cc+↑y))] 145)).grown hg (le_alloc hszr _) (fun k hk=>(hown.lt k hk).1)
     obtain ⟨hoH,hH⟩:=HH.out
     have hval:(↑x-(↑cc+↑y))=((x-(cc+y):Nat):Int):=by omega
     refine ⟨⟨k+1,0,_,by go_num,by omega,?_,by omega,by rw [hval] at hown';simpa [limbVals] using hown',by simp [hoH],lim_append.2 ⟨hlo,lim_cons.2 ⟨by omega,lim_nil⟩⟩,hH,hbf⟩,by simp [intOf];omega⟩
     refine int_val ?_;omega
    ·have HH:Hid (os.length=k∧lv (os++[(l.getD k default+4294967296-(cc+y))])+lv (m.take (k+1))=lv (l.take (k+1))+4294967296^(k+1)*1):=⟨ho,hst y (l.getD k default+4294967296-(cc+y)) 1 (by rw [if_pos hlm]) (by omega)⟩
     generalize l.getD k default=x at *
     clear ho hlv hst
     go_wp2_with (at_builtin;go_must (refine wpList_app rfl _ _ 149 rfl w.heap.size el_limbs _ _ _ rfl (hown.alloc _) _ rfl 1 [.int .u32 (IntKind.u64.wrap (↑x-(↑cc+↑y))%4294967296)] (SliceAt.lit _ _ 1 1 _ rfl (by decide)) rfl (one_int _ _) (by omega) (by decide) (le_alloc hszr _) ?_);intro v' w' hown' hg)
     have hbf:=(hbr.alloc hszr (Obj.cells #[Value.int IntKind.u32 (IntKind.u64.wrap (↑x-(↑cc+↑y))%4294967296)] 145)).grown hg (le_alloc hszr _) (fun k hk=>(hown.lt k hk).1)
     obtain ⟨hoH,hH⟩:=HH.out
     have hval:(IntKind.u64.wrap (↑x-(↑cc+↑y))%4294967296)=((x+4294967296-(cc+y):Nat):Int):=by have:=u64_sub_lo x (cc+y) (by omega) (by omega);rw [←this];rfl
     refine ⟨⟨k+1,1,_,by go_num,by omega,?_,by omega,by rw [hval] at hown';simpa [limbVals] using hown',by simp [hoH],lim_append.2 ⟨hlo,lim_cons.2 ⟨by omega,lim_nil⟩⟩,hH,hbf⟩,by simp [intOf];omega⟩
     refine int_val ?_;exact u64_sub_hi x (cc+y) (by omega) (by omega)
   ·clear hcl hcm hc1
    by_cases hxy:cc≤l.getD k default
    ·have HH:Hid (os.length=k∧lv (os++[(l.getD k default-cc)])+lv (m.take (k+1))=lv (l.take (k+1))+4294967296^(k+1)*0):=⟨ho,hst 0 (l.getD k default-cc) 0 (by rw [if_neg hlm]) (by omega)⟩
     generalize l.getD k default=x at *
     clear ho hlv hst
     go_wp2_with (at_builtin;go_must (refine wpList_app rfl _ _ 149 rfl w.heap.size el_limbs _ _ _ rfl (hown.alloc _) _ rfl 1 [.int .u32 (↑x-↑cc)] (SliceAt.lit _ _ 1 1 _ rfl (by decide)) rfl (one_int _ _) (by omega) (by decide) (le_alloc hszr _) ?_);intro v' w' hown' hg)
     have hbf:=(hbr.alloc hszr (Obj.cells #[Value.int IntKind.u32 (↑x-↑cc)] 145)).grown hg (le_alloc hszr _) (fun k hk=>(hown.lt k hk).1)
     obtain ⟨hoH,hH⟩:=HH.out
     have hval:(↑x-↑cc)=((x-cc:Nat):Int):=by omega
     refine ⟨⟨k+1,0,_,by go_num,by omega,?_,by omega,by rw [hval] at hown';simpa [limbVals] using hown',by simp [hoH],lim_append.2 ⟨hlo,lim_cons.2 ⟨by omega,lim_nil⟩⟩,hH,hbf⟩,by simp [intOf];omega⟩
     refine int_val ?_;omega
    ·have HH:Hid (os.length=k∧lv (os++[(l.getD k default+4294967296-cc)])+lv (m.take (k+1))=lv (l.take (k+1))+4294967296^(k+1)*1):=⟨ho,hst 0 (l.getD k default+4294967296-cc) 1 (by rw [if_neg hlm]) (by omega)⟩
     generalize l.getD k default=x at *
     clear ho hlv hst
     go_wp2_with (at_builtin;go_must (refine wpList_app rfl _ _ 149 rfl w.heap.size el_limbs _ _ _ rfl (hown.alloc _) _ rfl 1 [.int .u32 (IntKind.u64.wrap (↑x-↑cc)%4294967296)] (SliceAt.lit _ _ 1 1 _ rfl (by decide)) rfl (one_int _ _) (by omega) (by decide) (le_alloc hszr _) ?_);intro v' w' hown' hg)
     have hbf:=(hbr.alloc hszr (Obj.cells #[Value.int IntKind.u32 (IntKind.u64.wrap (↑x-↑cc)%4294967296)] 145)).grown hg (le_alloc hszr _) (fun k hk=>(hown.lt k hk).1)
     obtain ⟨hoH,hH⟩:=HH.out
     have hval:(IntKind.u64.wrap (↑x-↑cc)%4294967296)=((x+4294967296-cc:Nat):Int):=u64_sub_lo x cc (by omega) (by omega)
     refine ⟨⟨k+1,1,_,by go_num,by omega,?_,by omega,by rw [hval] at hown';simpa [limbVals] using hown',by simp [hoH],lim_append.2 ⟨hlo,lim_cons.2 ⟨by omega,lim_nil⟩⟩,hH,hbf⟩,by simp [intOf];omega⟩
     refine int_val ?_;exact u64_sub_hi x cc (by omega) (by omega)
  ·obtain rfl:k=l.length:=by omega
   rw [List.take_of_length_le (Nat.le_refl _),List.take_of_length_le (by omega)] at hlv
   have hz:cc=0∧lv os=lv l-lv m:=by
    have:=lv_lt hlo
    rw [ho] at this
    have hle:=HLE.out
    rcases Nat.lt_or_ge 0 cc with h|h
    ·obtain rfl:cc=1:=by omega
     have:lv l<4294967296^l.length:=by omega
     omega
    ·obtain rfl:cc=0:=by omega
     exact ⟨rfl,by omega⟩
   have H:Hid (lv os=lv l-lv m):=hz.2
   have hL:Limbs wr u5 os:=⟨SliceAt.owned hown,hlo⟩
   have HF:Hid (FreshV w.heap.size u5):=FreshV.owned hown
   clear hcl hcm hlv hown ho hz
   go_wp2_with (go_at_call 152;refine (ltrim_any _ _ _ hL).mono ?_;rintro e w' ⟨v',rfl,hl',hf',rfl⟩)
   go_ret
   exact ⟨_,_,rfl,hl',can_ltrim _,by rw [lv_ltrim];exact H.out,hf' _ HF.out,hbr⟩
end

section
open Go.RowKit

def RetBool (w:World) (b:Bool) (e:Ending) (w':World):Prop:=e=.returned (.bool b)∧Below w.heap.size w w'

set_option maxRecDepth 100000 in
set_option maxHeartbeats 1000000 in
theorem less_any (l m:List Nat) (v1 v2:Value) (w:World) (h1:Limbs w v1 l) (h2:Limbs w v2 m) (hcl:Can l) (hcm:Can m) :
  Calls Tryz.prog 169 #[v1,v2] w (RetBool w (decide (lv l<lv m))):=by
 have hll:=h1.2
 have hlm:=h2.2
 obtain ⟨a1,p1,rfl,hnc1,hcm1,hc1⟩:=h1.op
 obtain ⟨a2,p2,rfl,hnc2,hcm2,hc2⟩:=h2.op
 unfold maxLen at hcm1 hcm2
 clear h1 h2
 by_cases hne:l.length=m.length
 ·have hd:((l.length:Int) != (m.length:Int))=false:=by simp [hne]
  have HNE:=Lib.hid hne;clear hne
  go_enter Tryz.func169,Tryz.ntmps169
  go_wp2
  go_loopw [5] (fun q wr=>∃i:Int,q=.int .i64 i∧-1≤i∧i<l.length∧l.drop (i+1).toNat=m.drop (i+1).toNat∧Below w.heap.size w wr) (fun q _=>(intOf q+1).toNat)
  case atStart=>exact ⟨_,rfl,by omega,by omega,by rw [List.drop_of_length_le (by omega),List.drop_of_length_le (by have:=HNE.out;omega)],Below.refl _ _⟩
  case round =>
   obtain ⟨i,rfl,hi1,hi2,hdr,hb⟩:=hrel
   by_cases hi:0≤i
   ·obtain ⟨k,rfl⟩:=Int.eq_ofNat_of_zero_le hi
    have hk:k<l.length:=by omega
    have hkm:k<m.length:=by have:=HNE.out;omega
    obtain ⟨⟨b1,o1,rfl,hcc1⟩,hx1⟩:=hc1 k hk
    obtain ⟨⟨b2,o2,rfl,hcc2⟩,hx2⟩:=hc2 k hkm
    have hr1:=(ext_cell hb _ (by rw [hcc1];simp)).trans hcc1
    have hr2:=(ext_cell hb _ (by rw [hcc2];simp)).trans hcc2
    rw [show ((k:Int)+1).toNat=k+1 by omega] at hdr
    have hst:=drop_step k HNE.out hk hdr
    have hlt:=less_lt hll k HNE.out hk hdr
    have hgt:=less_lt hlm k HNE.out.symm hkm hdr.symm
    generalize l.getD k default=x at *
    generalize m.getD k default=y at *
    have H:Hid ((x=y→l.drop k=m.drop k)∧(x<y→lv l<lv m)∧(y<x→lv m<lv l)):=⟨hst,hlt,hgt⟩
    clear hst hlt hgt hcc1 hcc2 hc1 hc2 hdr
    by_cases hxy:x=y
    ·subst hxy
     go_wp2
     go_quiet (fail)
     go_wp2
     refine ⟨⟨_,rfl,by omega,by omega,?_,below_drewN hb _⟩,by simp [intOf]⟩
     rw [show ((k:Int)-1+1).toNat=k by omega]
     first|exact H.out.1 rfl|exact H.out.1 trivial
    ·have hb1:((x:Int) != (y:Int))=true:=by simp;omega
     go_wp2
     go_quiet (fail)
     go_wp2
     go_quiet (fail)
     go_wp2
     go_ret
     refine ⟨ret_bool ?_,below_drewN (below_drewN hb _) _⟩
     obtain ⟨_,h2,h3⟩:=H.out
     rcases Nat.lt_or_ge x y with h|h
     ·simp [h,h2 h]
     ·have:=h3 (by omega)
      simp;omega
   ·obtain rfl:i=-1:=by omega
    have hlm':l=m:=by simpa using hdr
    clear hc1 hc2
    go_wp2
    go_ret
    exact ⟨ret_bool (by first|rfl|(rw [hlm'];simp)),hb⟩
 ·have hd:((l.length:Int) != (m.length:Int))=true:=by simp;omega
  go_enter Tryz.func169,Tryz.ntmps169
  go_wp2
  go_ret
  refine ⟨ret_bool ?_,Below.refl _ _⟩
  rcases Nat.lt_or_ge l.length m.length with h|h
  ·simp [h,can_length_lt hll hcm h]
  ·have:=can_length_lt hlm hcl (show m.length<l.length by omega)
   simp;omega

theorem u32_or1 (x b:Nat) (hb:b≤1) (hx:x<4294967296):bits .or .u32 ((x:Int)*2%4294967296) (b:Int)=((x*2%4294967296+b:Nat):Int):=by
 have h:=u32_or_nat (x%2147483648*2) b (by omega) (by omega)
 rw [or_shift (x%2147483648) b 1 (by omega)] at h
 rw [show (x:Int)*2%4294967296=((x%2147483648*2^1:Nat):Int) by omega,h]
 congr 1
 omega

theorem twice_step (l o:List Nat) (k b b0 x:Nat) (hk:k<l.length) (ho:o.length=k) (hx:l.getD k default=x) (hxl:x<4294967296)
  (h:lv o+4294967296^k*b=2*lv (l.take k)+b0) :
  lv (o++[x*2%4294967296+b])+4294967296^(k+1)*(x/2147483648)=2*lv (l.take (k+1))+b0:=by
 rw [take_snoc l k hk,lv_snoc,lv_snoc,List.length_take,Nat.min_eq_left (by omega),hx,ho,Nat.pow_succ,Nat.mul_assoc,Nat.mul_add,Nat.mul_add]
 have e:4294967296^k*(x*2)=4294967296^k*(x*2%4294967296)+4294967296^k*(4294967296*(x/2147483648)):=by
  rw [←Nat.mul_add];congr 1;omega
 have e2:2*(4294967296^k*x)=4294967296^k*(x*2):=by rw [Nat.mul_left_comm,Nat.mul_comm 2 x]
 omega

set_option maxRecDepth 100000 in
set_option maxHeartbeats 1000000 in
theorem twice_any (l:List Nat) (v:Value) (b0:Nat) (w:World) (h1:Limbs w v l) (hb0:b0≤1) (hbig:l.length≤274877906944) :
  Calls Tryz.prog 168 #[v,.int .u32 (b0:Nat)] w (RetLimbs w (2*lv l+b0)):=by
 obtain ⟨a1,p1,rfl,hnc1,hcm1,hcl⟩:=h1.op
 unfold maxLen at hcm1
 have hmk:=make_cap el_limbs w .i64 .i64 (l.length+1) (by omega) (by decide)
 rw [show ((l.length+1:Nat):Int)=(l.length:Int)+1 by omega] at hmk
 have hown0:=World.ownsRow_made (base:=w.heap.size) (e:=145) (size:=1) w (madeCells #[Value.int IntKind.u32 0] (l.length+1)) (l.length+1) (Nat.le_refl _) (by unfold maxLen;omega) (by simp [size_madeCells])
 have hbm:=(Below.refl w.heap.size w).alloc (Nat.le_refl _) (.cells (madeCells #[Value.int IntKind.u32 0] (l.length+1)) 145)
 clear h1
 go_enter Tryz.func168,Tryz.ntmps168
 go_wp2
 go_loopw [1,5,14] (fun c o q wr=>∃(k cc:Nat) (os:List Nat),q=.int .i64 k∧k≤l.length∧c=.int .u32 cc∧cc≤1∧wr.ownsRow w.heap.size 145 1 o k (limbVals os)∧os.length=k∧Lim os∧lv os+4294967296^k*cc=2*lv (l.take k)+b0∧Below w.heap.size w wr) (fun _ _ q _=>l.length-(intOf q).toNat)
 case atStart=>exact ⟨0,b0,[],rfl,Nat.zero_le _,rfl,hb0,hown0,rfl,lim_nil,by simp [lv_nil],hbm⟩
 case round =>
  obtain ⟨k,cc,os,rfl,hk,rfl,hcc,hown,ho,hlo,hlv,hbr⟩:=hrel
  have hszr:w.heap.size≤wr.heap.size:=hbr.size
  clear hmk hown0 hbm
  by_cases hlt:k<l.length
  ·obtain ⟨⟨b1,o1,rfl,hc1⟩,hx1⟩:=hcl k hlt
   have hc1r:=(ext_cell hbr _ (by rw [hc1];simp)).trans hc1
   have hst:=fun x hx hxl=>twice_step l os k cc b0 x hlt ho hx hxl hlv
   have HH:Hid (os.length=k∧_):=⟨ho,hst _ rfl hx1⟩
   generalize l.getD k default=x at *
   have hor:=u32_or1 x cc hcc hx1
   clear ho hlv hst hcl hc1
   go_wp2_with (at_builtin;go_must (refine wpList_app rfl _ _ 149 rfl w.heap.size el_limbs _ _ _ rfl (hown.alloc _) _ rfl 1 [.int .u32 ((x*2%4294967296+cc:Nat):Int)] (SliceAt.lit _ _ 1 1 _ rfl (by decide)) rfl (one_int _ _) (by omega) (by decide) (le_alloc hszr _) ?_);intro v' w' hown' hg)
   have hbf:=(hbr.alloc hszr (Obj.cells #[Value.int IntKind.u32 ((x*2%4294967296+cc:Nat):Int)] 145)).grown hg (le_alloc hszr _) (fun k hk=>(hown.lt k hk).1)
   obtain ⟨hoH,hH⟩:=HH.out
   exact ⟨⟨k+1,x/2147483648,_,by go_num,by omega,by go_num,by omega,by simpa [limbVals] using hown',by simp [hoH],lim_append.2 ⟨hlo,lim_cons.2 ⟨by omega,lim_nil⟩⟩,hH,hbf⟩,by simp [intOf];omega⟩
  ·obtain rfl:k=l.length:=by omega
   rw [List.take_of_length_le (Nat.le_refl _)] at hlv
   have HH:Hid (lv (os++[cc])=2*lv l+b0):=by rw [Hid,lv_snoc,ho,hlv]
   clear hcl hlv ho
   go_wp2_with (first
    | (at_builtin;go_must (refine wpList_app rfl _ _ 149 rfl w.heap.size el_limbs _ _ _ rfl (hown.alloc _) _ rfl 1 [.int .u32 (cc:Int)] (SliceAt.lit _ _ 1 1 _ rfl (by decide)) rfl (one_int _ _) (by omega) (by decide) (le_alloc hszr _) ?_);intro v' w' hown' hg)
    | (go_at_call 152;go_must (refine (ltrim_any (os++[cc]) _ _ ⟨SliceAt.owned (by simpa [limbVals] using hown'),lim_append.2 ⟨hlo,lim_cons.2 ⟨by omega,lim_nil⟩⟩⟩).mono ?_);rintro e w'' ⟨v'',rfl,hl',hf',rfl⟩))
   have hbf:=(hbr.alloc hszr (Obj.cells #[Value.int IntKind.u32 (cc:Int)] 145)).grown hg (le_alloc hszr _) (fun k hk=>(hown.lt k hk).1)
   go_ret
   exact ⟨_,_,rfl,hl',can_ltrim _,by rw [lv_ltrim];exact HH.out,hf' _ (FreshV.owned hown'),hbf⟩
end

section
open Go.RowKit

def RetBy (w:World) (q r:Nat) (e:Ending) (w':World):Prop:=∃v l,e=.returned (.tuple #[v,.int .u32 (r:Nat)])∧Limbs w' v l∧Can l∧lv l=q∧FreshV w.heap.size v∧Below w.heap.size w w'

theorem u64_or32 (m b:Nat) (hb:b<4294967296) (hm:m<4294967296):bits .or .u64 ((m:Int)*4294967296) (b:Int)=((m*4294967296+b:Nat):Int):=by
 have h:=u64_or_nat (m*4294967296) b (by omega) (by omega)
 rw [or_shift m b 32 (by omega)] at h
 have e:(m:Int)*4294967296=((m*4294967296:Nat):Int):=by rw [Int.natCast_mul];rfl
 rw [e,h]
theorem by_step (l q:List Nat) (j d rest x N:Nat) (hj:j<l.length) (hx:l.getD j default=x) (hN:N=rest*4294967296+x) (h:lv (l.drop (j+1))=d*lv q+rest) :
  lv (l.drop j)=d*lv (N/d::q)+N%d:=by
 rw [List.drop_eq_getElem_cons hj,lv_cons,lv_cons,h]
 have e4:d*(N/d+4294967296*lv q)=d*(N/d)+d*(4294967296*lv q):=Nat.mul_add _ _ _
 have e:l[j]=x:=by rw [←hx,List.getD_eq_getElem?_getD,List.getElem?_eq_getElem hj];rfl
 have e2:=Nat.div_add_mod N d
 have e3:d*(4294967296*lv q)=4294967296*(d*lv q):=Nat.mul_left_comm _ _ _
 rw [e]
 omega
theorem by_digit (N d rest x:Nat) (hN:N=rest*4294967296+x) (hr:rest<d) (hx:x<4294967296):N/d<4294967296:=by
 rw [Nat.div_lt_iff_lt_mul (by omega),hN]
 have:=Nat.mul_le_mul_right 4294967296 (show rest+1≤d by omega)
 rw [Nat.mul_comm 4294967296 d]
 omega

set_option maxRecDepth 100000 in
set_option maxHeartbeats 1000000 in
theorem by_any (l:List Nat) (v:Value) (d:Nat) (w:World) (h1:Limbs w v l) (hd0:0<d) (hd:d<4294967296) (hbig:l.length≤274877906944) :
  Calls Tryz.prog 139 #[v,.int .u32 (d:Nat)] w (RetBy w (lv l/d) (lv l%d)):=by
 obtain ⟨a1,p1,rfl,hnc1,hcm1,hcl⟩:=h1.op
 unfold maxLen at hcm1
 obtain ⟨w0,hmk,hw0⟩:=make_full el_limbs w .i64 .i64 l.length (by omega) (by decide)
 have hblk0:=Blk.newA w 145 (madeCells #[Value.int IntKind.u32 0] l.length)
 rw [toList_madeCells_one] at hblk0
 have hbm:=(Below.refl w.heap.size w).alloc (Nat.le_refl _) (.cells (madeCells #[Value.int IntKind.u32 0] l.length) 145)
 have hw0':w0=w.alloc (.cells (madeCells #[Value.int IntKind.u32 0] l.length) 145):=by rw [hw0];simp [Value.cells]
 rw [←hw0'] at hblk0 hbm
 clear h1 hw0 hw0'
 go_enter Tryz.func139,Tryz.ntmps139
 go_wp2
 go_loopw [7,8] (fun r i wr=>∃(j rest:Nat) (cs:List Value) (q:List Nat),i=.int .i64 ((j:Int)-1)∧j+q.length=l.length∧r=.int .u64 rest∧rest<d∧Blk wr w.heap.size 145 cs∧cs.length=l.length∧cs.drop j=limbVals q∧Lim q∧lv (l.drop j)=d*lv q+rest∧Below w.heap.size w wr) (fun _ i _=>(intOf i+1).toNat)
 case atStart=>exact ⟨l.length,0,_,[],rfl,by simp,rfl,hd0,hblk0,by simp,by simp [limbVals],lim_nil,by simp [lv_nil],hbm⟩
 case round =>
  obtain ⟨j,rest,cs,q,rfl,hj,rfl,hrd,hblk,hcs,hdr,hlq,hlv,hbr⟩:=hrel
  clear hmk hblk0 hbm
  by_cases h0:0<j
  ·obtain ⟨m,rfl⟩:∃m,j=m+1:=⟨j-1,by omega⟩
   rw [show ((m+1:Nat):Int)-1=(m:Int) by omega]
   have hml:m<l.length:=by omega
   obtain ⟨⟨b1,o1,rfl,hc1⟩,hx1⟩:=hcl m hml
   have hc1r:=(ext_cell hbr _ (by rw [hc1];simp)).trans hc1
   have hst:=fun x N hx hN=>by_step l q m d rest x N hml hx hN hlv
   have hdg:=fun N x hN hx=>by_digit N d rest x hN hrd hx
   have HST:=hst _ _ rfl rfl
   generalize l.getD m default=x at *
   have hor:=u64_or32 rest x hx1 (by omega)
   have hdig:=hdg _ x rfl hx1
   have hmod:(rest*4294967296+x)%d<d:=Nat.mod_lt _ hd0
   have hNb:rest*4294967296+x≤18446744073709551615:=by omega
   generalize rest*4294967296+x=N at *
   have hcell:wr.cell? ⟨w.heap.size,m,none⟩=some (cs[m]'(by omega)):=hblk.cell m _
   have hfr:wr.frozen? ⟨w.heap.size,m,none⟩=false:=hblk.frozen m
   generalize cs[m]'(by omega)=cx at hcell
   have hdi:((N:Int)/(d:Int))<4294967296:=by rw [←Int.natCast_ediv];omega
   have hdi0:0≤((N:Int)/(d:Int)):=Int.ediv_nonneg (by omega) (by omega)
   have H:Hid (m+1+q.length=l.length∧Blk wr w.heap.size 145 cs∧cs.length=l.length∧cs.drop (m+1)=limbVals q∧lv (l.drop m)=d*lv (N/d::q)+N%d∧N/d<4294967296∧N%d<d):=⟨hj,hblk,hcs,hdr,HST,hdig,hmod⟩
   clear hj hblk hcs hdr HST hdig hmod hlv hst hdg hcl hc1
   go_wp2
   obtain ⟨hj,hblk,hcs,hdr,hst,hdig,hmod⟩:=H.out
   refine ⟨⟨m,N%d,_,N/d::q,rfl,by simp;omega,by rw [Int.natCast_emod],hmod,hblk.set _ _,by simpa using hcs,?_,lim_cons.2 ⟨hdig,hlq⟩,hst,hbr.setCell (Nat.le_refl _) _⟩,by simp [intOf]⟩
   rw [List.drop_eq_getElem_cons (by simp;omega)]
   simp only [List.getElem_set_self,limbVals,List.map_cons]
   rw [List.drop_set_of_lt (by omega),hdr,←Int.natCast_ediv];rfl
  ·obtain rfl:j=0:=by omega
   rw [List.drop_zero] at hdr hlv
   have H:Hid (lv l=d*lv q+rest):=hlv
   have hL:Limbs wr (.slice (some ⟨w.heap.size,0,none⟩) l.length l.length) q:=by
    refine ⟨⟨l.length,l.length,by unfold maxLen;omega,Nat.le_refl _,by unfold maxLen;omega,by rw [←hdr,hcs];omega,.inr ⟨_,0,rfl,fun i hi=>?_⟩⟩,hlq⟩
    rw [Nat.zero_add,hblk.cell? i,hdr,List.getElem?_eq_getElem hi]
   clear hcl hlv hblk hcs hdr hj
   go_wp2_with (go_at_call 152;refine (ltrim_any _ _ _ hL).mono ?_;rintro e w' ⟨v',rfl,hl',hf',rfl⟩)
   go_ret2
   have e1:lv l/d=lv q:=by rw [H.out,Nat.mul_add_div hd0,Nat.div_eq_of_lt hrd];rfl
   have e2:lv l%d=rest:=by rw [H.out,Nat.mul_add_mod,Nat.mod_eq_of_lt hrd]
   exact ⟨_,_,by rw [e2];rfl,hl',can_ltrim _,by rw [lv_ltrim,e1],hf' _ (FreshV.at (Nat.le_refl _)),hbr⟩
end
end Go.Proofs.YthehegidpamldaaGreatDoor
