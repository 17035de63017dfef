/- Joined: RefP RefA RefB RefC RefD RefE RefF RefG RefI. Conditions: as said at each part. -/
import Derived.Test.YtmcgeppgfjlclaaGreatDoorZNatOne
import Derived.Test.YtmcgeppgfjlclaaGreatDoorZNatTwo
import Derived.IntWalk
import Derived.Deep.QuietTactic
import Derived.BigQuiet
import Derived.BigRegion
import Derived.Test.YtmcgeppgfjlclaaGreatDoorZB09
import Derived.Test.YtmcgeppgfjlclaaGreatDoorZAmO
import Derived.Laws.StructEq
import Derived.Laws.Strings
import Derived.Test.YtmcgeppgfjlclaaGreatDoorZB13
import Derived.Test.YtmcgeppgfjlclaaGreatDoorZB10
set_option linter.unusedVariables false
set_option linter.unusedSimpArgs false
namespace Go.Proofs.YtmcgeppgfjlclaaGreatDoor
section
theorem drop_toList (s:ByteArray) (i:Nat):(s.extract i s.size).data.toList=s.data.toList.drop i:=by
 rw [ByteArray.data_extract,Array.toList_extract,List.extract_eq_take_drop]
 exact List.take_of_length_le (by rw [List.length_drop,bytes_size];omega)
theorem drop_succ (s:ByteArray) (i:Nat) (h:i<s.size):s.data.toList.drop i=s[i]::s.data.toList.drop (i+1):=by
 rw [List.drop_eq_getElem_cons (by rw [bytes_size];exact h),bytes_get]
theorem take_succ (s:ByteArray) (i:Nat) (h:i<s.size):s.data.toList.take (i+1)=s.data.toList.take i++[s[i]]:=by
 rw [List.take_add_one,List.getElem?_eq_getElem (by rw [bytes_size];exact h),bytes_get];rfl
theorem nv_drop_zero (s:ByteArray) (i:Nat) (h:i<s.size) (h0:s[i].toNat=0):nv (s.data.toList.drop (i+1))=nv (s.data.toList.drop i):=by
 rw [drop_succ s i h,nv_cons,h0,Nat.zero_mul,Nat.zero_add]
theorem extract_head (s:ByteArray) (i:Nat) (h:i<s.size):∃h',(s.extract i s.size)[0]'h'=s[i]:=by
 have hs:(s.extract i s.size).size=s.size-i:=by rw [ByteArray.size_extract];omega
 refine ⟨by omega,?_⟩
 rw [bytes_get,bytes_get]
 simp only [drop_toList]
 rw [List.getElem_drop];rfl
theorem extract_ns (s:ByteArray) (i:Nat) (h:i<s.size) (h0:s[i].toNat≠0) (hv:nv (s.data.toList.drop i)=vn s):s.extract i s.size=ns (vn s):=by
 obtain ⟨h',e⟩:=extract_head s i h
 have:=ns_of_head (s.extract i s.size) h' (by rw [e];exact h0)
 rw [this];unfold vn at *;rw [drop_toList,hv]
theorem extract_ns0 (s:ByteArray) (i:Nat) (h:i=s.size) (hv:nv (s.data.toList.drop i)=vn s):s.extract i s.size=ns (vn s):=by
 have:=ns_of_empty (s.extract i s.size) (by rw [ByteArray.size_extract];omega)
 rw [this];unfold vn at *;rw [drop_toList,hv]

theorem digit_eq (s:ByteArray) (i:Nat) (h:i<s.size) (h':s.size-1-i<s.size):(s[s.size-1-i]'h').toNat=vn s/256^i%256:=by
 obtain ⟨k,hk⟩:∃k,k=s.size-1-i:=⟨_,rfl⟩
 have e:s.data.toList=(s.data.toList.take k++[s[k]'(by omega)])++s.data.toList.drop (k+1):=by
  rw [←take_succ s k (by omega),List.take_append_drop]
 have hv:vn s=nv ((s.data.toList.take k++[s[k]'(by omega)])++s.data.toList.drop (k+1)):=congrArg nv e
 have hl:(s.data.toList.drop (k+1)).length=i:=by rw [List.length_drop,bytes_size];omega
 have hlt:=nv_lt (s.data.toList.drop (k+1))
 rw [hl] at hlt
 rw [nv_append,hl,nv_snoc] at hv
 have h3:vn s/256^i=nv (s.data.toList.take k)*256+(s[k]'(by omega)).toNat:=by
  rw [hv,Nat.add_comm,Nat.add_mul_div_right _ _ (Nat.pow_pos (by omega)),Nat.div_eq_of_lt hlt,Nat.zero_add]
 have:=(s[k]'(by omega)).toNat_lt
 rw [h3,Nat.mul_add_mod_self_right,Nat.mod_eq_of_lt this]
 subst hk;rfl
theorem digit_zero (s:ByteArray) (i:Nat) (h:s.size≤i):vn s/256^i%256=0:=by
 rw [Nat.div_eq_of_lt (Nat.lt_of_lt_of_le (vn_lt s) (Nat.pow_le_pow_right (by omega) h))]

def lo8:List Nat→Nat
 | []=>0
 | d::l=>d+256*lo8 l
theorem lo8_append (l m:List Nat):lo8 (l++m)=lo8 l+256^l.length*lo8 m:=by
 induction l with
 | nil=>simp [lo8]
 | cons d l ih=>simp only [List.cons_append,lo8,ih,List.length_cons,Nat.pow_succ];rw [Nat.mul_add,←Nat.mul_assoc,Nat.mul_comm 256 (256^l.length)];omega
theorem lo8_snoc (l:List Nat) (d:Nat):lo8 (l++[d])=lo8 l+256^l.length*d:=by rw [lo8_append];simp [lo8]
theorem nv_rev (l:List Nat) (h:∀d∈l,d<256):nv (l.reverse.map UInt8.ofNat)=lo8 l:=by
 induction l with
 | nil=>rfl
 | cons d l ih =>
  rw [List.reverse_cons,List.map_append,List.map_cons,List.map_nil,nv_snoc,ih (fun x hx=>h x (List.mem_cons_of_mem _ hx)),lo8]
  have:=h d (List.mem_cons_self ..)
  simp;omega
end

section
open Go.RowKit
open Go.IntWalk (wrap64_in)

set_option maxHeartbeats 400000 in
theorem rtrim_any (s:ByteArray) (w:World) (hs:s.size≤maxLen) :
  Calls Tryz.prog 115 #[.string s] w fun e w'=>e=.returned (.string (ns (vn s)))∧w=w':=by
 unfold maxLen at hs
 go_enter Tryz.func115,Tryz.ntmps115
 go_wp2
 go_loop [3] (fun v=>∃i:Nat,v=.int .i64 i∧i≤s.size∧nv (s.data.toList.drop i)=vn s) (fun v=>s.size-(intOf v).toNat)
 case atStart=>exact ⟨0,rfl,Nat.zero_le _,rfl⟩
 case round =>
  obtain ⟨i,rfl,hi,hv⟩:=hrel
  have HV:=Lib.hid hv;clear hv
  by_cases h0:i<s.size
  ·go_wp2
   ·have h1:(↑s[i].toNat==(0:Int))=true:=by assumption
    exact ⟨⟨i+1,rfl,by omega,by rw [nv_drop_zero s i h0 (by simpa using h1),HV.out]⟩,by simp [intOf];omega⟩
   ·have h1:(↑s[i].toNat==(0:Int))=false:=by assumption
    go_ret
    exact ⟨ret_str (extract_ns s i h0 (by simpa using h1) HV.out),rfl⟩
  ·go_wp2
   go_ret
   exact ⟨ret_str (extract_ns0 s i (by omega) HV.out),rfl⟩

set_option maxHeartbeats 400000 in
theorem digit_any (s:ByteArray) (i:Nat) (w:World) (hs:s.size≤maxLen) (hi:i≤9223372036854775807) :
  Calls Tryz.prog 93 #[.string s,.int .i64 i] w fun e w'=>e=.returned (.int .i64 ((vn s/256^i%256:Nat)))∧w=w':=by
 unfold maxLen at hs
 by_cases h:i<s.size
 ·have e:=digit_eq s i h (by omega)
  have HE:=Lib.hid e;clear e
  go_enter Tryz.func93,Tryz.ntmps93
  go_wp2
  go_ret
  exact ⟨ret_int (by rw [←HE.out,wrap64_in _ (by have:=(s[s.size-1-i]'(by omega)).toNat_lt;omega)]),rfl⟩
 ·have e:=digit_zero s i (by omega)
  have HE:=Lib.hid e;clear e
  go_enter Tryz.func93,Tryz.ntmps93
  go_wp2
  go_ret
  exact ⟨ret_int (by rw [HE.out];rfl),rfl⟩

end

section
open Go.RowKit
open Go.IntWalk (wrap64_in)

set_option maxRecDepth 100000 in
set_option maxHeartbeats 1000000 in
theorem rof_any (n:Int) (w:World) (hn:n≤9223372036854775807) (h0:-9223372036854775808≤n) :
  Calls Tryz.prog 72 #[.int .i64 n] w fun e w'=>e=.returned (.string (ns n.toNat))∧Below w.heap.size w w':=by
 go_enter Tryz.func72,Tryz.ntmps72
 go_wp2
 go_loopw [0,3] (fun m v wr=>∃(k:Int) (t:List UInt8),m=.int .i64 k∧k≤9223372036854775807∧-9223372036854775808≤k∧v=.string ⟨t.toArray⟩∧nb n.toNat=nb k.toNat++t∧t.length+(nb k.toNat).length≤8∧Below w.heap.size w wr) (fun m _ _=>(intOf m).toNat)
 case atStart=>exact ⟨n,[],rfl,hn,h0,rfl,by simp,by have:=@nb_length_lt n.toNat 8 (by omega);simpa using this,Below.refl _ _⟩
 case round =>
  obtain ⟨k,t,rfl,hk,hk0,rfl,hnb,hl,hb⟩:=hrel
  by_cases hp:0<k
  ·obtain ⟨q,rfl⟩:=Int.eq_ofNat_of_zero_le (Int.le_of_lt hp)
   simp only [Int.toNat_natCast] at hnb hl
   have H:Hid (nb n.toNat=nb q++t):=hnb
   have hl2:(nb q).length=(nb (q/256)).length+1:=by rw [nb_pos q (by omega)];simp
   clear hnb
   have hcv:=fun w'=>conv_bytes (P:=Tryz.prog) (l:=[UInt8.ofNat (q%256)]) (SliceAt.lit w' 5 1 1 #[.int .u8 ((UInt8.ofNat (q%256)).toNat:Int)] rfl (by decide)) 96 5 48 Tryz.underlying96 Tryz.underlying5 Tryz.underlying48
   have ec:((UInt8.ofNat (q%256)).toNat:Int)=(q:Int)%256:=by simp
   simp only [ec] at hcv
   clear ec
   generalize hx:UInt8.ofNat (q%256)=x at hcv
   have HX:=Lib.hid hx;clear hx
   have hlx:(⟨#[x]⟩:ByteArray).size=1:=rfl
   have hlt:(⟨t.toArray⟩:ByteArray).size=t.length:=List.size_toArray
   go_wp2
   refine ⟨⟨(q:Int)/256,x::t,by go_num,by omega,by omega,by apply congrArg;apply bytes_ext;simp,?_,?_,hb.alloc hb.size _⟩,by simp [intOf];omega⟩
   ·rw [H.out,nb_pos q (by omega),HX.out];simp [show ((q:Int)/256).toNat=q/256 by omega]
   ·rw [show ((q:Int)/256).toNat=q/256 by omega];simp;omega
  ·have e0:k.toNat=0:=by omega
   have H:Hid (nb n.toNat=t):=by rw [hnb,e0,nb_zero];rfl
   clear hnb hl
   go_wp2
   go_ret
   exact ⟨ret_str (by unfold ns;rw [H.out]),hb⟩

end

section
open Go.RowKit
open Go.IntWalk (wrap64_in)

theorem el_ints:ElemT Tryz.prog 22 3 1 8 (.int .i64 0):=ElemT.mk' Tryz.underlying22 (by kernel_rfl) rfl (by decide)
def intVals (l:List Nat):List Value:=l.map fun d=>Value.int .i64 (d:Nat)
theorem SliceAt.blk {w:World} {b:Nat} {e:TypeId} {cs:List Value} (h:Blk w b e cs) {n:Nat} (hn:cs.length=n) (hm:n≤maxLen):SliceAt w (.slice (some ⟨b,0,none⟩) n n) 1 cs :=
 ⟨n,n,hm,Nat.le_refl _,hm,by omega,.inr ⟨b,0,rfl,fun i hi=>by rw [Nat.zero_add,h.cell i hi]⟩⟩

set_option maxRecDepth 100000 in
set_option maxHeartbeats 1000000 in
theorem pack_any (l:List Nat) (v:Value) (w:World) (h:SliceAt w v 1 (intVals l)) (hl:∀d∈l,d<256) (hbig:l.length≤1099511627776) :
  Calls Tryz.prog 94 #[v] w (RetNat w (lo8 l)):=by
 obtain ⟨a1,p1,rfl,hnc1,hcm1,hcl⟩:=SliceAt.open1 h
 unfold maxLen at hcm1
 obtain ⟨w0,hmk,hw0⟩:=make_full el_bytes w .i64 .i64 l.length (by omega) (by decide)
 have hblk0:=Blk.newA w 5 (madeCells #[Value.int IntKind.u8 0] l.length)
 rw [toList_madeCells_one] at hblk0
 have hbm:=(Below.refl w.heap.size w).alloc (Nat.le_refl _) (.cells (madeCells #[Value.int IntKind.u8 0] l.length) 5)
 have hw0':w0=w.alloc (.cells (madeCells #[Value.int IntKind.u8 0] l.length) 5):=by rw [hw0];simp [Value.cells]
 rw [←hw0'] at hblk0 hbm
 clear h hw0 hw0'
 go_enter Tryz.func94,Tryz.ntmps94
 go_wp2
 go_loopw [4] (fun q wr=>∃(k:Nat) (cs:List Value),q=.int .i64 k∧k≤l.length∧Blk wr w.heap.size 5 cs∧cs.length=l.length∧cs.drop (l.length-k)=byteVals ((l.take k).reverse.map UInt8.ofNat)∧Below w.heap.size w wr) (fun q _=>l.length-(intOf q).toNat)
 case atStart=>exact ⟨0,_,rfl,Nat.zero_le _,hblk0,by simp,by simp [byteVals],hbm⟩
 case round =>
  obtain ⟨k,cs,rfl,hk,hblk,hcs,hdr,hbr⟩:=hrel
  clear hmk hblk0 hbm
  by_cases h0:k<l.length
  ·obtain ⟨b1,o1,rfl,hc1⟩:=hcl k h0
   have hc1r:=(ext_cell hbr _ (by rw [hc1];simp)).trans hc1
   have hx:l.getD k default<256:=hl _ (by rw [List.getD_eq_getElem?_getD,List.getElem?_eq_getElem h0];exact List.getElem_mem h0)
   have htk:(l.take (k+1)).reverse.map UInt8.ofNat=UInt8.ofNat (l.getD k default)::(l.take k).reverse.map UInt8.ofNat:=by
    rw [List.take_add_one,List.getElem?_eq_getElem h0,List.getD_eq_getElem?_getD,List.getElem?_eq_getElem h0,Option.toList_some,List.reverse_append,List.reverse_singleton,List.singleton_append,List.map_cons];rfl
   generalize l.getD k default=x at *
   have hcell:wr.cell? ⟨w.heap.size,l.length-1-k,none⟩=some (cs[l.length-1-k]'(by omega)):=hblk.cell _ _
   have hfr:wr.frozen? ⟨w.heap.size,l.length-1-k,none⟩=false:=hblk.frozen _
   generalize cs[l.length-1-k]'(by omega)=cx at hcell
   have H:Hid (Blk wr w.heap.size 5 cs∧cs.length=l.length∧cs.drop (l.length-k)=byteVals ((l.take k).reverse.map UInt8.ofNat)∧(l.take (k+1)).reverse.map UInt8.ofNat=UInt8.ofNat x::(l.take k).reverse.map UInt8.ofNat):=⟨hblk,hcs,hdr,htk⟩
   clear hblk hcs hdr htk hcl hc1 hl
   go_wp2
   obtain ⟨hblk,hcs,hdr,htk⟩:=H.out
   refine ⟨⟨k+1,_,rfl,by omega,hblk.set _ _,by simpa using hcs,?_,hbr.setCell (Nat.le_refl _) _⟩,by simp [intOf];omega⟩
   rw [show l.length-(k+1)=l.length-1-k by omega,List.drop_eq_getElem_cons (by simp;omega),htk]
   simp only [List.getElem_set_self,byteVals,List.map_cons]
   rw [show l.length-1-k+1=l.length-k by omega,List.drop_set_of_lt (by omega),hdr]
   rw [show (UInt8.ofNat x).toNat=x by simp;omega]
   rfl
  ·obtain rfl:k=l.length:=by omega
   have hv:=nv_rev l hl
   have hsl:SliceAt wr (.slice (some ⟨w.heap.size,0,none⟩) l.length l.length) 1 (byteVals (l.reverse.map UInt8.ofNat)):=by
    have e:cs=byteVals (l.reverse.map UInt8.ofNat):=by simpa using hdr
    rw [←e];exact SliceAt.blk hblk hcs (by unfold maxLen;omega)
   have hconv:=conv_bytes (P:=Tryz.prog) hsl 96 5 48 Tryz.underlying96 Tryz.underlying5 Tryz.underlying48
   have hsz:(⟨(l.reverse.map UInt8.ofNat).toArray⟩:ByteArray).size≤maxLen:=by
    show (l.reverse.map UInt8.ofNat).toArray.size≤maxLen
    rw [List.size_toArray];simp;unfold maxLen;omega
   have hT:=fun w=>rtrim_any _ w hsz
   have HV:Hid (vn ⟨(l.reverse.map UInt8.ofNat).toArray⟩=lo8 l):=hv
   rw [HV.out] at hT
   have HT:=Lib.hid hT
   clear hT hsl hdr hblk hcl hv hl hsz HV
   generalize (⟨(l.reverse.map UInt8.ofNat).toArray⟩:ByteArray)=S at *
   go_wp2_with (go_at_call 115;refine (HT.out _).mono ?_;rintro e w' ⟨rfl,rfl⟩)
   go_ret
   exact ⟨rfl,hbr⟩

theorem mod_step (A i:Nat):A%256^(i+1)=A%256^i+256^i*(A/256^i%256):=by rw [Nat.pow_succ,Nat.mod_mul]
theorem radd_step (A B i c:Nat) (ds:List Nat) (hl:ds.length=i) (h:lo8 ds+256^i*c=A%256^i+B%256^i) (N:Nat) (hN:N=c+A/256^i%256+B/256^i%256) :
  lo8 (ds++[N%256])+256^(i+1)*(N/256)=A%256^(i+1)+B%256^(i+1):=by
 rw [mod_step A,mod_step B,lo8_snoc,hl,Nat.pow_succ]
 have e:256^i*N=256^i*(N%256)+256^i*256*(N/256):=by
  rw [Nat.mul_assoc,←Nat.mul_add,Nat.mod_add_div]
 have e2:256^i*N=256^i*c+256^i*(A/256^i%256)+256^i*(B/256^i%256):=by rw [hN,Nat.mul_add,Nat.mul_add]
 omega

theorem take_set_snoc {cs:List Value} {i:Nat} {ds:List Nat} (hi:i<cs.length) (h:cs.take i=intVals ds) (hl:ds.length=i) (d:Nat) (u:Value) (hu:u=.int .i64 (d:Nat)) :
  (cs.set i u).take (i+1)=intVals (ds++[d]):=by
 rw [List.take_add_one,List.take_set_of_le (Nat.le_refl _),h]
 rw [List.getElem?_set_self hi,hu]
 simp [intVals]

set_option maxRecDepth 100000 in
set_option maxHeartbeats 2000000 in
theorem radd_any (a b:ByteArray) (w:World) (ha:a.size≤274877906944) (hb:b.size≤274877906944) :
  Calls Tryz.prog 73 #[.string a,.string b] w (RetNat w (vn a+vn b)):=by
 obtain ⟨n,hn⟩:∃n,n=max a.size b.size:=⟨_,rfl⟩
 have hna:vn a<256^n:=Nat.lt_of_lt_of_le (vn_lt a) (Nat.pow_le_pow_right (by omega) (by omega))
 have hnb:vn b<256^n:=Nat.lt_of_lt_of_le (vn_lt b) (Nat.pow_le_pow_right (by omega) (by omega))
 have hn':n≤274877906944:=by omega
 obtain ⟨w0,hmk,hw0⟩:=make_full el_ints w .i64 .i64 (n+1) (by omega) (by decide)
 have hblk0:=Blk.newA w 3 (madeCells #[Value.int IntKind.i64 0] (n+1))
 rw [toList_madeCells_one] at hblk0
 have hbm:=(Below.refl w.heap.size w).alloc (Nat.le_refl _) (.cells (madeCells #[Value.int IntKind.i64 0] (n+1)) 3)
 have hw0':w0=w.alloc (.cells (madeCells #[Value.int IntKind.i64 0] (n+1)) 3):=by rw [hw0];simp [Value.cells]
 rw [←hw0'] at hblk0 hbm
 clear hw0 hw0'
 have HD1:=fun i h w=>digit_any a i w (by unfold maxLen;omega) h
 have HD2:=fun i h w=>digit_any b i w (by unfold maxLen;omega) h
 have D1:=Lib.hid HD1
 have D2:=Lib.hid HD2
 clear HD1 HD2
 have HB:Hid (vn a<256^n∧vn b<256^n):=⟨hna,hnb⟩
 clear hna hnb
 have hlen:((n+1:Nat):Int)=(n:Int)+1:=by omega
 rw [hlen] at hmk
 by_cases hab:a.size<b.size
 ·obtain rfl:n=b.size:=by omega
  clear hn
  go_enter Tryz.func73,Tryz.ntmps73
  go_wp2
  go_loopw [7,8] (fun c q wr=>∃(k cc:Nat) (cs:List Value) (ds:List Nat),q=.int .i64 k∧k≤b.size+1∧c=.int .i64 cc∧cc≤1∧Blk wr w.heap.size 3 cs∧cs.length=b.size+1∧cs.take k=intVals ds∧ds.length=k∧(∀d∈ds,d<256)∧lo8 ds+256^k*cc=vn a%256^k+vn b%256^k∧Below w.heap.size w wr) (fun _ q _=>b.size+1-(intOf q).toNat)
  case atStart=>exact ⟨0,0,_,[],rfl,Nat.zero_le _,rfl,by omega,hblk0,by simp,by simp [intVals],rfl,by simp,by simp [lo8,Nat.mod_one],hbm⟩
  case round =>
   obtain ⟨k,cc,cs,ds,rfl,hk,rfl,hcc,hblk,hcs,htk,hdl,hds,hlo,hbr⟩:=hrel
   clear hmk hblk0 hbm
   by_cases h0:k≤b.size
   ·have d1:=D1.out k (by omega)
    have d2:=D2.out k (by omega)
    have hst:=radd_step (vn a) (vn b) k cc ds hdl hlo
    have hx:vn a/256^k%256<256:=Nat.mod_lt _ (by omega)
    have hy:vn b/256^k%256<256:=Nat.mod_lt _ (by omega)
    generalize vn a/256^k%256=x at *
    generalize vn b/256^k%256=y at *
    have hst2:=hst _ rfl
    have hcell:wr.cell? ⟨w.heap.size,k,none⟩=some (cs[k]'(by omega)):=hblk.cell _ _
    have hfr:wr.frozen? ⟨w.heap.size,k,none⟩=false:=hblk.frozen _
    generalize cs[k]'(by omega)=cx at hcell
    have H:Hid (Blk wr w.heap.size 3 cs∧cs.length=b.size+1∧cs.take k=intVals ds∧ds.length=k∧(∀d∈ds,d<256)∧lo8 (ds++[(cc+x+y)%256])+256^(k+1)*((cc+x+y)/256)=vn a%256^(k+1)+vn b%256^(k+1)):=⟨hblk,hcs,htk,hdl,hds,hst2⟩
    have G1:=Lib.hid d1
    have G2:=Lib.hid d2
    clear hblk hcs htk hdl hds hst2 hst hlo d1 d2
    go_wp2_with fail
    refine (G1.out _).mono ?_;rintro e w' ⟨rfl,rfl⟩
    go_wp2_with fail
    refine (G2.out _).mono ?_;rintro e w' ⟨rfl,rfl⟩
    go_wp2_with fail
    obtain ⟨hblk,hcs,htk,hdl,hds,hst⟩:=H.out
    refine ⟨⟨k+1,(cc+x+y)/256,_,ds++[(cc+x+y)%256],rfl,by omega,by go_num,by omega,hblk.set _ _,by simpa using hcs,take_set_snoc (by omega) htk hdl _ _ (by go_num),by simp [hdl],?_,hst,hbr.setCell (Nat.le_refl _) _⟩,by simp [intOf];omega⟩
    intro d hd
    rcases List.mem_append.1 hd with hd|hd
    ·exact hds d hd
    ·have:=List.mem_singleton.1 hd;omega
   ·obtain rfl:k=b.size+1:=by omega
    obtain ⟨hA,hB⟩:=HB.out
    have hp:256^(b.size+1)=256^b.size*256:=Nat.pow_succ ..
    rw [Nat.mod_eq_of_lt (a:=vn a) (by omega),Nat.mod_eq_of_lt (a:=vn b) (by omega)] at hlo
    have hcc0:cc=0:=by
     rcases Nat.eq_zero_or_pos cc with h|h
     ·exact h
     ·obtain rfl:cc=1:=by omega
      omega
    subst hcc0
    have hcse:cs=intVals ds:=by rw [←htk,List.take_of_length_le (by omega)]
    have hP:=pack_any ds _ wr (hcse▸SliceAt.blk hblk hcs (by unfold maxLen;omega)) hds (by omega)
    rw [show lo8 ds=vn a+vn b by omega] at hP
    have HP:=Lib.hid hP
    clear hblk hcs htk hdl hds hlo hP hA hB hp hcse
    go_wp2_with fail
    refine HP.out.mono ?_;rintro e w' ⟨rfl,hb'⟩
    go_wp2_with fail
    go_ret
    exact ⟨rfl,hbr.trans (hb'.mono hbr.size)⟩
 ·obtain rfl:n=a.size:=by omega
  clear hn
  go_enter Tryz.func73,Tryz.ntmps73
  go_wp2
  go_loopw [7,8] (fun c q wr=>∃(k cc:Nat) (cs:List Value) (ds:List Nat),q=.int .i64 k∧k≤a.size+1∧c=.int .i64 cc∧cc≤1∧Blk wr w.heap.size 3 cs∧cs.length=a.size+1∧cs.take k=intVals ds∧ds.length=k∧(∀d∈ds,d<256)∧lo8 ds+256^k*cc=vn a%256^k+vn b%256^k∧Below w.heap.size w wr) (fun _ q _=>a.size+1-(intOf q).toNat)
  case atStart=>exact ⟨0,0,_,[],rfl,Nat.zero_le _,rfl,by omega,hblk0,by simp,by simp [intVals],rfl,by simp,by simp [lo8,Nat.mod_one],hbm⟩
  case round =>
   obtain ⟨k,cc,cs,ds,rfl,hk,rfl,hcc,hblk,hcs,htk,hdl,hds,hlo,hbr⟩:=hrel
   clear hmk hblk0 hbm
   by_cases h0:k≤a.size
   ·have d1:=D1.out k (by omega)
    have d2:=D2.out k (by omega)
    have hst:=radd_step (vn a) (vn b) k cc ds hdl hlo
    have hx:vn a/256^k%256<256:=Nat.mod_lt _ (by omega)
    have hy:vn b/256^k%256<256:=Nat.mod_lt _ (by omega)
    generalize vn a/256^k%256=x at *
    generalize vn b/256^k%256=y at *
    have hst2:=hst _ rfl
    have hcell:wr.cell? ⟨w.heap.size,k,none⟩=some (cs[k]'(by omega)):=hblk.cell _ _
    have hfr:wr.frozen? ⟨w.heap.size,k,none⟩=false:=hblk.frozen _
    generalize cs[k]'(by omega)=cx at hcell
    have H:Hid (Blk wr w.heap.size 3 cs∧cs.length=a.size+1∧cs.take k=intVals ds∧ds.length=k∧(∀d∈ds,d<256)∧lo8 (ds++[(cc+x+y)%256])+256^(k+1)*((cc+x+y)/256)=vn a%256^(k+1)+vn b%256^(k+1)):=⟨hblk,hcs,htk,hdl,hds,hst2⟩
    have G1:=Lib.hid d1
    have G2:=Lib.hid d2
    clear hblk hcs htk hdl hds hst2 hst hlo d1 d2
    go_wp2_with fail
    refine (G1.out _).mono ?_;rintro e w' ⟨rfl,rfl⟩
    go_wp2_with fail
    refine (G2.out _).mono ?_;rintro e w' ⟨rfl,rfl⟩
    go_wp2_with fail
    obtain ⟨hblk,hcs,htk,hdl,hds,hst⟩:=H.out
    refine ⟨⟨k+1,(cc+x+y)/256,_,ds++[(cc+x+y)%256],rfl,by omega,by go_num,by omega,hblk.set _ _,by simpa using hcs,take_set_snoc (by omega) htk hdl _ _ (by go_num),by simp [hdl],?_,hst,hbr.setCell (Nat.le_refl _) _⟩,by simp [intOf];omega⟩
    intro d hd
    rcases List.mem_append.1 hd with hd|hd
    ·exact hds d hd
    ·have:=List.mem_singleton.1 hd;omega
   ·obtain rfl:k=a.size+1:=by omega
    obtain ⟨hA,hB⟩:=HB.out
    have hp:256^(a.size+1)=256^a.size*256:=Nat.pow_succ ..
    rw [Nat.mod_eq_of_lt (a:=vn a) (by omega),Nat.mod_eq_of_lt (a:=vn b) (by omega)] at hlo
    have hcc0:cc=0:=by
     rcases Nat.eq_zero_or_pos cc with h|h
     ·exact h
     ·obtain rfl:cc=1:=by omega
      omega
    subst hcc0
    have hcse:cs=intVals ds:=by rw [←htk,List.take_of_length_le (by omega)]
    have hP:=pack_any ds _ wr (hcse▸SliceAt.blk hblk hcs (by unfold maxLen;omega)) hds (by omega)
    rw [show lo8 ds=vn a+vn b by omega] at hP
    have HP:=Lib.hid hP
    clear hblk hcs htk hdl hds hlo hP hA hB hp hcse
    go_wp2_with fail
    refine HP.out.mono ?_;rintro e w' ⟨rfl,hb'⟩
    go_wp2_with fail
    go_ret
    exact ⟨rfl,hbr.trans (hb'.mono hbr.size)⟩
end

section
open Go.RowKit
open Go.IntWalk (wrap64_in)

end

section
open Go.RowKit
open Go.IntWalk (wrap64_in)

end

section
open Go.RowKit
open Go.IntWalk (wrap64_in)

end

section
open Go.RowKit
open Go.IntWalk (wrap64_in)

end

section
open Go.RowKit
open Go.IntWalk (wrap64_in)

end
end Go.Proofs.YtmcgeppgfjlclaaGreatDoor
set_option linter.unusedVariables false
set_option linter.unusedSimpArgs false
namespace Go.Proofs.YtmcgeppgfjlclaaGreatDoor
open Go Go.RowKit
abbrev St (s:ByteArray):FV:=.v (.string s)
abbrev frR (g:Bool) (n d:ByteArray):FV:=.agg [Bo g,St n,St d]
theorem fr_frR (q:Rat):fr q=frR (cg q) (cn q) (cd q):=rfl
theorem radd_good {a b:ByteArray} (ha:a.size≤274877906944) (hb:b.size≤274877906944):Good Tryz.prog 73 [St a,St b] (St (ns (vn a+vn b))) :=
 good_calls (by kernel_rfl) rfl rfl fun w=>radd_any a b w ha hb
theorem rof_good {n:Int} (h0:-9223372036854775808≤n) (hn:n≤9223372036854775807):Good Tryz.prog 72 [I n] (St (ns n.toNat)) :=
 good_calls (by kernel_rfl) rfl rfl fun w=>rof_any n w hn h0
set_option maxRecDepth 100000 in
theorem rof_frac {n:Int} (h0:-9223372036854775808≤n) (hn:n≤9223372036854775807):Good Tryz.prog 34 [I n] (fr (n:Rat)):=by
 by_cases h:n<0
 ·have e:n=(-(((-(n+1)).toNat+1:Nat):Int):Int):=by omega
  have e2:fr (n:Rat)=frR true (ns ((-(n+1)).toNat+1)) ⟨#[1]⟩:=by
   have:=frv_negnat ((-(n+1)).toNat+1) (by omega)
   rw [←e] at this
   have h3:fv (n:Rat)=agf true (ns ((-(n+1)).toNat+1)) ⟨#[1]⟩:=this
   unfold agf at h3
   injection h3 with h3
   injection h3 with h3
   injection h3 with a1 h3
   injection h3 with a2 h3
   injection h3 with a3 h3
   show frR _ _ _=_
   injection a1 with a1
   injection a2 with a2
   injection a3 with a3
   rw [a1,a2,a3]
  rw [e2]
  refine good_of Tryz.func34 rfl (by kernel_rfl) fun X hO hrd=>?_;rw [Tryz.ntmps34,Tryz.results34];simp only [ast0,List.map_cons,List.map_nil,List.length_cons,List.length_nil,Nat.reduceAdd,Nat.reduceSub,List.replicate_succ,List.replicate_zero,List.cons_append,List.nil_append]
  repeat (with_reducible first|refine W_seq fun K hK=>?_|refine J_block ?_|refine J_skip ?_|refine J_exit ?_|refine J_ret ?_|refine J_region ?_|refine J_drawn mixed (by kernel_rfl) ?_|refine aApp_sl ?_|refine aApp_old ?_|(refine Kont.go (by assumption) ?_)|(simp (config:={ maxSteps:=3000000 }) (disch:=omega) only [go_sem,Nat.reduceEqDiff,↓reduceIte,Nat.reduceAdd,Nat.reduceLT,Nat.reduceLeDiff,Int.reduceLT,Int.reduceLE,Int.reduceEq,Int.reduceNe,Int.reduceAdd,Int.reduceSub,Int.reduceMul,Int.reduceNeg,Int.reduceToNat]))
  refine W_cond _ rfl (fun _=>?_) (fun h9=>absurd h (of_decide_eq_false h9))
  repeat (with_reducible first|refine W_seq fun K hK=>?_|refine J_block ?_|refine J_skip ?_|refine J_exit ?_|refine J_ret ?_|refine J_region ?_|refine J_drawn mixed (by kernel_rfl) ?_|refine aApp_sl ?_|refine aApp_old ?_|(refine Kont.go (by assumption) ?_)|(simp (config:={ maxSteps:=3000000 }) (disch:=omega) only [go_sem,Nat.reduceEqDiff,↓reduceIte,Nat.reduceAdd,Nat.reduceLT,Nat.reduceLeDiff,Int.reduceLT,Int.reduceLE,Int.reduceEq,Int.reduceNe,Int.reduceAdd,Int.reduceSub,Int.reduceMul,Int.reduceNeg,Int.reduceToNat,Int.zero_sub]))
  refine call_f (rof_good (by omega) (by omega)) rfl ?_
  repeat (with_reducible first|refine W_seq fun K hK=>?_|refine J_block ?_|refine J_skip ?_|refine J_exit ?_|refine J_ret ?_|refine J_region ?_|refine J_drawn mixed (by kernel_rfl) ?_|refine aApp_sl ?_|refine aApp_old ?_|(refine Kont.go (by assumption) ?_)|(simp (config:={ maxSteps:=3000000 }) (disch:=omega) only [go_sem,Nat.reduceEqDiff,↓reduceIte,Nat.reduceAdd,Nat.reduceLT,Nat.reduceLeDiff,Int.reduceLT,Int.reduceLE,Int.reduceEq,Int.reduceNe,Int.reduceAdd,Int.reduceSub,Int.reduceMul,Int.reduceNeg,Int.reduceToNat]))
  refine call_f (radd_good (by have:=ns_size_le8 (n:=(-(n+1)).toNat) (by omega);omega) (by decide)) rfl ?_
  have e3:vn (ns (-(n+1)).toNat)+vn ⟨#[1]⟩=(-(n+1)).toNat+1:=by rw [vn_ns,←ns_one,vn_ns]
  rw [e3]
  repeat (with_reducible first|refine W_seq fun K hK=>?_|refine J_block ?_|refine J_skip ?_|refine J_exit ?_|refine J_ret ?_|refine J_region ?_|refine J_drawn mixed (by kernel_rfl) ?_|refine aApp_sl ?_|refine aApp_old ?_|(refine Kont.go (by assumption) ?_)|(simp (config:={ maxSteps:=3000000 }) (disch:=omega) only [go_sem,Nat.reduceEqDiff,↓reduceIte,Nat.reduceAdd,Nat.reduceLT,Nat.reduceLeDiff,Int.reduceLT,Int.reduceLE,Int.reduceEq,Int.reduceNe,Int.reduceAdd,Int.reduceSub,Int.reduceMul,Int.reduceNeg,Int.reduceToNat]))
  exact Frz.f _
 ·have e:n=((n.toNat:Nat):Int):=by omega
  have e2:fr (n:Rat)=frR false (ns n.toNat) ⟨#[1]⟩:=by
   have:=frv_nat n.toNat
   rw [←e] at this
   have h3:fv (n:Rat)=agf false (ns n.toNat) ⟨#[1]⟩:=this
   unfold agf at h3
   injection h3 with h3
   injection h3 with h3
   injection h3 with a1 h3
   injection h3 with a2 h3
   injection h3 with a3 h3
   show frR _ _ _=_
   injection a1 with a1
   injection a2 with a2
   injection a3 with a3
   rw [a1,a2,a3]
  rw [e2]
  refine good_of Tryz.func34 rfl (by kernel_rfl) fun X hO hrd=>?_;rw [Tryz.ntmps34,Tryz.results34];simp only [ast0,List.map_cons,List.map_nil,List.length_cons,List.length_nil,Nat.reduceAdd,Nat.reduceSub,List.replicate_succ,List.replicate_zero,List.cons_append,List.nil_append]
  repeat (with_reducible first|refine W_seq fun K hK=>?_|refine J_block ?_|refine J_skip ?_|refine J_exit ?_|refine J_ret ?_|refine J_region ?_|refine J_drawn mixed (by kernel_rfl) ?_|refine aApp_sl ?_|refine aApp_old ?_|(refine Kont.go (by assumption) ?_)|(simp (config:={ maxSteps:=3000000 }) (disch:=omega) only [go_sem,Nat.reduceEqDiff,↓reduceIte,Nat.reduceAdd,Nat.reduceLT,Nat.reduceLeDiff,Int.reduceLT,Int.reduceLE,Int.reduceEq,Int.reduceNe,Int.reduceAdd,Int.reduceSub,Int.reduceMul,Int.reduceNeg,Int.reduceToNat]))
  refine W_cond _ rfl (fun h9=>absurd (of_decide_eq_true h9) h) (fun _=>?_)
  repeat (with_reducible first|refine W_seq fun K hK=>?_|refine J_block ?_|refine J_skip ?_|refine J_exit ?_|refine J_ret ?_|refine J_region ?_|refine J_drawn mixed (by kernel_rfl) ?_|refine aApp_sl ?_|refine aApp_old ?_|(refine Kont.go (by assumption) ?_)|(simp (config:={ maxSteps:=3000000 }) (disch:=omega) only [go_sem,Nat.reduceEqDiff,↓reduceIte,Nat.reduceAdd,Nat.reduceLT,Nat.reduceLeDiff,Int.reduceLT,Int.reduceLE,Int.reduceEq,Int.reduceNe,Int.reduceAdd,Int.reduceSub,Int.reduceMul,Int.reduceNeg,Int.reduceToNat]))
  refine call_f (rof_good (by omega) (by omega)) rfl ?_
  repeat (with_reducible first|refine W_seq fun K hK=>?_|refine J_block ?_|refine J_skip ?_|refine J_exit ?_|refine J_ret ?_|refine J_region ?_|refine J_drawn mixed (by kernel_rfl) ?_|refine aApp_sl ?_|refine aApp_old ?_|(refine Kont.go (by assumption) ?_)|(simp (config:={ maxSteps:=3000000 }) (disch:=omega) only [go_sem,Nat.reduceEqDiff,↓reduceIte,Nat.reduceAdd,Nat.reduceLT,Nat.reduceLeDiff,Int.reduceLT,Int.reduceLE,Int.reduceEq,Int.reduceNe,Int.reduceAdd,Int.reduceSub,Int.reduceMul,Int.reduceNeg,Int.reduceToNat]))
  exact Frz.f _
end Go.Proofs.YtmcgeppgfjlclaaGreatDoor
set_option linter.unusedVariables false
set_option linter.unusedSimpArgs false
namespace Go.Proofs.YtmcgeppgfjlclaaGreatDoor
open Go Go.RowKit
def IsFr (x:FV) (q:Rat) (k:Nat):Prop:=∃g n d,x=frR g n d∧Is g n d q k
theorem IsFr.c {q:Rat} {k:Nat} (h:Fz q k):IsFr (fr q) q k:=⟨_,_,_,fr_frR q,Is.c h⟩
theorem IsFr.up {x:FV} {q:Rat} {j k:Nat} (h:IsFr x q j) (hk:j≤k):IsFr x q k:=by obtain ⟨g,n,d,e,h⟩:=h;exact ⟨g,n,d,e,h.up hk⟩
theorem IsFr.fz {x:FV} {q:Rat} {k:Nat} (h:IsFr x q k) (hk:1≤k):Fz q k:=by obtain ⟨g,n,d,e,h⟩:=h;exact h.fz hk
theorem IsFr.raw (g:Bool) (n d:ByteArray) {k:Nat} (hn:n.size≤k) (hd:d.size≤k):IsFr (frR g n d) (rv g n d) k:=⟨g,n,d,rfl,rfl,hn,hd⟩
theorem IsFr.int {n:Int} (h0:-9223372036854775808≤n) (h1:n≤9223372036854775807):IsFr (fr (n:Rat)) (n:Rat) 8:=.c (Fz.int (by omega))
section
variable {x y : FV} {a b : Rat} {j k : Nat}
theorem add_w (ha:IsFr x a j) (hb:IsFr y b k) (hj:j≤34359738368) (hk:k≤34359738368):Good Tryz.prog 38 [x,y] (fr (a+b)):=by
 obtain ⟨g,n,d,rfl,ha⟩:=ha
 obtain ⟨g',n',d',rfl,hb⟩:=hb
 exact good_calls (by kernel_rfl) rfl rfl fun w=>fadd_g (ha.up (k:=34359738368) hj) (hb.up (k:=34359738368) hk) (by omega) (by omega) rfl w
theorem mul_w (ha:IsFr x a j) (hb:IsFr y b k) (hj:j≤34359738368) (hk:k≤34359738368):Good Tryz.prog 52 [x,y] (fr (a*b)):=by
 obtain ⟨g,n,d,rfl,ha⟩:=ha
 obtain ⟨g',n',d',rfl,hb⟩:=hb
 exact good_calls (by kernel_rfl) rfl rfl fun w=>fmul_g (ha.up (k:=34359738368) hj) (hb.up (k:=34359738368) hk) (by omega) (by omega) rfl w
theorem cmp_w (ha:IsFr x a j) (hb:IsFr y b k) (hj:j≤34359738368) (hk:k≤34359738368):Good Tryz.prog 40 [x,y] (I (cmpR a b)):=by
 obtain ⟨g,n,d,rfl,ha⟩:=ha
 obtain ⟨g',n',d',rfl,hb⟩:=hb
 exact good_calls (by kernel_rfl) rfl rfl fun w=>fcmp_g (ha.up (k:=34359738368) hj) (hb.up (k:=34359738368) hk) (by omega) (by omega) rfl w
theorem canon_w (ha:IsFr x a j) (hj:j≤34359738368):Good Tryz.prog 70 [x] (fr a):=by
 obtain ⟨g,n,d,rfl,ha⟩:=ha
 exact good_calls (by kernel_rfl) rfl rfl fun w=>fcanon_g ha hj w
abbrev frN:FV:=frR false ⟨#[]⟩ ⟨#[]⟩
end
structure Frs (k : Nat) (xs : List FV) (l : List Rat) : Prop where
  len : xs.length = l.length
  get : ∀ (i : Nat) q, l[i]? = some q → ∃ x, xs[i]? = some x ∧ IsFr x q k
structure FrM (k : Nat) (ys : List FV) (m : List (List Rat)) : Prop where
  len : ys.length = m.length
  get : ∀ (i : Nat) r, m[i]? = some r → ∃ xs, ys[i]? = some (.fz 3 xs) ∧ Frs k xs r
def Row (k:Nat) (l:List Rat):Prop:=∀q∈l,Fz q k
theorem Row.get {k:Nat} {l:List Rat} (h:Row k l) {i:Nat} (hi:i<l.length):Fz l[i] k:=h _ (List.getElem_mem hi)
theorem Frs.c {k:Nat} {l:List Rat} (h:Row k l):Frs k (l.map fr) l:=⟨by simp,fun i q hq=>⟨fr q,by rw [List.getElem?_map,hq];rfl,.c (h q (List.mem_of_getElem? hq))⟩⟩
theorem FrM.c {k:Nat} {m:List (List Rat)} (h:∀r∈m,Row k r):FrM k (m.map frs) m:=⟨by simp,fun i r hr=>⟨r.map fr,by rw [List.getElem?_map,hr];rfl,.c (h r (List.mem_of_getElem? hr))⟩⟩
theorem Frs.at {k:Nat} {xs:List FV} {l:List Rat} (h:Frs k xs l) {i:Nat} (hi:i<l.length):∃x,xs[i]?=some x∧IsFr x l[i] k:=h.get i _ (List.getElem?_eq_getElem hi)
theorem Frs.at3 {k:Nat} {xs:List FV} {l:List Rat} (h:Frs k xs l) {i:Nat} (hi:i<l.length):∃g n d,xs[i]?=some (frR g n d)∧IsFr (frR g n d) l[i] k:=by
 obtain ⟨x,hx,g,n,d,rfl,hk⟩:=h.at hi
 exact ⟨g,n,d,hx,g,n,d,rfl,hk⟩
theorem FrM.at {k:Nat} {ys:List FV} {m:List (List Rat)} (h:FrM k ys m) {i:Nat} (hi:i<m.length):∃xs,ys[i]?=some (.fz 3 xs)∧Frs k xs m[i]:=h.get i _ (List.getElem?_eq_getElem hi)
theorem Frs.up {j k:Nat} {xs:List FV} {l:List Rat} (h:Frs j xs l) (hk:j≤k):Frs k xs l:=⟨h.len,fun i q hq=>by obtain ⟨x,h1,h2⟩:=h.get i q hq;exact ⟨x,h1,h2.up hk⟩⟩
theorem Frs.row {k:Nat} {xs:List FV} {l:List Rat} (h:Frs k xs l) (hk:1≤k):Row k l:=fun q hq=>by
 obtain ⟨i,hi⟩:=List.getElem?_of_mem hq
 obtain ⟨x,_,h2⟩:=h.get i q hi
 exact h2.fz hk
theorem cmpR_lt {a b:Rat}:(cmpR a b<0)↔a<b:=by
 unfold cmpR
 by_cases h:a=b
 ·rw [if_pos h];subst h;exact ⟨fun h=>by omega,fun h=>absurd h Rat.lt_irrefl⟩
 ·rw [if_neg h]
  by_cases h2:a<b
  ·rw [if_pos h2];exact ⟨fun _=>h2,fun _=>by omega⟩
  ·rw [if_neg h2];exact ⟨fun h=>by omega,fun h=>absurd h h2⟩
end Go.Proofs.YtmcgeppgfjlclaaGreatDoor
set_option linter.unusedVariables false
set_option linter.unusedSimpArgs false
namespace Go.Proofs.YtmcgeppgfjlclaaGreatDoor
open Go Go.RowKit
def eqR (g:Bool) (n d:ByteArray) (g':Bool) (n' d':ByteArray):Bool:=(g==g')&&(decide (n=n')&&decide (d=d'))
theorem toList_eq_iff {a b:ByteArray}:(a.toList==b.toList)=decide (a=b):=by
 have:(a.toList=b.toList)↔a=b:=by
  rw [ByteArray.toList_eq,ByteArray.toList_eq]
  exact ⟨fun h=>by cases a;cases b;simp_all [Array.toList_inj],fun h=>by rw [h]⟩
 by_cases h:a=b
 ·subst h;simp
 ·rw [decide_eq_false h];simpa using fun h'=>h (this.1 h')
set_option maxRecDepth 100000 in
theorem run_eq3 (w:World) (g g':Bool) (n d n' d':ByteArray):(Op.equalIn 10000 50 (.agg #[.bool g,.string n,.string d]) (.agg #[.bool g',.string n',.string d'])).run Tryz.prog w=.ok (eqR g n d g' n' d') w:=by
 rw [run_equalIn_agg w 9999 _ _ _ (by kernel_rfl) (by kernel_rfl)]
 unfold Program.fieldsOf
 rw [Tryz.underlying50]
 have p0:∀(a b c:Value),(part 4 #[a,b,c] 0).run Tryz.prog w=.ok a w:=fun a b c=>by kernel_rfl
 have p1:∀(a b c:Value),(part 48 #[a,b,c] 1).run Tryz.prog w=.ok b w:=fun a b c=>by kernel_rfl
 have p2:∀(a b c:Value),(part 48 #[a,b,c] 2).run Tryz.prog w=.ok c w:=fun a b c=>by kernel_rfl
 have q0:=run_equalIn_bool' w 9998 4 g g' Tryz.underlying4
 have q1:=run_equalIn_string w 9998 48 n n' Tryz.underlying48
 have q2:=run_equalIn_string w 9998 48 d d' Tryz.underlying48
 rw [toList_eq_iff] at q1 q2
 rw [show (9998+1:Nat)=9999 from rfl] at q0 q1 q2
 have h1 : ("Neg" : String) ≠ "_" := by decide
 have h2 : ("Num" : String) ≠ "_" := by decide
 have h3 : ("Den" : String) ≠ "_" := by decide
 show (Op.eqFields 9999 _ _ [_,_,_]).run _ _=_
 unfold eqR
 simp only [Op.eqFields,h1,h2,h3,ne_eq,not_false_eq_true,if_true,Sem.run_bind,p0,p1,p2,Result.andThen_ok,q0,q1,q2]
 cases hg:(g==g') with
 | false=>simp
 | true =>
  cases hn:decide (n=n') with
  | false=>simp [hn,p1,q1]
  | true =>
   cases hd:decide (d=d') with
   | false=>simp [hn,hd,p1,q1,p2,q2]
   | true=>simp [hn,hd,p1,q1,p2,q2]
theorem eqR_fr (a b:Rat):eqR (cg a) (cn a) (cd a) (cg b) (cn b) (cd b)=decide (a=b):=by
 by_cases h:a=b
 ·subst h;simp [eqR]
 ·rw [decide_eq_false h]
  unfold eqR
  by_cases h1:cg a=cg b
  ·by_cases h2:cn a=cn b
   ·by_cases h3:cd a=cd b
    ·exact absurd (by rw [←rv_c a,←rv_c b,h1,h2,h3]) h
    ·simp [h3]
   ·simp [h2]
  ·have:(cg a==cg b)=false:=by simpa using h1
   rw [this];rfl
section
variable {k : AV → Prop} {X Y : Operand}
@[go_sem] theorem bin_eqR {g g':Bool} {n d n' d':ByteArray}:aBin Tryz.prog .eql 50 X Y (.f (frR g n d)) (.f (frR g' n' d')) k=k (.f (.v (.bool (eqR g n d g' n' d')))) :=
 bin_run (U:=.agg #[.bool g,.string n,.string d]) (V:=.agg #[.bool g',.string n',.string d']) rfl rfl (fun _ _ h=>by cases h) (fun _ h=>by cases h) fun w=>by
  rw [Sem.run_bind,run_eqGuard_agg w .eql 50 X Y _ _ (by kernel_rfl),Result.andThen_ok,run_eql_struct,run_eq3];rfl
@[go_sem] theorem bin_neR {g g':Bool} {n d n' d':ByteArray}:aBin Tryz.prog .neq 50 X Y (.f (frR g n d)) (.f (frR g' n' d')) k=k (.f (.v (.bool (!eqR g n d g' n' d')))) :=
 bin_run (U:=.agg #[.bool g,.string n,.string d]) (V:=.agg #[.bool g',.string n',.string d']) rfl rfl (fun _ _ h=>by cases h) (fun _ h=>by cases h) fun w=>by
  rw [Sem.run_bind,run_eqGuard_agg w .neq 50 X Y _ _ (by kernel_rfl),Result.andThen_ok,run_neq_struct,run_eq3];rfl
@[go_sem] theorem bin_eqf {a b:Rat}:aBin Tryz.prog .eql 50 X Y (.f (fr a)) (.f (fr b)) k=k (.f (.v (.bool (decide (a=b))))):=by
 rw [fr_frR,fr_frR,bin_eqR,eqR_fr]
@[go_sem] theorem bin_nef {a b:Rat}:aBin Tryz.prog .neq 50 X Y (.f (fr a)) (.f (fr b)) k=k (.f (.v (.bool (!decide (a=b))))):=by
 rw [fr_frR,fr_frR,bin_neR,eqR_fr]
end
end Go.Proofs.YtmcgeppgfjlclaaGreatDoor
set_option linter.unusedVariables false
set_option linter.unusedSimpArgs false
namespace Go.Proofs.YtmcgeppgfjlclaaGreatDoor
open Go Go.RowKit
theorem J_mask {X:Cx} {P:Program} (ws:List Nat) {c:Code} {Q:Exit→AS→Prop} {t:List AV} {H:AH} (hw:Weak ⟨t,H⟩ ⟨msk ws t,H⟩) (hJ:J X P c Q ⟨msk ws t,H⟩):J X P c Q ⟨t,H⟩:=J_weak hw hJ
end Go.Proofs.YtmcgeppgfjlclaaGreatDoor
set_option linter.unusedVariables false
set_option linter.unusedSimpArgs false
namespace Go.Proofs.YtmcgeppgfjlclaaGreatDoor
open Go Go.RowKit
theorem flat_setc {x y:AV} (h:x.cells=y.cells):∀{i:Nat} {l:List AV},flat (l.set i x)=flat (l.set i y):=by
 intro i l
 induction l generalizing i with
 | nil=>rfl
 | cons e es ih =>
  cases i with
  | zero=>rw [List.set_cons_zero,List.set_cons_zero,flat_cons,flat_cons,h]
  | succ i=>rw [List.set_cons_succ,List.set_cons_succ,flat_cons,flat_cons,ih]
theorem RelF.norm1 {X:Cx} {F:Nat→Prop} {loc:Nat→Nat × Nat} {t:List AV} {H:AH} {a:Act} {w:World} (R:RelF X F loc ⟨t,H⟩ a w) {r sz i:Nat} {e:TypeId} {es:List AV} {x y:AV} (hr:H[r]?=some (some ⟨e,sz,es.set i x⟩)) (hi:i<es.length) (hc:x.cells=y.cells) (hy:y.st=true) :
  RelF X F loc ⟨t,H.set r (some ⟨e,sz,es.set i y⟩)⟩ a w:=by
 have hl:(H.set r (some ⟨e,sz,es.set i y⟩)).length=H.length:=List.length_set
 have hof:∀q o,(H.set r (some ⟨e,sz,es.set i y⟩))[q]?=some (some o)→∃o',H[q]?=some (some o'):=fun q o h=>by
  by_cases e0:r=q
  ·subst e0;exact ⟨_,hr⟩
  ·rw [List.getElem?_set_ne e0] at h;exact ⟨o,h⟩
 refine ⟨R.hF,R.hG,R.hN,R.below,R.defers,R.len,fun j z hj=>by have:=R.tmps j z hj;rw [←hl] at this;exact this,fun q o h=>?_,fun q o h=>?_,fun q o h=>?_,fun q q' o o' h h'=>?_⟩
 ·by_cases e0:r=q
  ·subst e0
   have h:(H.set r (some ⟨e,sz,es.set i y⟩))[r]?=some (some o):=h
   rw [List.getElem?_set_self (hlt hr)] at h
   cases h
   obtain ⟨hu,vs,hvs,hvz,hcc⟩:=R.obj r _ hr
   refine ⟨fun z hz=>?_,vs,hvs,hvz,fun j c hj=>?_⟩
   ·obtain ⟨j,hj,rfl⟩:=List.getElem_of_mem hz
    by_cases e1:i=j
    ·subst e1
     have hxm:x∈es.set i x:=by
      have:=List.getElem_mem (l:=es.set i x) (n:=i) (by rw [List.length_set];exact hi)
      rwa [List.getElem_set_self] at this
     rw [List.getElem_set_self,←hc]
     exact ⟨(hu x hxm).1,hy⟩
    ·have hj2:j<(es.set i x).length:=by rw [List.length_set] at hj ⊢;exact hj
     have:=hu _ (List.getElem_mem hj2)
     rw [List.getElem_set_ne e1] at this ⊢
     exact this
   ·obtain ⟨u,h1,h2⟩:=hcc j c (by rw [flat_setc hc];exact hj)
    exact ⟨u,h1,by show Rep w F loc (H.set r _).length c u;rw [hl];exact h2⟩
  ·have h:(H.set r (some ⟨e,sz,es.set i y⟩))[q]?=some (some o):=h
   rw [List.getElem?_set_ne e0] at h
   have:=R.obj q o h
   show ObjAt w F loc (H.set r _).length q o
   rw [hl];exact this
 ·obtain ⟨o',h'⟩:=hof q o h;exact R.new q o' h'
 ·obtain ⟨o',h'⟩:=hof q o h;exact R.nF q o' h'
 ·obtain ⟨p,hp⟩:=hof q o h
  obtain ⟨p',hp'⟩:=hof q' o' h'
  exact R.inj q q' p p' hp hp'
theorem J_norm1 {X:Cx} {P:Program} {Q:Exit→AS→Prop} {t:List AV} {H:AH} (r:Nat) (x:AV) {sz i:Nat} {e:TypeId} {es:List AV} {y:AV} (hr:H[r]?=some (some ⟨e,sz,es.set i x⟩)) (hi:i<es.length) (hc:x.cells=y.cells) (hy:y.st=true) {c:Code} (h:J X P c Q ⟨t,H.set r (some ⟨e,sz,es.set i y⟩)⟩):J X P c Q ⟨t,H⟩ :=
 fun hk a w ⟨F,loc,R⟩=>h hk a w ⟨F,loc,R.norm1 hr hi hc hy⟩
end Go.Proofs.YtmcgeppgfjlclaaGreatDoor
