/- Joined: RefP RefA RefB RefC RefD RefE RefF RefG RefI. Conditions: as said at each part. -/
import Derived.Test.YthehegidpamldaaGreatDoorZNatOne
import Derived.Test.YthehegidpamldaaGreatDoorZNatTwo
import Derived.IntWalk
import Derived.Deep.QuietTactic
import Derived.BigQuiet
import Derived.BigRegion
set_option linter.unusedVariables false
set_option linter.unusedSimpArgs false
namespace Go.Proofs.YthehegidpamldaaGreatDoor
section
theorem drop_toList (s:ByteArray) (i:Nat):(s.extract i s.size).data.toList=s.data.toList.drop i:=by
 rw [ByteArray.data_extract,Array.toList_extract,List.extract_eq_take_drop]
 exact List.take_of_length_le (by rw [List.length_drop,bytes_size];omega)
theorem drop_succ (s:ByteArray) (i:Nat) (h:i<s.size):s.data.toList.drop i=s[i]::s.data.toList.drop (i+1):=by
 rw [List.drop_eq_getElem_cons (by rw [bytes_size];exact h),bytes_get]
theorem take_succ (s:ByteArray) (i:Nat) (h:i<s.size):s.data.toList.take (i+1)=s.data.toList.take i++[s[i]]:=by
 rw [List.take_add_one,List.getElem?_eq_getElem (by rw [bytes_size];exact h),bytes_get];rfl
theorem nv_take_all (s:ByteArray) (i:Nat) (h:s.size≤i):nv (s.data.toList.take i)=vn s:=by
 rw [List.take_of_length_le (by rw [bytes_size];exact h)];rfl
theorem nv_take_pow (s:ByteArray) (i:Nat):nv (s.data.toList.take i)<256^i :=
 Nat.lt_of_lt_of_le (nv_lt _) (Nat.pow_le_pow_right (by omega) (by rw [List.length_take];exact Nat.min_le_left _ _))
theorem nv_drop_zero (s:ByteArray) (i:Nat) (h:i<s.size) (h0:s[i].toNat=0):nv (s.data.toList.drop (i+1))=nv (s.data.toList.drop i):=by
 rw [drop_succ s i h,nv_cons,h0,Nat.zero_mul,Nat.zero_add]
theorem extract_head (s:ByteArray) (i:Nat) (h:i<s.size):∃h',(s.extract i s.size)[0]'h'=s[i]:=by
 have hs:(s.extract i s.size).size=s.size-i:=by rw [ByteArray.size_extract];omega
 refine ⟨by omega,?_⟩
 rw [bytes_get,bytes_get]
 simp only [drop_toList]
 rw [List.getElem_drop];rfl
theorem extract_ns (s:ByteArray) (i:Nat) (h:i<s.size) (h0:s[i].toNat≠0) (hv:nv (s.data.toList.drop i)=vn s):s.extract i s.size=ns (vn s):=by
 obtain ⟨h',e⟩:=extract_head s i h
 have:=ns_of_head (s.extract i s.size) h' (by rw [e];exact h0)
 rw [this];unfold vn at *;rw [drop_toList,hv]
theorem extract_ns0 (s:ByteArray) (i:Nat) (h:i=s.size) (hv:nv (s.data.toList.drop i)=vn s):s.extract i s.size=ns (vn s):=by
 have:=ns_of_empty (s.extract i s.size) (by rw [ByteArray.size_extract];omega)
 rw [this];unfold vn at *;rw [drop_toList,hv]

theorem digit_eq (s:ByteArray) (i:Nat) (h:i<s.size) (h':s.size-1-i<s.size):(s[s.size-1-i]'h').toNat=vn s/256^i%256:=by
 obtain ⟨k,hk⟩:∃k,k=s.size-1-i:=⟨_,rfl⟩
 have e:s.data.toList=(s.data.toList.take k++[s[k]'(by omega)])++s.data.toList.drop (k+1):=by
  rw [←take_succ s k (by omega),List.take_append_drop]
 have hv:vn s=nv ((s.data.toList.take k++[s[k]'(by omega)])++s.data.toList.drop (k+1)):=congrArg nv e
 have hl:(s.data.toList.drop (k+1)).length=i:=by rw [List.length_drop,bytes_size];omega
 have hlt:=nv_lt (s.data.toList.drop (k+1))
 rw [hl] at hlt
 rw [nv_append,hl,nv_snoc] at hv
 have h3:vn s/256^i=nv (s.data.toList.take k)*256+(s[k]'(by omega)).toNat:=by
  rw [hv,Nat.add_comm,Nat.add_mul_div_right _ _ (Nat.pow_pos (by omega)),Nat.div_eq_of_lt hlt,Nat.zero_add]
 have:=(s[k]'(by omega)).toNat_lt
 rw [h3,Nat.mul_add_mod_self_right,Nat.mod_eq_of_lt this]
 subst hk;rfl
theorem digit_zero (s:ByteArray) (i:Nat) (h:s.size≤i):vn s/256^i%256=0:=by
 rw [Nat.div_eq_of_lt (Nat.lt_of_lt_of_le (vn_lt s) (Nat.pow_le_pow_right (by omega) h))]

def lo8:List Nat→Nat
 | []=>0
 | d::l=>d+256*lo8 l
theorem lo8_append (l m:List Nat):lo8 (l++m)=lo8 l+256^l.length*lo8 m:=by
 induction l with
 | nil=>simp [lo8]
 | cons d l ih=>simp only [List.cons_append,lo8,ih,List.length_cons,Nat.pow_succ];rw [Nat.mul_add,←Nat.mul_assoc,Nat.mul_comm 256 (256^l.length)];omega
theorem lo8_snoc (l:List Nat) (d:Nat):lo8 (l++[d])=lo8 l+256^l.length*d:=by rw [lo8_append];simp [lo8]
theorem lo8_zeros (n:Nat):lo8 (List.replicate n 0)=0:=by
 induction n with
 | zero=>rfl
 | succ n ih=>rw [List.replicate_succ,lo8,ih]
theorem nv_rev (l:List Nat) (h:∀d∈l,d<256):nv (l.reverse.map UInt8.ofNat)=lo8 l:=by
 induction l with
 | nil=>rfl
 | cons d l ih =>
  rw [List.reverse_cons,List.map_append,List.map_cons,List.map_nil,nv_snoc,ih (fun x hx=>h x (List.mem_cons_of_mem _ hx)),lo8]
  have:=h d (List.mem_cons_self ..)
  simp;omega
end

section
open Go.RowKit
open Go.IntWalk (wrap64_in)

set_option maxHeartbeats 400000 in
theorem rtrim_any (s:ByteArray) (w:World) (hs:s.size≤maxLen) :
  Calls Tryz.prog 99 #[.string s] w fun e w'=>e=.returned (.string (ns (vn s)))∧w=w':=by
 unfold maxLen at hs
 go_enter Tryz.func99,Tryz.ntmps99
 go_wp2
 go_loop [3] (fun v=>∃i:Nat,v=.int .i64 i∧i≤s.size∧nv (s.data.toList.drop i)=vn s) (fun v=>s.size-(intOf v).toNat)
 case atStart=>exact ⟨0,rfl,Nat.zero_le _,rfl⟩
 case round =>
  obtain ⟨i,rfl,hi,hv⟩:=hrel
  have HV:=Lib.hid hv;clear hv
  by_cases h0:i<s.size
  ·go_wp2
   ·have h1:(↑s[i].toNat==(0:Int))=true:=by assumption
    exact ⟨⟨i+1,rfl,by omega,by rw [nv_drop_zero s i h0 (by simpa using h1),HV.out]⟩,by simp [intOf];omega⟩
   ·have h1:(↑s[i].toNat==(0:Int))=false:=by assumption
    go_ret
    exact ⟨ret_str (extract_ns s i h0 (by simpa using h1) HV.out),rfl⟩
  ·go_wp2
   go_ret
   exact ⟨ret_str (extract_ns0 s i (by omega) HV.out),rfl⟩

set_option maxHeartbeats 400000 in
theorem digit_any (s:ByteArray) (i:Nat) (w:World) (hs:s.size≤maxLen) (hi:i≤9223372036854775807) :
  Calls Tryz.prog 101 #[.string s,.int .i64 i] w fun e w'=>e=.returned (.int .i64 ((vn s/256^i%256:Nat)))∧w=w':=by
 unfold maxLen at hs
 by_cases h:i<s.size
 ·have e:=digit_eq s i h (by omega)
  have HE:=Lib.hid e;clear e
  go_enter Tryz.func101,Tryz.ntmps101
  go_wp2
  go_ret
  exact ⟨ret_int (by rw [←HE.out,wrap64_in _ (by have:=(s[s.size-1-i]'(by omega)).toNat_lt;omega)]),rfl⟩
 ·have e:=digit_zero s i (by omega)
  have HE:=Lib.hid e;clear e
  go_enter Tryz.func101,Tryz.ntmps101
  go_wp2
  go_ret
  exact ⟨ret_int (by rw [HE.out];rfl),rfl⟩

set_option maxHeartbeats 400000 in
theorem short_yes (s:ByteArray) (w:World) (hs:s.size≤7) :
  Calls Tryz.prog 104 #[.string s] w fun e w'=>e=.returned (.tuple #[.int .i64 (vn s),.bool true])∧w=w':=by
 go_enter Tryz.func104,Tryz.ntmps104
 go_wp2
 go_loop [4,5] (fun m v=>∃i:Nat,v=.int .i64 i∧i≤s.size∧m=.int .i64 (nv (s.data.toList.take i))) (fun m v=>s.size-(intOf v).toNat)
 case atStart=>exact ⟨0,rfl,Nat.zero_le _,rfl⟩
 case round =>
  obtain ⟨i,rfl,hi,rfl⟩:=hrel
  have hlt:=nv_take_pow s i
  by_cases h0:i<s.size
  ·have hp:(256:Nat)^i≤256^6:=Nat.pow_le_pow_right (by omega) (by omega)
   have hn:nv (s.data.toList.take i)<281474976710656:=by omega
   have e:=nv_take_succ s i h0
   have hb:=s[i].toNat_lt
   have hw:(↑(nv (s.data.toList.take i))*256+↑s[i].toNat:Int)=((nv (s.data.toList.take i)*256+s[i].toNat:Nat):Int):=by omega
   rw [←e] at hw
   generalize nv (s.data.toList.take i)=y at *
   have HE:=Lib.hid e;clear e
   go_wp2
   exact ⟨⟨i+1,rfl,by omega,rfl⟩,by simp [intOf];omega⟩
  ·rw [nv_take_all s i (by omega)]
   go_wp2
   go_ret2
   exact ⟨rfl,rfl⟩
set_option maxHeartbeats 400000 in
theorem short_no (s:ByteArray) (w:World) (hm:s.size≤maxLen) (hs:7<s.size) :
  Calls Tryz.prog 104 #[.string s] w fun e w'=>e=.returned (.tuple #[.int .i64 0,.bool false])∧w=w':=by
 unfold maxLen at hm
 go_enter Tryz.func104,Tryz.ntmps104
 go_wp2
 go_ret2
 exact ⟨rfl,rfl⟩


end

section
open Go.RowKit
open Go.IntWalk (wrap64_in)

set_option maxRecDepth 100000 in
set_option maxHeartbeats 1000000 in
theorem rof_any (n:Int) (w:World) (hn:n≤9223372036854775807) (h0:-9223372036854775808≤n) :
  Calls Tryz.prog 60 #[.int .i64 n] w fun e w'=>e=.returned (.string (ns n.toNat))∧Below w.heap.size w w':=by
 go_enter Tryz.func60,Tryz.ntmps60
 go_wp2
 go_loopw [0,3] (fun m v wr=>∃(k:Int) (t:List UInt8),m=.int .i64 k∧k≤9223372036854775807∧-9223372036854775808≤k∧v=.string ⟨t.toArray⟩∧nb n.toNat=nb k.toNat++t∧t.length+(nb k.toNat).length≤8∧Below w.heap.size w wr) (fun m _ _=>(intOf m).toNat)
 case atStart=>exact ⟨n,[],rfl,hn,h0,rfl,by simp,by have:=@nb_length_lt n.toNat 8 (by omega);simpa using this,Below.refl _ _⟩
 case round =>
  obtain ⟨k,t,rfl,hk,hk0,rfl,hnb,hl,hb⟩:=hrel
  by_cases hp:0<k
  ·obtain ⟨q,rfl⟩:=Int.eq_ofNat_of_zero_le (Int.le_of_lt hp)
   simp only [Int.toNat_natCast] at hnb hl
   have H:Hid (nb n.toNat=nb q++t):=hnb
   have hl2:(nb q).length=(nb (q/256)).length+1:=by rw [nb_pos q (by omega)];simp
   clear hnb
   have hcv:=fun w'=>conv_bytes (P:=Tryz.prog) (l:=[UInt8.ofNat (q%256)]) (SliceAt.lit w' 5 1 1 #[.int .u8 ((UInt8.ofNat (q%256)).toNat:Int)] rfl (by decide)) 66 5 37 Tryz.underlying66 Tryz.underlying5 Tryz.underlying37
   have ec:((UInt8.ofNat (q%256)).toNat:Int)=(q:Int)%256:=by simp
   simp only [ec] at hcv
   clear ec
   generalize hx:UInt8.ofNat (q%256)=x at hcv
   have HX:=Lib.hid hx;clear hx
   have hlx:(⟨#[x]⟩:ByteArray).size=1:=rfl
   have hlt:(⟨t.toArray⟩:ByteArray).size=t.length:=List.size_toArray
   go_wp2
   refine ⟨⟨(q:Int)/256,x::t,by go_num,by omega,by omega,by apply congrArg;apply bytes_ext;simp,?_,?_,hb.alloc hb.size _⟩,by simp [intOf];omega⟩
   ·rw [H.out,nb_pos q (by omega),HX.out];simp [show ((q:Int)/256).toNat=q/256 by omega]
   ·rw [show ((q:Int)/256).toNat=q/256 by omega];simp;omega
  ·have e0:k.toNat=0:=by omega
   have H:Hid (nb n.toNat=t):=by rw [hnb,e0,nb_zero];rfl
   clear hnb hl
   go_wp2
   go_ret
   exact ⟨ret_str (by unfold ns;rw [H.out]),hb⟩

theorem cmp_lt {a b:Nat} (h:a<b):cmpN a b=-1:=by rw [cmpN,if_pos h]
theorem cmp_eq (a:Nat):cmpN a a=0:=by rw [cmpN,if_neg (Nat.lt_irrefl _),if_pos rfl]
theorem cmp_gt {a b:Nat} (h:b<a):cmpN a b=1:=by rw [cmpN,if_neg (by omega),if_neg (by omega)]
theorem head_lt (S T:ByteArray) (i:Nat) (hs:S.size=T.size) (h1:i<S.size) (h2:i<T.size) (he:S.data.toList.take i=T.data.toList.take i) (hl:S[i].toNat<T[i].toNat):vn S<vn T:=by
 have e1:vn S=nv (S.data.toList.take i)*256^(S.size-i)+nv (S.data.toList.drop i):=by
  have:=congrArg nv (List.take_append_drop i S.data.toList).symm
  rw [nv_append,List.length_drop,bytes_size] at this;exact this
 have e2:vn T=nv (T.data.toList.take i)*256^(T.size-i)+nv (T.data.toList.drop i):=by
  have:=congrArg nv (List.take_append_drop i T.data.toList).symm
  rw [nv_append,List.length_drop,bytes_size] at this;exact this
 rw [drop_succ S i h1,nv_cons] at e1
 rw [drop_succ T i h2,nv_cons] at e2
 have l1:=nv_lt (S.data.toList.drop (i+1))
 have z1:(S.data.toList.drop (i+1)).length=S.size-(i+1):=by rw [List.length_drop,bytes_size]
 have z2:(T.data.toList.drop (i+1)).length=S.size-(i+1):=by rw [List.length_drop,bytes_size,hs]
 rw [z1] at e1 l1
 rw [z2,←he,←hs] at e2
 have:=Nat.mul_le_mul_right (256^(S.size-(i+1))) (show S[i].toNat+1≤T[i].toNat by omega)
 rw [Nat.add_mul] at this
 omega

set_option maxRecDepth 100000 in
set_option maxHeartbeats 2000000 in
theorem rcmp_in (a b S T:ByteArray) (w:World) (hTa:Calls Tryz.prog 99 #[.string a] w fun e w'=>e=.returned (.string S)∧w=w') (hTb:Calls Tryz.prog 99 #[.string b] w fun e w'=>e=.returned (.string T)∧w=w')
  (hS:S.size≤4611686018427387904) (hT:T.size≤4611686018427387904) (hlt:S.size<T.size→vn S<vn T) (hgt:T.size<S.size→vn T<vn S) :
  Calls Tryz.prog 106 #[.string a,.string b] w fun e w'=>e=.returned (.int .i64 (cmpN (vn S) (vn T)))∧Below w.heap.size w w':=by
 have HA:=Lib.hid hTa;clear hTa
 have HB:=Lib.hid hTb;clear hTb
 rcases Nat.lt_trichotomy S.size T.size with h|h|h
 ·rw [cmp_lt (hlt h)]
  clear hlt hgt
  go_enter Tryz.func106,Tryz.ntmps106
  go_wp2_with fail
  refine HA.out.mono ?_;rintro e w' ⟨rfl,rfl⟩
  go_wp2_with fail
  refine HB.out.mono ?_;rintro e w' ⟨rfl,rfl⟩
  go_wp2_with fail
  go_ret
  exact ⟨rfl,Below.refl _ _⟩
 ·clear hlt hgt
  have HE:=Lib.hid h;clear h
  go_enter Tryz.func106,Tryz.ntmps106
  go_wp2_with fail
  refine HA.out.mono ?_;rintro e w' ⟨rfl,rfl⟩
  go_wp2_with fail
  refine HB.out.mono ?_;rintro e w' ⟨rfl,rfl⟩
  have h1:¬((S.size:Int)<(T.size:Int)):=by have:=HE.out;omega
  have h2:¬((T.size:Int)<(S.size:Int)):=by have:=HE.out;omega
  have d1:decide (S.size<T.size)=false:=decide_eq_false (by have:=HE.out;omega)
  have d2:decide (T.size<S.size)=false:=decide_eq_false (by have:=HE.out;omega)
  go_wp2_with fail
  go_loopw [5] (fun q wr=>∃i:Nat,q=.int .i64 i∧i≤S.size∧S.data.toList.take i=T.data.toList.take i∧Below w.heap.size w wr) (fun q _=>S.size-(intOf q).toNat)
  case atStart=>exact ⟨0,rfl,Nat.zero_le _,rfl,Below.refl _ _⟩
  case round =>
   obtain ⟨i,rfl,hi,htk,hb⟩:=hrel
   by_cases h0:i<S.size
   ·have h0':i<T.size:=by have:=HE.out;omega
    have hl1:=head_lt S T i HE.out h0 h0' htk
    have hl2:=head_lt T S i HE.out.symm h0' h0 htk.symm
    have hst:S[i].toNat=T[i].toNat→S.data.toList.take (i+1)=T.data.toList.take (i+1):=fun e=>by
     rw [take_succ S i h0,take_succ T i h0',htk,UInt8.toNat_inj.1 e]
    have H:Hid ((S[i].toNat=T[i].toNat→S.data.toList.take (i+1)=T.data.toList.take (i+1))∧(S[i].toNat<T[i].toNat→vn S<vn T)∧(T[i].toNat<S[i].toNat→vn T<vn S)):=⟨hst,hl1,hl2⟩
    clear hl1 hl2 hst htk
    rcases Nat.lt_trichotomy S[i].toNat T[i].toNat with hxy|hxy|hxy
    ·go_wp2
     go_quiet (fail)
     go_wp2
     go_ret
     exact ⟨ret_int (by rw [cmp_lt (H.out.2.1 hxy)]),below_drewN hb _⟩
    ·have n1:¬((S[i].toNat:Int)<(T[i].toNat:Int)):=by omega
     have n2:¬((T[i].toNat:Int)<(S[i].toNat:Int)):=by omega
     have HX:=Lib.hid hxy;clear hxy
     go_wp2
     go_quiet (fail)
     go_wp2
     go_quiet (fail)
     go_wp2
     exact ⟨⟨i+1,rfl,by omega,H.out.1 HX.out,below_drewN hb _⟩,by simp [intOf];omega⟩
    ·go_wp2
     go_quiet (fail)
     go_wp2
     go_quiet (fail)
     go_wp2
     go_ret
     exact ⟨ret_int (by rw [cmp_gt (H.out.2.2 hxy)]),below_drewN (below_drewN hb _) _⟩
   ·have e:vn S=vn T:=by
     have:S.data.toList=T.data.toList:=by
      rw [←List.take_of_length_le (l:=S.data.toList) (i:=i) (by rw [bytes_size];omega),htk,List.take_of_length_le (by rw [bytes_size];have:=HE.out;omega)]
     rw [vn,vn,this]
    have HV:=Lib.hid e
    clear htk e
    go_wp2
    go_ret
    exact ⟨ret_int (by rw [HV.out,cmp_eq]),hb⟩
 ·rw [cmp_gt (hgt h)]
  clear hlt hgt
  go_enter Tryz.func106,Tryz.ntmps106
  go_wp2_with fail
  refine HA.out.mono ?_;rintro e w' ⟨rfl,rfl⟩
  go_wp2_with fail
  refine HB.out.mono ?_;rintro e w' ⟨rfl,rfl⟩
  go_wp2_with fail
  go_ret
  exact ⟨rfl,Below.refl _ _⟩

theorem rcmp_any (a b:ByteArray) (w:World) (ha:a.size≤274877906944) (hb:b.size≤274877906944) :
  Calls Tryz.prog 106 #[.string a,.string b] w fun e w'=>e=.returned (.int .i64 (cmpN (vn a) (vn b)))∧Below w.heap.size w w':=by
 have z1:=ns_size_le a
 have z2:=ns_size_le b
 have:=rcmp_in a b (ns (vn a)) (ns (vn b)) w (rtrim_any a w (by unfold maxLen;omega)) (rtrim_any b w (by unfold maxLen;omega)) (by omega) (by omega)
  (fun h=>by rw [vn_ns,vn_ns];exact ns_size_lt h) (fun h=>by rw [vn_ns,vn_ns];exact ns_size_lt h)
 rw [vn_ns,vn_ns] at this
 exact this
end

section
open Go.RowKit
open Go.IntWalk (wrap64_in)

theorem el_ints:ElemT Tryz.prog 31 3 1 8 (.int .i64 0):=ElemT.mk' Tryz.underlying31 (by kernel_rfl) rfl (by decide)
def intVals (l:List Nat):List Value:=l.map fun d=>Value.int .i64 (d:Nat)
theorem SliceAt.blk {w:World} {b:Nat} {e:TypeId} {cs:List Value} (h:Blk w b e cs) {n:Nat} (hn:cs.length=n) (hm:n≤maxLen):SliceAt w (.slice (some ⟨b,0,none⟩) n n) 1 cs :=
 ⟨n,n,hm,Nat.le_refl _,hm,by omega,.inr ⟨b,0,rfl,fun i hi=>by rw [Nat.zero_add,h.cell i hi]⟩⟩

set_option maxRecDepth 100000 in
set_option maxHeartbeats 1000000 in
theorem pack_any (l:List Nat) (v:Value) (w:World) (h:SliceAt w v 1 (intVals l)) (hl:∀d∈l,d<256) (hbig:l.length≤1099511627776) :
  Calls Tryz.prog 103 #[v] w (RetNat w (lo8 l)):=by
 obtain ⟨a1,p1,rfl,hnc1,hcm1,hcl⟩:=SliceAt.open1 h
 unfold maxLen at hcm1
 obtain ⟨w0,hmk,hw0⟩:=make_full el_bytes w .i64 .i64 l.length (by omega) (by decide)
 have hblk0:=Blk.newA w 5 (madeCells #[Value.int IntKind.u8 0] l.length)
 rw [toList_madeCells_one] at hblk0
 have hbm:=(Below.refl w.heap.size w).alloc (Nat.le_refl _) (.cells (madeCells #[Value.int IntKind.u8 0] l.length) 5)
 have hw0':w0=w.alloc (.cells (madeCells #[Value.int IntKind.u8 0] l.length) 5):=by rw [hw0];simp [Value.cells]
 rw [←hw0'] at hblk0 hbm
 clear h hw0 hw0'
 go_enter Tryz.func103,Tryz.ntmps103
 go_wp2
 go_loopw [4] (fun q wr=>∃(k:Nat) (cs:List Value),q=.int .i64 k∧k≤l.length∧Blk wr w.heap.size 5 cs∧cs.length=l.length∧cs.drop (l.length-k)=byteVals ((l.take k).reverse.map UInt8.ofNat)∧Below w.heap.size w wr) (fun q _=>l.length-(intOf q).toNat)
 case atStart=>exact ⟨0,_,rfl,Nat.zero_le _,hblk0,by simp,by simp [byteVals],hbm⟩
 case round =>
  obtain ⟨k,cs,rfl,hk,hblk,hcs,hdr,hbr⟩:=hrel
  clear hmk hblk0 hbm
  by_cases h0:k<l.length
  ·obtain ⟨b1,o1,rfl,hc1⟩:=hcl k h0
   have hc1r:=(ext_cell hbr _ (by rw [hc1];simp)).trans hc1
   have hx:l.getD k default<256:=hl _ (by rw [List.getD_eq_getElem?_getD,List.getElem?_eq_getElem h0];exact List.getElem_mem h0)
   have htk:(l.take (k+1)).reverse.map UInt8.ofNat=UInt8.ofNat (l.getD k default)::(l.take k).reverse.map UInt8.ofNat:=by
    rw [List.take_add_one,List.getElem?_eq_getElem h0,List.getD_eq_getElem?_getD,List.getElem?_eq_getElem h0,Option.toList_some,List.reverse_append,List.reverse_singleton,List.singleton_append,List.map_cons];rfl
   generalize l.getD k default=x at *
   have hcell:wr.cell? ⟨w.heap.size,l.length-1-k,none⟩=some (cs[l.length-1-k]'(by omega)):=hblk.cell _ _
   have hfr:wr.frozen? ⟨w.heap.size,l.length-1-k,none⟩=false:=hblk.frozen _
   generalize cs[l.length-1-k]'(by omega)=cx at hcell
   have H:Hid (Blk wr w.heap.size 5 cs∧cs.length=l.length∧cs.drop (l.length-k)=byteVals ((l.take k).reverse.map UInt8.ofNat)∧(l.take (k+1)).reverse.map UInt8.ofNat=UInt8.ofNat x::(l.take k).reverse.map UInt8.ofNat):=⟨hblk,hcs,hdr,htk⟩
   clear hblk hcs hdr htk hcl hc1 hl
   go_wp2
   obtain ⟨hblk,hcs,hdr,htk⟩:=H.out
   refine ⟨⟨k+1,_,rfl,by omega,hblk.set _ _,by simpa using hcs,?_,hbr.setCell (Nat.le_refl _) _⟩,by simp [intOf];omega⟩
   rw [show l.length-(k+1)=l.length-1-k by omega,List.drop_eq_getElem_cons (by simp;omega),htk]
   simp only [List.getElem_set_self,byteVals,List.map_cons]
   rw [show l.length-1-k+1=l.length-k by omega,List.drop_set_of_lt (by omega),hdr]
   rw [show (UInt8.ofNat x).toNat=x by simp;omega]
   rfl
  ·obtain rfl:k=l.length:=by omega
   have hv:=nv_rev l hl
   have hsl:SliceAt wr (.slice (some ⟨w.heap.size,0,none⟩) l.length l.length) 1 (byteVals (l.reverse.map UInt8.ofNat)):=by
    have e:cs=byteVals (l.reverse.map UInt8.ofNat):=by simpa using hdr
    rw [←e];exact SliceAt.blk hblk hcs (by unfold maxLen;omega)
   have hconv:=conv_bytes (P:=Tryz.prog) hsl 66 5 37 Tryz.underlying66 Tryz.underlying5 Tryz.underlying37
   have hsz:(⟨(l.reverse.map UInt8.ofNat).toArray⟩:ByteArray).size≤maxLen:=by
    show (l.reverse.map UInt8.ofNat).toArray.size≤maxLen
    rw [List.size_toArray];simp;unfold maxLen;omega
   have hT:=fun w=>rtrim_any _ w hsz
   have HV:Hid (vn ⟨(l.reverse.map UInt8.ofNat).toArray⟩=lo8 l):=hv
   rw [HV.out] at hT
   have HT:=Lib.hid hT
   clear hT hsl hdr hblk hcl hv hl hsz HV
   generalize (⟨(l.reverse.map UInt8.ofNat).toArray⟩:ByteArray)=S at *
   go_wp2_with (go_at_call 99;refine (HT.out _).mono ?_;rintro e w' ⟨rfl,rfl⟩)
   go_ret
   exact ⟨rfl,hbr⟩

theorem lo8_lt (l:List Nat) (h:∀d∈l,d<256):lo8 l<256^l.length:=by
 induction l with
 | nil=>simp [lo8]
 | cons d l ih =>
  have h1:=h d (List.mem_cons_self ..)
  have h2:=ih fun x hx=>h x (List.mem_cons_of_mem _ hx)
  rw [lo8,List.length_cons,Nat.pow_succ];omega
theorem mod_step (A i:Nat):A%256^(i+1)=A%256^i+256^i*(A/256^i%256):=by rw [Nat.pow_succ,Nat.mod_mul]
theorem radd_step (A B i c:Nat) (ds:List Nat) (hl:ds.length=i) (h:lo8 ds+256^i*c=A%256^i+B%256^i) (N:Nat) (hN:N=c+A/256^i%256+B/256^i%256) :
  lo8 (ds++[N%256])+256^(i+1)*(N/256)=A%256^(i+1)+B%256^(i+1):=by
 rw [mod_step A,mod_step B,lo8_snoc,hl,Nat.pow_succ]
 have e:256^i*N=256^i*(N%256)+256^i*256*(N/256):=by
  rw [Nat.mul_assoc,←Nat.mul_add,Nat.mod_add_div]
 have e2:256^i*N=256^i*c+256^i*(A/256^i%256)+256^i*(B/256^i%256):=by rw [hN,Nat.mul_add,Nat.mul_add]
 omega

theorem take_set_snoc {cs:List Value} {i:Nat} {ds:List Nat} (hi:i<cs.length) (h:cs.take i=intVals ds) (hl:ds.length=i) (d:Nat) (u:Value) (hu:u=.int .i64 (d:Nat)) :
  (cs.set i u).take (i+1)=intVals (ds++[d]):=by
 rw [List.take_add_one,List.take_set_of_le (Nat.le_refl _),h]
 rw [List.getElem?_set_self hi,hu]
 simp [intVals]

set_option maxRecDepth 100000 in
set_option maxHeartbeats 2000000 in
theorem radd_any (a b:ByteArray) (w:World) (ha:a.size≤274877906944) (hb:b.size≤274877906944) :
  Calls Tryz.prog 65 #[.string a,.string b] w (RetNat w (vn a+vn b)):=by
 obtain ⟨n,hn⟩:∃n,n=max a.size b.size:=⟨_,rfl⟩
 have hna:vn a<256^n:=Nat.lt_of_lt_of_le (vn_lt a) (Nat.pow_le_pow_right (by omega) (by omega))
 have hnb:vn b<256^n:=Nat.lt_of_lt_of_le (vn_lt b) (Nat.pow_le_pow_right (by omega) (by omega))
 have hn':n≤274877906944:=by omega
 obtain ⟨w0,hmk,hw0⟩:=make_full el_ints w .i64 .i64 (n+1) (by omega) (by decide)
 have hblk0:=Blk.newA w 3 (madeCells #[Value.int IntKind.i64 0] (n+1))
 rw [toList_madeCells_one] at hblk0
 have hbm:=(Below.refl w.heap.size w).alloc (Nat.le_refl _) (.cells (madeCells #[Value.int IntKind.i64 0] (n+1)) 3)
 have hw0':w0=w.alloc (.cells (madeCells #[Value.int IntKind.i64 0] (n+1)) 3):=by rw [hw0];simp [Value.cells]
 rw [←hw0'] at hblk0 hbm
 clear hw0 hw0'
 have HD1:=fun i h w=>digit_any a i w (by unfold maxLen;omega) h
 have HD2:=fun i h w=>digit_any b i w (by unfold maxLen;omega) h
 have D1:=Lib.hid HD1
 have D2:=Lib.hid HD2
 clear HD1 HD2
 have HB:Hid (vn a<256^n∧vn b<256^n):=⟨hna,hnb⟩
 clear hna hnb
 have hlen:((n+1:Nat):Int)=(n:Int)+1:=by omega
 rw [hlen] at hmk
 by_cases hab:a.size<b.size
 ·obtain rfl:n=b.size:=by omega
  clear hn
  go_enter Tryz.func65,Tryz.ntmps65
  go_wp2
  go_loopw [7,8] (fun c q wr=>∃(k cc:Nat) (cs:List Value) (ds:List Nat),q=.int .i64 k∧k≤b.size+1∧c=.int .i64 cc∧cc≤1∧Blk wr w.heap.size 3 cs∧cs.length=b.size+1∧cs.take k=intVals ds∧ds.length=k∧(∀d∈ds,d<256)∧lo8 ds+256^k*cc=vn a%256^k+vn b%256^k∧Below w.heap.size w wr) (fun _ q _=>b.size+1-(intOf q).toNat)
  case atStart=>exact ⟨0,0,_,[],rfl,Nat.zero_le _,rfl,by omega,hblk0,by simp,by simp [intVals],rfl,by simp,by simp [lo8,Nat.mod_one],hbm⟩
  case round =>
   obtain ⟨k,cc,cs,ds,rfl,hk,rfl,hcc,hblk,hcs,htk,hdl,hds,hlo,hbr⟩:=hrel
   clear hmk hblk0 hbm
   by_cases h0:k≤b.size
   ·have d1:=D1.out k (by omega)
    have d2:=D2.out k (by omega)
    have hst:=radd_step (vn a) (vn b) k cc ds hdl hlo
    have hx:vn a/256^k%256<256:=Nat.mod_lt _ (by omega)
    have hy:vn b/256^k%256<256:=Nat.mod_lt _ (by omega)
    generalize vn a/256^k%256=x at *
    generalize vn b/256^k%256=y at *
    have hst2:=hst _ rfl
    have hcell:wr.cell? ⟨w.heap.size,k,none⟩=some (cs[k]'(by omega)):=hblk.cell _ _
    have hfr:wr.frozen? ⟨w.heap.size,k,none⟩=false:=hblk.frozen _
    generalize cs[k]'(by omega)=cx at hcell
    have H:Hid (Blk wr w.heap.size 3 cs∧cs.length=b.size+1∧cs.take k=intVals ds∧ds.length=k∧(∀d∈ds,d<256)∧lo8 (ds++[(cc+x+y)%256])+256^(k+1)*((cc+x+y)/256)=vn a%256^(k+1)+vn b%256^(k+1)):=⟨hblk,hcs,htk,hdl,hds,hst2⟩
    have G1:=Lib.hid d1
    have G2:=Lib.hid d2
    clear hblk hcs htk hdl hds hst2 hst hlo d1 d2
    go_wp2_with fail
    refine (G1.out _).mono ?_;rintro e w' ⟨rfl,rfl⟩
    go_wp2_with fail
    refine (G2.out _).mono ?_;rintro e w' ⟨rfl,rfl⟩
    go_wp2_with fail
    obtain ⟨hblk,hcs,htk,hdl,hds,hst⟩:=H.out
    refine ⟨⟨k+1,(cc+x+y)/256,_,ds++[(cc+x+y)%256],rfl,by omega,by go_num,by omega,hblk.set _ _,by simpa using hcs,take_set_snoc (by omega) htk hdl _ _ (by go_num),by simp [hdl],?_,hst,hbr.setCell (Nat.le_refl _) _⟩,by simp [intOf];omega⟩
    intro d hd
    rcases List.mem_append.1 hd with hd|hd
    ·exact hds d hd
    ·have:=List.mem_singleton.1 hd;omega
   ·obtain rfl:k=b.size+1:=by omega
    obtain ⟨hA,hB⟩:=HB.out
    have hp:256^(b.size+1)=256^b.size*256:=Nat.pow_succ ..
    rw [Nat.mod_eq_of_lt (a:=vn a) (by omega),Nat.mod_eq_of_lt (a:=vn b) (by omega)] at hlo
    have hcc0:cc=0:=by
     rcases Nat.eq_zero_or_pos cc with h|h
     ·exact h
     ·obtain rfl:cc=1:=by omega
      omega
    subst hcc0
    have hcse:cs=intVals ds:=by rw [←htk,List.take_of_length_le (by omega)]
    have hP:=pack_any ds _ wr (hcse▸SliceAt.blk hblk hcs (by unfold maxLen;omega)) hds (by omega)
    rw [show lo8 ds=vn a+vn b by omega] at hP
    have HP:=Lib.hid hP
    clear hblk hcs htk hdl hds hlo hP hA hB hp hcse
    go_wp2_with fail
    refine HP.out.mono ?_;rintro e w' ⟨rfl,hb'⟩
    go_wp2_with fail
    go_ret
    exact ⟨rfl,hbr.trans (hb'.mono hbr.size)⟩
 ·obtain rfl:n=a.size:=by omega
  clear hn
  go_enter Tryz.func65,Tryz.ntmps65
  go_wp2
  go_loopw [7,8] (fun c q wr=>∃(k cc:Nat) (cs:List Value) (ds:List Nat),q=.int .i64 k∧k≤a.size+1∧c=.int .i64 cc∧cc≤1∧Blk wr w.heap.size 3 cs∧cs.length=a.size+1∧cs.take k=intVals ds∧ds.length=k∧(∀d∈ds,d<256)∧lo8 ds+256^k*cc=vn a%256^k+vn b%256^k∧Below w.heap.size w wr) (fun _ q _=>a.size+1-(intOf q).toNat)
  case atStart=>exact ⟨0,0,_,[],rfl,Nat.zero_le _,rfl,by omega,hblk0,by simp,by simp [intVals],rfl,by simp,by simp [lo8,Nat.mod_one],hbm⟩
  case round =>
   obtain ⟨k,cc,cs,ds,rfl,hk,rfl,hcc,hblk,hcs,htk,hdl,hds,hlo,hbr⟩:=hrel
   clear hmk hblk0 hbm
   by_cases h0:k≤a.size
   ·have d1:=D1.out k (by omega)
    have d2:=D2.out k (by omega)
    have hst:=radd_step (vn a) (vn b) k cc ds hdl hlo
    have hx:vn a/256^k%256<256:=Nat.mod_lt _ (by omega)
    have hy:vn b/256^k%256<256:=Nat.mod_lt _ (by omega)
    generalize vn a/256^k%256=x at *
    generalize vn b/256^k%256=y at *
    have hst2:=hst _ rfl
    have hcell:wr.cell? ⟨w.heap.size,k,none⟩=some (cs[k]'(by omega)):=hblk.cell _ _
    have hfr:wr.frozen? ⟨w.heap.size,k,none⟩=false:=hblk.frozen _
    generalize cs[k]'(by omega)=cx at hcell
    have H:Hid (Blk wr w.heap.size 3 cs∧cs.length=a.size+1∧cs.take k=intVals ds∧ds.length=k∧(∀d∈ds,d<256)∧lo8 (ds++[(cc+x+y)%256])+256^(k+1)*((cc+x+y)/256)=vn a%256^(k+1)+vn b%256^(k+1)):=⟨hblk,hcs,htk,hdl,hds,hst2⟩
    have G1:=Lib.hid d1
    have G2:=Lib.hid d2
    clear hblk hcs htk hdl hds hst2 hst hlo d1 d2
    go_wp2_with fail
    refine (G1.out _).mono ?_;rintro e w' ⟨rfl,rfl⟩
    go_wp2_with fail
    refine (G2.out _).mono ?_;rintro e w' ⟨rfl,rfl⟩
    go_wp2_with fail
    obtain ⟨hblk,hcs,htk,hdl,hds,hst⟩:=H.out
    refine ⟨⟨k+1,(cc+x+y)/256,_,ds++[(cc+x+y)%256],rfl,by omega,by go_num,by omega,hblk.set _ _,by simpa using hcs,take_set_snoc (by omega) htk hdl _ _ (by go_num),by simp [hdl],?_,hst,hbr.setCell (Nat.le_refl _) _⟩,by simp [intOf];omega⟩
    intro d hd
    rcases List.mem_append.1 hd with hd|hd
    ·exact hds d hd
    ·have:=List.mem_singleton.1 hd;omega
   ·obtain rfl:k=a.size+1:=by omega
    obtain ⟨hA,hB⟩:=HB.out
    have hp:256^(a.size+1)=256^a.size*256:=Nat.pow_succ ..
    rw [Nat.mod_eq_of_lt (a:=vn a) (by omega),Nat.mod_eq_of_lt (a:=vn b) (by omega)] at hlo
    have hcc0:cc=0:=by
     rcases Nat.eq_zero_or_pos cc with h|h
     ·exact h
     ·obtain rfl:cc=1:=by omega
      omega
    subst hcc0
    have hcse:cs=intVals ds:=by rw [←htk,List.take_of_length_le (by omega)]
    have hP:=pack_any ds _ wr (hcse▸SliceAt.blk hblk hcs (by unfold maxLen;omega)) hds (by omega)
    rw [show lo8 ds=vn a+vn b by omega] at hP
    have HP:=Lib.hid hP
    clear hblk hcs htk hdl hds hlo hP hA hB hp hcse
    go_wp2_with fail
    refine HP.out.mono ?_;rintro e w' ⟨rfl,hb'⟩
    go_wp2_with fail
    go_ret
    exact ⟨rfl,hbr.trans (hb'.mono hbr.size)⟩
end

section
open Go.RowKit
open Go.IntWalk (wrap64_in)

theorem rsub_step (A B i br br' e:Nat) (ds:List Nat) (hl:ds.length=i) (h:lo8 ds+B%256^i=A%256^i+256^i*br) (x y:Nat) (hx:A/256^i%256=x) (hy:B/256^i%256=y) (he:e+y+br=x+256*br') :
  lo8 (ds++[e])+B%256^(i+1)=A%256^(i+1)+256^(i+1)*br':=by
 rw [mod_step A,mod_step B,lo8_snoc,hl,Nat.pow_succ,hx,hy]
 have e1:256^i*(e+y+br)=256^i*(x+256*br'):=by rw [he]
 have e2:256^i*(x+256*br')=256^i*x+256^i*256*br':=by rw [Nat.mul_add,Nat.mul_assoc]
 rw [Nat.mul_add,Nat.mul_add,e2] at e1
 omega

set_option maxHeartbeats 1000000 in
theorem rsub_no (a b:ByteArray) (w:World) (ha:a.size≤274877906944) (hb:b.size≤274877906944) (h:vn a<vn b) :
  Calls Tryz.prog 69 #[.string a,.string b] w (RetNatB w 0 false):=by
 have hc:=rcmp_any a b w ha hb
 rw [cmp_lt h] at hc
 have HC:=Lib.hid hc;clear hc
 go_enter Tryz.func69,Tryz.ntmps69
 go_wp2_with fail
 refine HC.out.mono ?_;rintro e w1 ⟨rfl,hb1⟩
 go_wp2_with fail
 go_ret2
 exact ⟨by rw [ns_zero];rfl,hb1⟩

set_option maxRecDepth 100000 in
set_option maxHeartbeats 2000000 in
theorem rsub_in (a T:ByteArray) (b:ByteArray) (w:World) (ha:a.size≤274877906944) (hb:b.size≤274877906944) (hTs:T.size≤274877906944) (h:vn T≤vn a)
  (hcmp:∃c:Int,0≤c∧Calls Tryz.prog 106 #[.string a,.string b] w fun e w'=>e=.returned (.int .i64 c)∧Below w.heap.size w w')
  (hT:∀w,Calls Tryz.prog 99 #[.string b] w fun e w'=>e=.returned (.string T)∧w=w') :
  Calls Tryz.prog 69 #[.string a,.string b] w (RetNatB w (vn a-vn T) true):=by
 obtain ⟨c,hc0,hc⟩:=hcmp
 have HC:=Lib.hid hc
 have HT:=Lib.hid hT
 clear hc hT
 have HD1:=fun i h w=>digit_any a i w (by unfold maxLen;omega) h
 have HD2:=fun i h w=>digit_any T i w (by unfold maxLen;omega) h
 have D1:=Lib.hid HD1
 have D2:=Lib.hid HD2
 clear HD1 HD2
 have HB:Hid (vn a<256^a.size∧vn T≤vn a):=⟨vn_lt a,h⟩
 clear h
 go_enter Tryz.func69,Tryz.ntmps69
 go_wp2_with fail
 refine HC.out.mono ?_;rintro e w1 ⟨rfl,hb1⟩
 go_wp2_with fail
 refine (HT.out _).mono ?_;rintro e w' ⟨rfl,rfl⟩
 obtain ⟨w0,hmk,hw0⟩:=make_full el_ints w1 .i64 .i64 a.size (by omega) (by decide)
 have hblk0:=Blk.newA w1 3 (madeCells #[Value.int IntKind.i64 0] a.size)
 rw [toList_madeCells_one] at hblk0
 have hbm:=(Below.refl w1.heap.size w1).alloc (Nat.le_refl _) (.cells (madeCells #[Value.int IntKind.i64 0] a.size) 3)
 have hw0':w0=w1.alloc (.cells (madeCells #[Value.int IntKind.i64 0] a.size) 3):=by rw [hw0];simp [Value.cells]
 rw [←hw0'] at hblk0 hbm
 clear hw0 hw0'
 go_wp2_with fail
 go_loopw [8,9] (fun c q wr=>∃(k br:Nat) (cs:List Value) (ds:List Nat),q=.int .i64 k∧k≤a.size∧c=.int .i64 br∧br≤1∧Blk wr w1.heap.size 3 cs∧cs.length=a.size∧cs.take k=intVals ds∧ds.length=k∧(∀d∈ds,d<256)∧lo8 ds+vn T%256^k=vn a%256^k+256^k*br∧Below w1.heap.size w1 wr) (fun _ q _=>a.size-(intOf q).toNat)
 case atStart=>exact ⟨0,0,_,[],rfl,Nat.zero_le _,rfl,by omega,hblk0,by simp,by simp [intVals],rfl,by simp,by simp [lo8,Nat.mod_one],hbm⟩
 case round =>
  obtain ⟨k,br,cs,ds,rfl,hk,rfl,hbr1,hblk,hcs,htk,hdl,hds,hlo,hbr⟩:=hrel
  clear hmk hblk0 hbm
  by_cases h0:k<a.size
  ·have d1:=D1.out k (by omega)
   have d2:=D2.out k (by omega)
   have hst:=rsub_step (vn a) (vn T) k br
   have hx:vn a/256^k%256<256:=Nat.mod_lt _ (by omega)
   have hy:vn T/256^k%256<256:=Nat.mod_lt _ (by omega)
   have hst:=fun br' e=>hst br' e ds hdl hlo _ _ rfl rfl
   generalize vn a/256^k%256=x at *
   generalize vn T/256^k%256=y at *
   have hcell:wr.cell? ⟨w1.heap.size,k,none⟩=some (cs[k]'(by omega)):=hblk.cell _ _
   have hfr:wr.frozen? ⟨w1.heap.size,k,none⟩=false:=hblk.frozen _
   generalize cs[k]'(by omega)=cx at hcell
   have H:Hid (Blk wr w1.heap.size 3 cs∧cs.length=a.size∧cs.take k=intVals ds∧ds.length=k∧(∀d∈ds,d<256)∧(∀(br' e:Nat),e+y+br=x+256*br'→lo8 (ds++[e])+vn T%256^(k+1)=vn a%256^(k+1)+256^(k+1)*br')):=⟨hblk,hcs,htk,hdl,hds,hst⟩
   have G1:=Lib.hid d1
   have G2:=Lib.hid d2
   clear hblk hcs htk hdl hds hst hlo d1 d2
   by_cases hneg:(x:Int)-y-br<0
   ·go_wp2_with fail
    refine (G1.out _).mono ?_;rintro e w' ⟨rfl,rfl⟩
    go_wp2_with fail
    refine (G2.out _).mono ?_;rintro e w' ⟨rfl,rfl⟩
    go_wp2_with fail
    obtain ⟨hblk,hcs,htk,hdl,hds,hst⟩:=H.out
    refine ⟨⟨k+1,1,_,ds++[x+256-y-br],rfl,by omega,rfl,by omega,hblk.set _ _,by simpa using hcs,take_set_snoc (by omega) htk hdl _ _ (int_val (by omega)),by simp [hdl],?_,hst 1 _ (by omega),hbr.setCell (Nat.le_refl _) _⟩,by simp [intOf];omega⟩
    intro d hd
    rcases List.mem_append.1 hd with hd|hd
    ·exact hds d hd
    ·have:=List.mem_singleton.1 hd;omega
   ·go_wp2_with fail
    refine (G1.out _).mono ?_;rintro e w' ⟨rfl,rfl⟩
    go_wp2_with fail
    refine (G2.out _).mono ?_;rintro e w' ⟨rfl,rfl⟩
    go_wp2_with fail
    obtain ⟨hblk,hcs,htk,hdl,hds,hst⟩:=H.out
    refine ⟨⟨k+1,0,_,ds++[x-y-br],rfl,by omega,rfl,by omega,hblk.set _ _,by simpa using hcs,take_set_snoc (by omega) htk hdl _ _ (int_val (by omega)),by simp [hdl],?_,hst 0 _ (by omega),hbr.setCell (Nat.le_refl _) _⟩,by simp [intOf];omega⟩
    intro d hd
    rcases List.mem_append.1 hd with hd|hd
    ·exact hds d hd
    ·have:=List.mem_singleton.1 hd;omega
  ·obtain rfl:k=a.size:=by omega
   obtain ⟨hA,hB⟩:=HB.out
   rw [Nat.mod_eq_of_lt (a:=vn a) (by omega),Nat.mod_eq_of_lt (a:=vn T) (by omega)] at hlo
   have hl:=lo8_lt ds hds
   rw [hdl] at hl
   have hcc0:br=0:=by
    rcases Nat.eq_zero_or_pos br with h|h
    ·exact h
    ·obtain rfl:br=1:=by omega
     omega
   subst hcc0
   have hcse:cs=intVals ds:=by rw [←htk,List.take_of_length_le (by omega)]
   have hP:=pack_any ds _ wr (hcse▸SliceAt.blk hblk hcs (by unfold maxLen;omega)) hds (by omega)
   rw [show lo8 ds=vn a-vn T by omega] at hP
   have HP:=Lib.hid hP
   clear hblk hcs htk hdl hds hlo hP hA hB hcse hl
   go_wp2_with fail
   refine HP.out.mono ?_;rintro e w' ⟨rfl,hb'⟩
   go_wp2_with fail
   go_ret2
   exact ⟨rfl,hb1.trans ((hbr.trans (hb'.mono hbr.size)).mono hb1.size)⟩

theorem rsub_yes (a b:ByteArray) (w:World) (ha:a.size≤274877906944) (hb:b.size≤274877906944) (h:vn b≤vn a) :
  Calls Tryz.prog 69 #[.string a,.string b] w (RetNatB w (vn a-vn b) true):=by
 have z:=ns_size_le b
 have:=rsub_in a (ns (vn b)) b w ha hb (by omega) (by rw [vn_ns];exact h) ⟨_,?_,rcmp_any a b w ha hb⟩ (fun w=>rtrim_any b w (by unfold maxLen;omega))
 ·rw [vn_ns] at this;exact this
 ·rcases Nat.eq_or_lt_of_le h with h|h
  ·rw [h,cmp_eq];omega
  ·rw [cmp_gt h];omega
end

section
open Go.RowKit
open Go.IntWalk (wrap64_in)

theorem lo8_set (l:List Nat) (v:Nat):∀i,i<l.length→lo8 (l.set i v)+256^i*l.getD i default=lo8 l+256^i*v:=by
 induction l with
 | nil=>intro i h;simp at h
 | cons d l ih =>
  intro i h
  cases i with
  | zero=>simp only [List.set_cons_zero,lo8,List.getD_cons_zero,Nat.pow_zero,Nat.one_mul];omega
  | succ i =>
   have:=ih i (by simpa using h)
   simp only [List.set_cons_succ,lo8,List.getD_cons_succ,Nat.pow_succ]
   rw [Nat.mul_comm (256^i) 256,Nat.mul_assoc,Nat.mul_assoc]
   omega
theorem rmul_step (os:List Nat) (B P i k cc x y o N:Nat) (hy:B/256^k%256=y) (hik:i+k<os.length) (ho:os.getD (i+k) default=o) (hN:N=cc+o+x*y)
  (h:lo8 os+256^(i+k)*cc=P+256^i*(x*(B%256^k))) :
  lo8 (os.set (i+k) (N%256))+256^(i+(k+1))*(N/256)=P+256^i*(x*(B%256^(k+1))):=by
 have hs:=lo8_set os (N%256) (i+k) hik
 rw [ho] at hs
 rw [mod_step B k,hy]
 have e1:256^(i+(k+1))*(N/256)+256^(i+k)*(N%256)=256^(i+k)*cc+256^(i+k)*o+256^(i+k)*(x*y):=by
  rw [←Nat.mul_add,←Nat.mul_add,←hN,←Nat.add_assoc,Nat.pow_succ,Nat.mul_assoc,←Nat.mul_add,Nat.div_add_mod]
 have e2:256^i*(x*(B%256^k+256^k*y))=256^i*(x*(B%256^k))+256^(i+k)*(x*y):=by
  rw [Nat.mul_add,Nat.mul_add,Nat.pow_add]
  congr 1
  rw [Nat.mul_left_comm x,←Nat.mul_assoc]
 rw [e2];omega
theorem rmul_row (os:List Nat) (A B i m cc x:Nat) (hx:A/256^i%256=x) (hm:B<256^m) (hik:i+m<os.length) (ho:os.getD (i+m) default=0)
  (h:lo8 os+256^(i+m)*cc=A%256^i*B+256^i*(x*(B%256^m))):lo8 (os.set (i+m) cc)=A%256^(i+1)*B:=by
 have hs:=lo8_set os cc (i+m) hik
 rw [ho,Nat.mul_zero,Nat.add_zero] at hs
 rw [hs,h,Nat.mod_eq_of_lt hm,mod_step A,hx,Nat.add_mul,Nat.mul_assoc]
theorem intVals_set (os:List Nat) (i d:Nat):intVals (os.set i d)=(intVals os).set i (.int .i64 (d:Nat)):=by simp [intVals,List.map_set]
theorem intVals_len (os:List Nat):(intVals os).length=os.length:=by simp [intVals]
theorem intVals_get (os:List Nat) (i:Nat) (h:i<os.length):(intVals os)[i]'(by rw [intVals_len];exact h)=.int .i64 ((os.getD i default:Nat)):=by
 simp [intVals,List.getD_eq_getElem?_getD,List.getElem?_eq_getElem h]
theorem all_set {os:List Nat} (h:∀d∈os,d<256) (i v:Nat) (hv:v<256):∀d∈os.set i v,d<256:=by
 intro d hd
 rcases List.mem_or_eq_of_mem_set hd with h1|h1
 ·exact h d h1
 ·omega
theorem all_get {os:List Nat} (h:∀d∈os,d<256) (i:Nat) (hi:i<os.length):os.getD i default<256 :=
 h _ (by rw [List.getD_eq_getElem?_getD,List.getElem?_eq_getElem hi];exact List.getElem_mem hi)

set_option maxRecDepth 100000 in
set_option maxHeartbeats 2000000 in
theorem rmul_in (a b S T:ByteArray) (w:World) (hTa:∀w,Calls Tryz.prog 99 #[.string a] w fun e w'=>e=.returned (.string S)∧w=w') (hTb:∀w,Calls Tryz.prog 99 #[.string b] w fun e w'=>e=.returned (.string T)∧w=w')
  (hS:S.size≤137438953472) (hT:T.size≤137438953472) :
  Calls Tryz.prog 67 #[.string a,.string b] w (RetNat w (vn S*vn T)):=by
 have HA:=Lib.hid hTa
 have HB:=Lib.hid hTb
 clear hTa hTb
 have D1:=Lib.hid (fun i (h:i≤9223372036854775807) w=>digit_any S i w (by unfold maxLen;omega) h)
 have D2:=Lib.hid (fun i (h:i≤9223372036854775807) w=>digit_any T i w (by unfold maxLen;omega) h)
 have HV:Hid (vn S<256^S.size∧vn T<256^T.size):=⟨vn_lt S,vn_lt T⟩
 by_cases h7:S.size+T.size≤7
 ·have S1:=Lib.hid (short_yes S w (by omega))
  have S2:=Lib.hid (short_yes T w (by omega))
  have hp:vn S*vn T<256^(S.size+T.size):=by rw [Nat.pow_add];exact Nat.mul_lt_mul'' HV.out.1 HV.out.2
  have hp2:256^(S.size+T.size)≤256^7:=Nat.pow_le_pow_right (by omega) h7
  have hp3:vn S*vn T<72057594037927936:=by omega
  have e:((vn S:Nat):Int)*(vn T:Nat)=((vn S*vn T:Nat):Int):=by omega
  have HO:=Lib.hid (rof_any ((vn S*vn T:Nat):Int) w (by omega) (by omega))
  have hm0:(0:Int)≤((vn S*vn T:Nat):Int):=by omega
  clear hp hp2 D1 D2 HV
  generalize vn S*vn T=P at *
  generalize vn S=x at *
  generalize vn T=y at *
  go_enter Tryz.func67,Tryz.ntmps67
  go_wp2_with fail
  refine (HA.out _).mono ?_;rintro e w' ⟨rfl,rfl⟩
  go_wp2_with fail
  refine (HB.out _).mono ?_;rintro e w' ⟨rfl,rfl⟩
  go_wp2_with fail
  refine S1.out.mono ?_;rintro e w' ⟨rfl,rfl⟩
  go_wp2_with fail
  refine S2.out.mono ?_;rintro e w' ⟨rfl,rfl⟩
  go_wp2_with fail
  refine HO.out.mono ?_;rintro e w' ⟨rfl,hb⟩
  go_wp2_with fail
  go_ret
  exact ⟨rfl,hb⟩
 ·obtain ⟨w0,hmk,hw0⟩:=make_full el_ints w .i64 .i64 (S.size+T.size+1) (by omega) (by decide)
  rw [show ((S.size+T.size+1:Nat):Int)=(S.size:Int)+(T.size:Int)+1 by omega] at hmk
  have hblk0:=Blk.newA w 3 (madeCells #[Value.int IntKind.i64 0] (S.size+T.size+1))
  rw [toList_madeCells_one] at hblk0
  have hbm:=(Below.refl w.heap.size w).alloc (Nat.le_refl _) (.cells (madeCells #[Value.int IntKind.i64 0] (S.size+T.size+1)) 3)
  have hw0':w0=w.alloc (.cells (madeCells #[Value.int IntKind.i64 0] (S.size+T.size+1)) 3):=by rw [hw0];simp [Value.cells]
  rw [←hw0'] at hblk0 hbm
  have hrep:List.replicate (S.size+T.size+1) (Value.int .i64 0)=intVals (List.replicate (S.size+T.size+1) 0):=by simp [intVals]
  rw [hrep] at hblk0
  clear hw0 hw0' hrep
  go_enter Tryz.func67,Tryz.ntmps67
  go_wp2_with fail
  refine (HA.out _).mono ?_;rintro e w' ⟨rfl,rfl⟩
  go_wp2_with fail
  refine (HB.out _).mono ?_;rintro e w' ⟨rfl,rfl⟩
  go_wp2_with fail
  go_loopw [10] (fun q wr=>∃(i:Nat) (os:List Nat),q=.int .i64 i∧i≤S.size∧Blk wr w.heap.size 3 (intVals os)∧os.length=S.size+T.size+1∧(∀d∈os,d<256)∧(∀j,i+T.size≤j→os.getD j default=0)∧lo8 os=vn S%256^i*vn T∧Below w.heap.size w wr) (fun q _=>S.size-(intOf q).toNat)
  case atStart=>exact ⟨0,_,rfl,Nat.zero_le _,hblk0,by simp,fun x hx=>by rw [List.eq_of_mem_replicate hx];omega,fun j _=>by rw [List.getD_eq_getElem?_getD,List.getElem?_replicate];split<;>rfl,by rw [lo8_zeros];simp [Nat.mod_one],hbm⟩
  case round =>
   obtain ⟨i,os0,rfl,hi,hblk,hos,hlo,hz,hlv,hbr⟩:=hrel
   clear hmk hblk0 hbm
   obtain ⟨wo,rfl⟩:∃wo:World,wo=wr:=⟨_,rfl⟩
   by_cases hlt:i<S.size
   ·have d1:=D1.out i (by omega)
    have hx1:vn S/256^i%256<256:=Nat.mod_lt _ (by omega)
    have HO:Hid (lo8 os0=vn S%256^i*vn T∧(∀d∈os0,d<256)∧os0.length=S.size+T.size+1∧Blk wo w.heap.size 3 (intVals os0)∧(∀j,i+T.size≤j→os0.getD j default=0)):=⟨hlv,hlo,hos,hblk,hz⟩
    generalize hxx:vn S/256^i%256=x at *
    have HX:=Lib.hid hxx
    have G1:=Lib.hid d1
    clear hlv hlo hos hblk hxx hz d1
    go_wp2_with fail
    refine (G1.out _).mono ?_;rintro e w' ⟨rfl,rfl⟩
    go_wp2_with fail
    go_loopw [12,13] (fun c q wr=>∃(k cc:Nat) (os:List Nat),q=.int .i64 k∧k≤T.size∧c=.int .i64 cc∧cc<256∧Blk wr w.heap.size 3 (intVals os)∧os.length=S.size+T.size+1∧(∀d∈os,d<256)∧(∀j,i+T.size≤j→os.getD j default=0)∧lo8 os+256^(i+k)*cc=vn S%256^i*vn T+256^i*(x*(vn T%256^k))∧Below w.heap.size w wr) (fun _ q _=>T.size-(intOf q).toNat)
    case atStart=>exact ⟨0,0,os0,rfl,Nat.zero_le _,rfl,by omega,HO.out.2.2.2.1,HO.out.2.2.1,HO.out.2.1,HO.out.2.2.2.2,by simp [Nat.mod_one,HO.out.1],hbr⟩
    case round =>
     obtain ⟨k,cc,os,rfl,hk,rfl,hcc,hblk,hos,hlo,hz,hlv,hb2r⟩:=hrel
     by_cases hkm:k<T.size
     ·have d2:=D2.out k (by omega)
      have hx2:vn T/256^k%256<256:=Nat.mod_lt _ (by omega)
      have hik:i+k<os.length:=by omega
      have hcell:=hblk.cell (i+k) (by rw [intVals_len];exact hik)
      rw [intVals_get os (i+k) hik] at hcell
      have hfr:=hblk.frozen (i+k)
      have ho3:=all_get hlo (i+k) hik
      have hst:=fun y o N hy ho hN=>rmul_step os (vn T) _ i k cc x y o N hy hik ho hN hlv
      have hst2:=hst _ _ _ rfl rfl rfl
      generalize vn T/256^k%256=y at *
      generalize os.getD (i+k) default=o at *
      have hxy:(x:Int)*(y:Int)=((x*y:Nat):Int):=by rw [Int.natCast_mul]
      have hxb:x*y≤255*255:=Nat.mul_le_mul (by omega) (by omega)
      generalize x*y=pxy at *
      have HH:Hid (lo8 (os.set (i+k) ((cc+o+pxy)%256))+256^(i+(k+1))*((cc+o+pxy)/256)=vn S%256^i*vn T+256^i*(x*(vn T%256^(k+1)))∧Blk wr w.heap.size 3 (intVals os)∧os.length=S.size+T.size+1∧(∀d∈os,d<256)∧(∀j,i+T.size≤j→os.getD j default=0)):=⟨hst2,hblk,hos,hlo,hz⟩
      have G2:=Lib.hid d2
      clear hst hst2 hblk hos hlv d2 hlo hz
      go_wp2_with fail
      refine (G2.out _).mono ?_;rintro e w' ⟨rfl,rfl⟩
      go_wp2_with fail
      obtain ⟨hst,hblk,hos,hlo,hz⟩:=HH.out
      refine ⟨⟨k+1,(cc+o+pxy)/256,os.set (i+k) ((cc+o+pxy)%256),by go_num,by omega,by go_num,by omega,?_,by simpa using hos,all_set hlo _ _ (by omega),?_,hst,hb2r.setCell (Nat.le_refl _) _⟩,by simp [intOf];omega⟩
      ·have:=hblk.set (i+k) (Value.int .i64 (((cc+o+pxy)%256:Nat):Int))
       rw [intVals_set]
       rw [show (((cc+o+pxy)%256:Nat):Int)=((cc:Int)+(o:Int)+(pxy:Int))%256 by omega] at this ⊢
       exact this
      ·intro j hj
       rw [List.getD_eq_getElem?_getD,List.getElem?_set_ne (by omega),←List.getD_eq_getElem?_getD]
       exact hz j hj
     ·obtain rfl:k=T.size:=by omega
      have hik:i+T.size<os.length:=by omega
      have hfin:=rmul_row os (vn S) (vn T) i T.size cc x HX.out HV.out.2 hik (hz _ (Nat.le_refl _)) hlv
      have hcell:=hblk.cell (i+T.size) (by rw [intVals_len];exact hik)
      rw [intVals_get os (i+T.size) hik,hz _ (Nat.le_refl _)] at hcell
      have hfr:=hblk.frozen (i+T.size)
      have HH:Hid (lo8 (os.set (i+T.size) cc)=vn S%256^(i+1)*vn T∧Blk wr w.heap.size 3 (intVals os)∧os.length=S.size+T.size+1∧(∀d∈os,d<256)∧(∀j,i+T.size≤j→os.getD j default=0)):=⟨hfin,hblk,hos,hlo,hz⟩
      clear hfin hblk hos hlv hlo hz
      go_wp2_with fail
      obtain ⟨hfin,hblk,hos,hlo,hz⟩:=HH.out
      refine ⟨⟨i+1,os.set (i+T.size) cc,by go_num,by omega,?_,by simpa using hos,all_set hlo _ _ hcc,?_,hfin,hb2r.setCell (Nat.le_refl _) _⟩,by simp [intOf];omega⟩
      ·have:=hblk.set (i+T.size) (Value.int .i64 (cc:Int))
       rw [intVals_set]
       simpa using this
      ·intro j hj
       rw [List.getD_eq_getElem?_getD,List.getElem?_set_ne (by omega),←List.getD_eq_getElem?_getD]
       exact hz j (by omega)
   ·obtain rfl:i=S.size:=by omega
    rw [Nat.mod_eq_of_lt HV.out.1] at hlv
    have hP:=pack_any os0 _ wo (SliceAt.blk (n:=S.size+T.size+1) hblk (by rw [intVals_len];exact hos) (by unfold maxLen;omega)) hlo (by omega)
    rw [hlv] at hP
    have HP:=Lib.hid hP
    clear hP hlv hblk hos hlo hz
    go_wp2_with fail
    refine HP.out.mono ?_;rintro e w' ⟨rfl,hb3⟩
    go_wp2_with fail
    go_ret
    exact ⟨rfl,hbr.trans (hb3.mono hbr.size)⟩

theorem rmul_any (a b:ByteArray) (w:World) (ha:a.size≤137438953472) (hb:b.size≤137438953472) :
  Calls Tryz.prog 67 #[.string a,.string b] w (RetNat w (vn a*vn b)):=by
 have z1:=ns_size_le a
 have z2:=ns_size_le b
 have:=rmul_in a b (ns (vn a)) (ns (vn b)) w (fun w=>rtrim_any a w (by unfold maxLen;omega)) (fun w=>rtrim_any b w (by unfold maxLen;omega)) (by omega) (by omega)
 rw [vn_ns,vn_ns] at this
 exact this
end

section
open Go.RowKit
open Go.IntWalk (wrap64_in)

set_option maxRecDepth 100000 in
set_option maxHeartbeats 1000000 in
theorem rdiv_small (a b S T:ByteArray) (w:World) (hTa:∀w,Calls Tryz.prog 99 #[.string a] w fun e w'=>e=.returned (.string S)∧w=w') (hTb:∀w,Calls Tryz.prog 99 #[.string b] w fun e w'=>e=.returned (.string T)∧w=w')
  (hS:S.size≤7) (hT:T.size≤7) (h0:vn T≠0) (hTn:T.size≠0) :
  Calls Tryz.prog 100 #[.string a,.string b] w (RetDiv w (vn S/vn T) (vn S%vn T) true):=by
 have HW1:=fun w=>short_yes S w hS
 have HW2:=fun w=>short_yes T w hT
 have n1:=toList_ne _ hTn
 have n2:=isEmpty_false _ hTn
 have la:vn S<256^7:=Nat.lt_of_lt_of_le (vn_lt S) (Nat.pow_le_pow_right (by omega) hS)
 have lb:vn T<256^7:=Nat.lt_of_lt_of_le (vn_lt T) (Nat.pow_le_pow_right (by omega) hT)
 generalize vn S=x at *
 generalize vn T=y at *
 have y0:0<y:=by omega
 have hq:(x:Int)/(y:Int)=((x/y:Nat):Int):=(Int.natCast_ediv x y).symm
 have hr:(x:Int)%(y:Int)=((x%y:Nat):Int):=(Int.natCast_emod x y).symm
 have hq2:(x:Int).tdiv (y:Int)=((x/y:Nat):Int):=(Int.ofNat_tdiv x y).symm
 have hr2:(x:Int).tmod (y:Int)=((x%y:Nat):Int):=(Int.ofNat_tmod x y).symm
 have lq':x/y≤72057594037927935:=by have:=Nat.div_le_self x y;omega
 have lr':x%y≤72057594037927935:=by have:=Nat.mod_le x y;omega
 generalize x/y=q at *
 generalize x%y=r at *
 have hne:((y:Int)==0)=false:=by simp;omega
 have hwq:IntKind.i64.wrap (q:Int)=(q:Int):=by rw [IntKind.wrap_i64];omega
 have G1:=Lib.hid hTa
 have G2:=Lib.hid hTb
 have G3:=Lib.hid HW1
 have G4:=Lib.hid HW2
 clear hTa hTb HW1 HW2 la lb h0
 go_enter Tryz.func100,Tryz.ntmps100
 go_wp2_with (fail)
 refine (G1.out _).mono ?_;rintro e w' ⟨rfl,rfl⟩
 go_wp2_with (fail)
 refine (G2.out _).mono ?_;rintro e w' ⟨rfl,rfl⟩
 go_wp2_with (fail)
 refine (G3.out _).mono ?_;rintro e w' ⟨rfl,rfl⟩
 go_wp2_with (fail)
 refine (G4.out _).mono ?_;rintro e w' ⟨rfl,rfl⟩
 go_wp2_with (fail)
 clear n1 n2
 go_region_with (go_at_call 60;refine (rof_any _ _ (by omega) (by omega)).mono ?_;rintro e w' ⟨rfl,hb⟩)
 all_goals go_wp2
 all_goals (go_ret3;exact ⟨rfl,below_two (by assumption) hb⟩)
end

section
open Go.RowKit
open Go.IntWalk (wrap64_in)

def strOf:Value→ByteArray|.string t=>t|_=>⟨#[]⟩
theorem rdiv_end {A B Q R:Nat} (h:A=Q*B+R) (hR:R<B):Q=A/B∧R=A%B:=by
 subst h
 constructor
 ·rw [Nat.add_comm,Nat.add_mul_div_right _ _ (by omega),Nat.div_eq_of_lt hR,Nat.zero_add]
 ·rw [Nat.add_comm,Nat.add_mul_mod_self_right,Nat.mod_eq_of_lt hR]
theorem vn_snoc (R:Nat) (S:ByteArray) (i:Nat) (h:i<S.size):vn (ns R++S.extract i (i+1))=R*256+S[i].toNat∧(ns R++S.extract i (i+1)).size=(ns R).size+1:=by
 have e:(S.extract i (i+1)).data.toList=[S[i]]:=by
  rw [ByteArray.data_extract,Array.toList_extract,List.extract_eq_take_drop,Nat.add_sub_cancel_left,drop_succ S i h];rfl
 constructor
 ·show nv _=_
  rw [show (ns R++S.extract i (i+1)).data.toList=nb R++[S[i]] by rw [←ns_toList,←e];simp,nv_snoc,nv_nb]
 ·rw [ByteArray.size_append,ByteArray.size_extract];omega

set_option maxRecDepth 100000 in
set_option maxHeartbeats 2000000 in
theorem rdiv_long (a b S T:ByteArray) (w:World) (hTa:∀w,Calls Tryz.prog 99 #[.string a] w fun e w'=>e=.returned (.string S)∧w=w') (hTb:∀w,Calls Tryz.prog 99 #[.string b] w fun e w'=>e=.returned (.string T)∧w=w')
  (hS:S.size≤137438953472) (hT:T.size≤137438953472) (hcase:7<S.size) (h0:vn T≠0) (hTn:T.size≠0) :
  Calls Tryz.prog 100 #[.string a,.string b] w (RetDiv w (vn S/vn T) (vn S%vn T) true):=by
 have HW1:=fun w=>short_no S w (by unfold maxLen;omega) hcase
 have n1:=toList_ne _ hTn
 have n2:=isEmpty_false _ hTn
 have HT:Hid (vn T<256^T.size):=vn_lt T
 have H0:Hid (vn T≠0):=h0
 have G1:=Lib.hid hTa
 have G2:=Lib.hid hTb
 have G3:=Lib.hid HW1
 obtain ⟨yy,pp,G4⟩:∃(y:Int) (p:Bool),Hid (∀w,Calls Tryz.prog 104 #[.string T] w fun e w'=>e=.returned (.tuple #[.int .i64 y,.bool p])∧w=w'):=by
  rcases Nat.lt_or_ge 7 T.size with hT7|hT7
  ·exact ⟨_,_,fun w=>short_no T w (by unfold maxLen;omega) hT7⟩
  ·exact ⟨_,_,fun w=>short_yes T w hT7⟩
 clear hTa hTb HW1 h0
 go_enter Tryz.func100,Tryz.ntmps100
 go_wp2_with (fail)
 refine (G1.out _).mono ?_;rintro e w' ⟨rfl,rfl⟩
 go_wp2_with (fail)
 refine (G2.out _).mono ?_;rintro e w' ⟨rfl,rfl⟩
 go_wp2_with (fail)
 refine (G3.out _).mono ?_;rintro e w' ⟨rfl,rfl⟩
 go_wp2_with (fail)
 refine (G4.out _).mono ?_;rintro e w' ⟨rfl,rfl⟩
 go_wp2_with (fail)
 go_loopw [11,12,13] (fun q r v wr=>∃(i R:Nat) (qs:List UInt8),v=.int .i64 i∧i≤S.size∧r=.string (ns R)∧R<vn T∧wr.ownsRow w.heap.size 5 1 q qs.length (byteVals qs)∧qs.length=i∧nv (S.data.toList.take i)=nv qs*vn T+R∧Below w.heap.size w wr) (fun _ _ v _=>S.size-(intOf v).toNat)
 case atStart=>exact ⟨0,0,[],rfl,Nat.zero_le _,by rw [ns_zero],Nat.pos_of_ne_zero H0.out,World.ownsRow_nil _ _ _ _,rfl,by simp [nv_nil],Below.refl _ _⟩
 case round =>
  obtain ⟨i,R,qs,rfl,hi,rfl,hR,hown,hql,hnv,hbr⟩:=hrel
  obtain ⟨wo,rfl⟩:∃wo:World,wo=wr:=⟨_,rfl⟩
  by_cases hlt:i<S.size
  ·obtain ⟨hv,hz⟩:=vn_snoc R S i hlt
   have hx:=S[i].toNat_lt
   have hstep:=nv_take_succ S i hlt
   have hRs:(ns R).size≤T.size:=(Sz.le (m:=R) HT.out (by omega)).str
   have hTr:=fun w=>rtrim_any (ns R++S.extract i (i+1)) w (by unfold maxLen;omega)
   rw [hv] at hTr
   generalize S[i].toNat=x at *
   have G5:=Lib.hid hTr
   have K:Hid (R<vn T∧wo.ownsRow w.heap.size 5 1 u11 qs.length (byteVals qs)∧nv (S.data.toList.take (i+1))=(nv qs*vn T+R)*256+x∧vn (ns R++S.extract i (i+1))=R*256+x):=⟨hR,hown,by rw [hstep,hnv],hv⟩
   have hsl:=fun w1=>str_lh (P:=Tryz.prog) Tryz.underlying37 S i (i+1) (by omega) (by omega) w1
   rw [show ((i+1:Nat):Int)=(i:Int)+1 by omega] at hsl
   clear hTr hv hR hown hnv hstep
   go_wp2_with (fail)
   refine (G5.out _).mono ?_;rintro e w' ⟨rfl,rfl⟩
   go_wp2_with (fail)
   go_loopw [12,14] (fun r d wr=>∃(R' D:Nat),r=.string (ns R')∧d=.int .i64 D∧R'+D*vn T=R*256+x∧Below wo.heap.size wo wr) (fun r _ _=>vn (strOf r))
   case atStart=>exact ⟨R*256+x,0,rfl,rfl,by omega,Below.refl _ _⟩
   case round =>
    obtain ⟨R',D,rfl,rfl,hRD,hb2⟩:=hrel
    have hR':(ns R').size≤T.size+1:=(Sz.le (m:=R') (n:=R*256+x) (by unfold Sz;rw [Nat.pow_succ];have:=HT.out;have:=K.out.1;omega) (by omega)).str
    have hDb:D≤255:=by
     rcases Nat.lt_or_ge D 256 with h|h
     ·omega
     ·have:=Nat.mul_le_mul_right (vn T) h
      have:=K.out.1
      omega
    have hvv:vn (ns R')=R':=vn_ns R'
    rcases Nat.lt_or_ge R' (vn T) with hRT|hRT
    ·have hs:=rsub_no (ns R') T wr (by omega) (by omega) (by rw [hvv];exact hRT)
     have GS:=Lib.hid hs
     have hown2:wr.ownsRow w.heap.size 5 1 u11 qs.length (byteVals qs):=owns_ext K.out.2.1 hb2
     have KD:Hid (R'+D*vn T=R*256+x∧R'<vn T):=⟨hRD,hRT⟩
     clear hs hRD hRT hvv
     go_wp2_with (fail)
     refine GS.out.mono ?_;rintro e w3 ⟨rfl,hb3⟩
     have hown3:=owns_ext hown2 hb3
     have hsz3:w.heap.size≤w3.heap.size:=Nat.le_trans hbr.size (Nat.le_trans hb2.size hb3.size)
     go_wp2_with (at_builtin;go_must (refine wpList_app rfl _ _ 66 rfl w.heap.size el_bytes _ _ _ rfl (hown3.alloc _) _ rfl 1 [.int .u8 (D:Int)] (SliceAt.lit _ _ 1 1 _ rfl (by decide)) rfl (one_int _ _) (by omega) (by decide) (le_alloc hsz3 _) ?_);intro v' w' hown' hg)
     have hb4:Below w.heap.size w w3:=hbr.trans ((hb2.trans (hb3.mono hb2.size)).mono hbr.size)
     have hbf:=(hb4.alloc hsz3 (Obj.cells #[Value.int IntKind.u8 (D:Int)] 5)).grown hg (le_alloc hsz3 _) (fun k hk=>(hown3.lt k hk).1)
     obtain ⟨hRD,hRT⟩:=KD.out
     have hD8:(UInt8.ofNat D).toNat=D:=by simp;omega
     refine ⟨⟨i+1,R',qs++[UInt8.ofNat D],rfl,by omega,rfl,hRT,?_,by simp [hql],?_,hbf⟩,by simp [intOf];omega⟩
     ·rw [List.length_append]
      simpa [byteVals,hD8] using hown'
     ·rw [K.out.2.2.1,nv_snoc,hD8,Nat.add_mul,Nat.add_mul,Nat.mul_right_comm]
      omega
    ·have hs:=rsub_yes (ns R') T wr (by omega) (by omega) (by rw [hvv];exact hRT)
     rw [hvv] at hs
     have GS:=Lib.hid hs
     have KD:Hid (R'-vn T+(D+1)*vn T=R*256+x∧R'-vn T<R'):=⟨by rw [Nat.add_mul];omega,by have:=H0.out;omega⟩
     clear hs hRD hRT hvv
     go_wp2_with (fail)
     refine GS.out.mono ?_;rintro e w3 ⟨rfl,hb3⟩
     go_wp2_with (fail)
     refine ⟨⟨R'-vn T,D+1,rfl,rfl,KD.out.1,hb2.trans (hb3.mono hb2.size)⟩,?_⟩
     simp only [strOf,vn_ns]
     exact KD.out.2
  ·obtain rfl:i=S.size:=by omega
   rw [nv_take_all S _ (Nat.le_refl _)] at hnv
   obtain ⟨hQ,hRe⟩:=rdiv_end hnv hR
   have hconv:=conv_bytes (P:=Tryz.prog) (SliceAt.owned hown) 66 5 37 Tryz.underlying66 Tryz.underlying5 Tryz.underlying37
   have hsz:(⟨qs.toArray⟩:ByteArray).size≤maxLen:=by
    show qs.toArray.size≤maxLen
    rw [List.size_toArray,hql];unfold maxLen;omega
   have hTr:=fun w=>rtrim_any ⟨qs.toArray⟩ w hsz
   have HV:Hid (vn ⟨qs.toArray⟩=vn S/vn T):=hQ
   rw [HV.out] at hTr
   have G5:=Lib.hid hTr
   clear hTr hown hQ hnv hql hsz HV
   rw [←hRe]
   generalize (⟨qs.toArray⟩:ByteArray)=Z at *
   go_wp2_with (go_at_call 99;refine (G5.out _).mono ?_;rintro e w' ⟨rfl,rfl⟩)
   go_ret3
   exact ⟨rfl,hbr⟩

set_option maxRecDepth 100000 in
set_option maxHeartbeats 2000000 in
theorem rdiv_wide (a b S T:ByteArray) (w:World) (hTa:∀w,Calls Tryz.prog 99 #[.string a] w fun e w'=>e=.returned (.string S)∧w=w') (hTb:∀w,Calls Tryz.prog 99 #[.string b] w fun e w'=>e=.returned (.string T)∧w=w')
  (hS:S.size≤137438953472) (hT:T.size≤137438953472) (hcase:S.size≤7∧7<T.size) (h0:vn T≠0) (hTn:T.size≠0) :
  Calls Tryz.prog 100 #[.string a,.string b] w (RetDiv w (vn S/vn T) (vn S%vn T) true):=by
 have HW1:=fun w=>short_yes S w hcase.1
 have n1:=toList_ne _ hTn
 have n2:=isEmpty_false _ hTn
 have HT:Hid (vn T<256^T.size):=vn_lt T
 have H0:Hid (vn T≠0):=h0
 have G1:=Lib.hid hTa
 have G2:=Lib.hid hTb
 have G3:=Lib.hid HW1
 have G4:=Lib.hid (fun w=>short_no T w (by unfold maxLen;omega) hcase.2)
 clear hTa hTb HW1 h0
 go_enter Tryz.func100,Tryz.ntmps100
 go_wp2_with (fail)
 refine (G1.out _).mono ?_;rintro e w' ⟨rfl,rfl⟩
 go_wp2_with (fail)
 refine (G2.out _).mono ?_;rintro e w' ⟨rfl,rfl⟩
 go_wp2_with (fail)
 refine (G3.out _).mono ?_;rintro e w' ⟨rfl,rfl⟩
 go_wp2_with (fail)
 refine (G4.out _).mono ?_;rintro e w' ⟨rfl,rfl⟩
 go_wp2_with (fail)
 go_loopw [11,12,13] (fun q r v wr=>∃(i R:Nat) (qs:List UInt8),v=.int .i64 i∧i≤S.size∧r=.string (ns R)∧R<vn T∧wr.ownsRow w.heap.size 5 1 q qs.length (byteVals qs)∧qs.length=i∧nv (S.data.toList.take i)=nv qs*vn T+R∧Below w.heap.size w wr) (fun _ _ v _=>S.size-(intOf v).toNat)
 case atStart=>exact ⟨0,0,[],rfl,Nat.zero_le _,by rw [ns_zero],Nat.pos_of_ne_zero H0.out,World.ownsRow_nil _ _ _ _,rfl,by simp [nv_nil],Below.refl _ _⟩
 case round =>
  obtain ⟨i,R,qs,rfl,hi,rfl,hR,hown,hql,hnv,hbr⟩:=hrel
  obtain ⟨wo,rfl⟩:∃wo:World,wo=wr:=⟨_,rfl⟩
  by_cases hlt:i<S.size
  ·obtain ⟨hv,hz⟩:=vn_snoc R S i hlt
   have hx:=S[i].toNat_lt
   have hstep:=nv_take_succ S i hlt
   have hRs:(ns R).size≤T.size:=(Sz.le (m:=R) HT.out (by omega)).str
   have hTr:=fun w=>rtrim_any (ns R++S.extract i (i+1)) w (by unfold maxLen;omega)
   rw [hv] at hTr
   generalize S[i].toNat=x at *
   have G5:=Lib.hid hTr
   have K:Hid (R<vn T∧wo.ownsRow w.heap.size 5 1 u11 qs.length (byteVals qs)∧nv (S.data.toList.take (i+1))=(nv qs*vn T+R)*256+x∧vn (ns R++S.extract i (i+1))=R*256+x):=⟨hR,hown,by rw [hstep,hnv],hv⟩
   have hsl:=fun w1=>str_lh (P:=Tryz.prog) Tryz.underlying37 S i (i+1) (by omega) (by omega) w1
   rw [show ((i+1:Nat):Int)=(i:Int)+1 by omega] at hsl
   clear hTr hv hR hown hnv hstep
   go_wp2_with (fail)
   refine (G5.out _).mono ?_;rintro e w' ⟨rfl,rfl⟩
   go_wp2_with (fail)
   go_loopw [12,14] (fun r d wr=>∃(R' D:Nat),r=.string (ns R')∧d=.int .i64 D∧R'+D*vn T=R*256+x∧Below wo.heap.size wo wr) (fun r _ _=>vn (strOf r))
   case atStart=>exact ⟨R*256+x,0,rfl,rfl,by omega,Below.refl _ _⟩
   case round =>
    obtain ⟨R',D,rfl,rfl,hRD,hb2⟩:=hrel
    have hR':(ns R').size≤T.size+1:=(Sz.le (m:=R') (n:=R*256+x) (by unfold Sz;rw [Nat.pow_succ];have:=HT.out;have:=K.out.1;omega) (by omega)).str
    have hDb:D≤255:=by
     rcases Nat.lt_or_ge D 256 with h|h
     ·omega
     ·have:=Nat.mul_le_mul_right (vn T) h
      have:=K.out.1
      omega
    have hvv:vn (ns R')=R':=vn_ns R'
    rcases Nat.lt_or_ge R' (vn T) with hRT|hRT
    ·have hs:=rsub_no (ns R') T wr (by omega) (by omega) (by rw [hvv];exact hRT)
     have GS:=Lib.hid hs
     have hown2:wr.ownsRow w.heap.size 5 1 u11 qs.length (byteVals qs):=owns_ext K.out.2.1 hb2
     have KD:Hid (R'+D*vn T=R*256+x∧R'<vn T):=⟨hRD,hRT⟩
     clear hs hRD hRT hvv
     go_wp2_with (fail)
     refine GS.out.mono ?_;rintro e w3 ⟨rfl,hb3⟩
     have hown3:=owns_ext hown2 hb3
     have hsz3:w.heap.size≤w3.heap.size:=Nat.le_trans hbr.size (Nat.le_trans hb2.size hb3.size)
     go_wp2_with (at_builtin;go_must (refine wpList_app rfl _ _ 66 rfl w.heap.size el_bytes _ _ _ rfl (hown3.alloc _) _ rfl 1 [.int .u8 (D:Int)] (SliceAt.lit _ _ 1 1 _ rfl (by decide)) rfl (one_int _ _) (by omega) (by decide) (le_alloc hsz3 _) ?_);intro v' w' hown' hg)
     have hb4:Below w.heap.size w w3:=hbr.trans ((hb2.trans (hb3.mono hb2.size)).mono hbr.size)
     have hbf:=(hb4.alloc hsz3 (Obj.cells #[Value.int IntKind.u8 (D:Int)] 5)).grown hg (le_alloc hsz3 _) (fun k hk=>(hown3.lt k hk).1)
     obtain ⟨hRD,hRT⟩:=KD.out
     have hD8:(UInt8.ofNat D).toNat=D:=by simp;omega
     refine ⟨⟨i+1,R',qs++[UInt8.ofNat D],rfl,by omega,rfl,hRT,?_,by simp [hql],?_,hbf⟩,by simp [intOf];omega⟩
     ·rw [List.length_append]
      simpa [byteVals,hD8] using hown'
     ·rw [K.out.2.2.1,nv_snoc,hD8,Nat.add_mul,Nat.add_mul,Nat.mul_right_comm]
      omega
    ·have hs:=rsub_yes (ns R') T wr (by omega) (by omega) (by rw [hvv];exact hRT)
     rw [hvv] at hs
     have GS:=Lib.hid hs
     have KD:Hid (R'-vn T+(D+1)*vn T=R*256+x∧R'-vn T<R'):=⟨by rw [Nat.add_mul];omega,by have:=H0.out;omega⟩
     clear hs hRD hRT hvv
     go_wp2_with (fail)
     refine GS.out.mono ?_;rintro e w3 ⟨rfl,hb3⟩
     go_wp2_with (fail)
     refine ⟨⟨R'-vn T,D+1,rfl,rfl,KD.out.1,hb2.trans (hb3.mono hb2.size)⟩,?_⟩
     simp only [strOf,vn_ns]
     exact KD.out.2
  ·obtain rfl:i=S.size:=by omega
   rw [nv_take_all S _ (Nat.le_refl _)] at hnv
   obtain ⟨hQ,hRe⟩:=rdiv_end hnv hR
   have hconv:=conv_bytes (P:=Tryz.prog) (SliceAt.owned hown) 66 5 37 Tryz.underlying66 Tryz.underlying5 Tryz.underlying37
   have hsz:(⟨qs.toArray⟩:ByteArray).size≤maxLen:=by
    show qs.toArray.size≤maxLen
    rw [List.size_toArray,hql];unfold maxLen;omega
   have hTr:=fun w=>rtrim_any ⟨qs.toArray⟩ w hsz
   have HV:Hid (vn ⟨qs.toArray⟩=vn S/vn T):=hQ
   rw [HV.out] at hTr
   have G5:=Lib.hid hTr
   clear hTr hown hQ hnv hql hsz HV
   rw [←hRe]
   generalize (⟨qs.toArray⟩:ByteArray)=Z at *
   go_wp2_with (go_at_call 99;refine (G5.out _).mono ?_;rintro e w' ⟨rfl,rfl⟩)
   go_ret3
   exact ⟨rfl,hbr⟩

theorem rdiv_any (a b:ByteArray) (w:World) (ha:a.size≤137438953472) (hb:b.size≤137438953472) (h0:vn b≠0) :
  Calls Tryz.prog 100 #[.string a,.string b] w (RetDiv w (vn a/vn b) (vn a%vn b) true):=by
 have z1:=ns_size_le a
 have z2:=ns_size_le b
 have hTa:=fun w=>rtrim_any a w (by unfold maxLen;omega)
 have hTb:=fun w=>rtrim_any b w (by unfold maxLen;omega)
 have v1:=vn_ns (vn a)
 have v2:=vn_ns (vn b)
 have hn:=ns_pos_size h0
 have key:Calls Tryz.prog 100 #[.string a,.string b] w (RetDiv w (vn (ns (vn a))/vn (ns (vn b))) (vn (ns (vn a))%vn (ns (vn b))) true):=by
  rcases Nat.lt_or_ge 7 (ns (vn a)).size with h|h
  ·exact rdiv_long a b _ _ w hTa hTb (by omega) (by omega) h (by rw [v2];exact h0) hn
  ·rcases Nat.lt_or_ge 7 (ns (vn b)).size with h'|h'
   ·exact rdiv_wide a b _ _ w hTa hTb (by omega) (by omega) ⟨h,h'⟩ (by rw [v2];exact h0) hn
   ·exact rdiv_small a b _ _ w hTa hTb h h' (by rw [v2];exact h0) hn
 rw [v1,v2] at key
 exact key
end

section
open Go.RowKit
open Go.IntWalk (wrap64_in)

set_option maxRecDepth 100000 in
set_option maxHeartbeats 1000000 in
theorem rgcd_any (a b:ByteArray) (w:World) (ha:a.size≤137438953472) (hb:b.size≤137438953472) :
  Calls Tryz.prog 105 #[.string a,.string b] w (RetNat w (Nat.gcd (vn a) (vn b))):=by
 have HT1:=fun w=>rtrim_any a w (by unfold maxLen;omega)
 have HT2:=fun w=>rtrim_any b w (by unfold maxLen;omega)
 have hsa:=ns_size_le a
 have hsb:=ns_size_le b
 have G1:=Lib.hid HT1
 have G2:=Lib.hid HT2
 generalize hg:Nat.gcd (vn a) (vn b)=g at *
 generalize vn a=x at *
 generalize vn b=y at *
 have G3:=Lib.hid hg
 clear HT1 HT2 hg
 go_enter Tryz.func105,Tryz.ntmps105
 go_wp2_with (fail)
 refine (G1.out _).mono ?_;rintro e w' ⟨rfl,rfl⟩
 go_wp2_with (fail)
 refine (G2.out _).mono ?_;rintro e w' ⟨rfl,rfl⟩
 go_wp2_with (fail)
 go_loopw [0,1] (fun u v wr=>∃p q:Nat,u=.string (ns p)∧v=.string (ns q)∧(ns p).size≤137438953472∧(ns q).size≤137438953472∧Nat.gcd p q=g∧Below w.heap.size w wr) (fun _ v _=>strVal v)
 case atStart=>exact ⟨x,y,rfl,rfl,by omega,by omega,G3.out,Below.refl _ _⟩
 case round =>
  obtain ⟨p,q,rfl,rfl,hp,hq,hgc,hbr⟩:=hrel
  by_cases h0:q=0
  ·subst h0
   have n1:=toList_nil (ns 0) (by rw [ns_zero];rfl)
   have H:Hid (g=p):=by rw [Hid,←hgc,Nat.gcd_zero_right]
   clear hgc
   go_wp2_with (fail)
   go_ret
   exact ⟨ret_str (by rw [H.out]),hbr⟩
  ·have n1:=toList_ne (ns q) (ns_pos_size h0)
   have n2:=isEmpty_false (ns q) (ns_pos_size h0)
   have n3:(!(ns q).toList.isEmpty)=true:=by rw [n2];rfl
   have hd:=rdiv_any (ns p) (ns q) wr hp hq (by rw [vn_ns];exact h0)
   rw [vn_ns,vn_ns] at hd
   have hlt:p%q<q:=Nat.mod_lt _ (by omega)
   have hsz:(ns (p%q)).size≤(ns q).size:=by rw [ns_size,ns_size];exact nb_mono (by omega)
   have H:Hid (p%q<q∧Nat.gcd q (p%q)=g∧(ns (p%q)).size≤(ns q).size):=⟨hlt,by rw [←hgc,Nat.gcd_comm q,←Nat.gcd_rec,Nat.gcd_comm],hsz⟩
   have HD:=Lib.hid hd
   clear hlt hgc hd h0 hsz
   go_wp2_with (fail)
   refine HD.out.mono ?_;rintro e w1 ⟨rfl,hb1⟩
   go_wp2_with (fail)
   refine ⟨⟨q,p%q,rfl,rfl,hq,?_,H.out.2.1,hbr.trans (hb1.mono hbr.size)⟩,?_⟩
   ·have:=H.out.2.2;omega
   ·simp only [strVal,vn_ns];exact H.out.1
end
end Go.Proofs.YthehegidpamldaaGreatDoor
