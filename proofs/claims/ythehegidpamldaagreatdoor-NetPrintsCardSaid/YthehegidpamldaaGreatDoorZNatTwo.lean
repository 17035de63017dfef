/- Joined: LimbQ NatJ NatK NatL NatM NatN NatO KitB NatQ NatR NatS Acc. Conditions: as said at each part. -/
import Derived.Test.YthehegidpamldaaGreatDoorZNatOne
import Derived.BigRegion
import Derived.Laws.ShiftsVar
import Derived.Lib.Bytealg
import Derived.Deep.RegionWith
set_option linter.unusedVariables false
set_option linter.unusedSimpArgs false
namespace Go.Proofs.YthehegidpamldaaGreatDoor
section
theorem pow32 (k b:Nat):2^(32*k+b)=4294967296^k*2^b:=by rw [Nat.pow_add,Nat.pow_mul]
theorem long_bit (l:List Nat) (s k b x:Nat) (hs:s=32*k+b) (hb:b<32) (hk:k<l.length) (hl:Lim l) (hx:l.getD k default=x) :
  lv l/2^s=2*(lv l/2^(s+1))+x/2^b%2:=by
 have h1:=lv_lt (lim_take hl k)
 rw [List.length_take,Nat.min_eq_left (by omega)] at h1
 have hpos:0<4294967296^k:=Nat.pow_pos (by omega)
 have e1:lv l/2^s=(x+4294967296*lv (l.drop (k+1)))/2^b:=by
  rw [hs,pow32,←Nat.div_div_eq_div_mul,lv_at l k hk,hx,Nat.add_mul_div_left _ _ hpos,Nat.div_eq_of_lt h1,Nat.zero_add]
 have e2:(x+4294967296*lv (l.drop (k+1)))/2^b=x/2^b+2*(2^(31-b)*lv (l.drop (k+1))):=by
  have:4294967296=2^b*(2*2^(31-b)):=by
   rw [←Nat.pow_succ',←Nat.pow_add,show b+(31-b).succ=32 by omega]
  rw [this,Nat.mul_assoc,Nat.add_mul_div_left _ _ (Nat.pow_pos (by omega)),Nat.mul_assoc]
 have e3:lv l/2^(s+1)=lv l/2^s/2:=by rw [Nat.pow_succ,Nat.div_div_eq_div_mul]
 rw [e3,e1,e2]
 omega
theorem lv_set (l:List Nat) (k y:Nat) (h:k<l.length):lv (l.set k y)+4294967296^k*l.getD k default=lv l+4294967296^k*y:=by
 rw [lv_at l k h,lv_at (l.set k y) k (by simpa using h),List.take_set_of_le (Nat.le_refl _),List.drop_set_of_lt (by omega)]
 have e:(l.set k y).getD k default=y:=by rw [List.getD_eq_getElem?_getD,List.getElem?_set_self h];rfl
 rw [e,Nat.mul_add,Nat.mul_add]
 omega
theorem lim_set {l:List Nat} (h:Lim l) (k y:Nat) (hy:y<4294967296):Lim (l.set k y):=fun x hx=>by
 rcases List.mem_or_eq_of_mem_set hx with h'|rfl
 ·exact h x h'
 ·exact hy
theorem set_bit (l:List Nat) (Q s k b q:Nat) (hs:s=32*k+b) (hb:b<32) (hk:k<l.length) (hl:Lim l) (hq:l.getD k default=q) (h:lv l=Q*2^(s+1)) :
  q|||2^b=q+2^b∧q+2^b<4294967296∧lv (l.set k (q+2^b))=(2*Q+1)*2^s:=by
 have h1:=lv_lt (lim_take hl k)
 rw [List.length_take,Nat.min_eq_left (by omega)] at h1
 have hqlt:q<4294967296:=by rw [←hq];exact lim_get hl k default hk
 have hpos:0<4294967296^k:=Nat.pow_pos (by omega)
 have hat:=lv_at l k hk
 rw [hq,h,hs,show 32*k+b+1=32*k+(b+1) by omega,pow32] at hat
 have hlo:lv (l.take k)=0:=by
  have:(Q*(4294967296^k*2^(b+1)))%4294967296^k=0:=by rw [Nat.mul_left_comm];exact Nat.mul_mod_right _ _
  rw [hat,Nat.add_mul_mod_self_left,Nat.mod_eq_of_lt h1] at this
  exact this
 rw [hlo,Nat.zero_add,Nat.mul_left_comm] at hat
 have hq2:=Nat.eq_of_mul_eq_mul_left hpos hat
 have hB:4294967296=2^(b+1)*2^(31-b):=by rw [←Nat.pow_add,show b+1+(31-b)=32 by omega]
 have hmod:q%2^(b+1)=0:=by
  have:(Q*2^(b+1))%2^(b+1)=0:=Nat.mul_mod_left _ _
  rw [hq2,hB,Nat.mul_assoc,Nat.add_mul_mod_self_left] at this
  exact this
 have hqd:q=q/2^(b+1)*2^(b+1):=by have:=Nat.div_add_mod q (2^(b+1));rw [hmod,Nat.mul_comm] at this;omega
 have hp2:2^b<2^(b+1):=Nat.pow_lt_pow_right (by omega) (by omega)
 refine ⟨?_,?_,?_⟩
 ·conv=>lhs;rw [hqd]
  have:q/2^(b+1)*2^(b+1)|||2^b=q/2^(b+1)*2^(b+1)+2^b:=by
   rw [←Nat.shiftLeft_eq,Nat.shiftLeft_add_eq_or_of_lt hp2]
  rw [this,←hqd]
 ·have hc:q/2^(b+1)<2^(31-b):=by
   rw [Nat.div_lt_iff_lt_mul (Nat.pow_pos (by omega)),Nat.mul_comm,←hB];exact hqlt
  have:=Nat.mul_le_mul_right (2^(b+1)) (show q/2^(b+1)+1≤2^(31-b) by omega)
  rw [Nat.add_mul,Nat.one_mul,←hqd,Nat.mul_comm (2^(31-b)),←hB] at this
  omega
 ·have:=lv_set l k (q+2^b) hk
  rw [hq,Nat.mul_add,h] at this
  have e:2^s=4294967296^k*2^b:=by rw [hs,pow32]
  rw [Nat.add_mul,Nat.one_mul,e]
  have e2:Q*2^(s+1)=2*Q*2^s:=by rw [Nat.pow_succ,Nat.mul_comm (2^s) 2,←Nat.mul_assoc,Nat.mul_comm Q 2]
  rw [e2,e] at this
  omega
theorem long_top (l:List Nat) (hl:Lim l):lv l/2^(32*l.length)=0:=by
 rw [Nat.pow_mul]
 exact Nat.div_eq_of_lt (lv_lt hl)
theorem get_zero (l:List Nat) (j:Nat) (hj:j<l.length) (h:lv l<4294967296^j):l.getD j default=0:=by
 rw [lv_at l j hj] at h
 rcases Nat.eq_zero_or_pos (l.getD j default) with h0|h0
 ·exact h0
 ·have:=Nat.mul_le_mul_left (4294967296^j) (show 1≤l.getD j default+4294967296*lv (l.drop (j+1)) by omega)
  omega
theorem getD_drop (l m:List Nat) (i:Nat) (h:l.drop i=m.drop i):l.getD i default=m.getD i default:=by
 have:=congrArg (fun z=>z[0]?) h
 simp only [List.getElem?_drop,Nat.add_zero] at this
 rw [List.getD_eq_getElem?_getD,this,List.getD_eq_getElem?_getD]
theorem mul_step (os os0 m:List Nat) (i k c x y o t:Nat) (hk:k<m.length) (hy:m.getD k default=y) (hik:i+k<os.length) (ho:os.getD (i+k) default=o)
  (ht:t=c+(x*y+o)) (h:lv os+4294967296^(i+k)*c=lv os0+4294967296^i*(x*lv (m.take k))) :
  lv (os.set (i+k) (t%4294967296))+4294967296^(i+(k+1))*(t/4294967296)=lv os0+4294967296^i*(x*lv (m.take (k+1))):=by
 have h1:=lv_set os (i+k) (t%4294967296) hik
 rw [ho] at h1
 have h2:4294967296^(i+k)*t=4294967296^(i+k)*(t%4294967296)+4294967296^(i+(k+1))*(t/4294967296):=by
  rw [←Nat.add_assoc,Nat.pow_succ,Nat.mul_assoc,←Nat.mul_add,Nat.mod_add_div]
 have h3:4294967296^(i+k)*t=4294967296^(i+k)*c+(4294967296^(i+k)*(x*y)+4294967296^(i+k)*o):=by rw [ht,Nat.mul_add,Nat.mul_add]
 have h4:4294967296^i*(x*lv (m.take (k+1)))=4294967296^i*(x*lv (m.take k))+4294967296^(i+k)*(x*y):=by
  rw [take_snoc m k hk,lv_snoc,List.length_take,Nat.min_eq_left (by omega),hy,Nat.mul_add,Nat.mul_add,Nat.pow_add,Nat.mul_left_comm x,Nat.mul_assoc]
 omega
theorem mul_bound (c x y o:Nat) (hc:c<4294967296) (hx:x<4294967296) (hy:y<4294967296) (ho:o<4294967296):c+(x*y+o)<18446744073709551616:=by
 have h1:=Nat.mul_le_mul (show x≤4294967295 by omega) (show y≤4294967295 by omega)
 omega
theorem mul_row (os os0 l m:List Nat) (i c x:Nat) (hi:i<l.length) (hx:l.getD i default=x) (hlen:os0.length=l.length+m.length) (hos:os.length=os0.length)
  (h0:lv os0=lv (l.take i)*lv m) (hl:Lim l) (hm:Lim m) (hd:os.drop (i+m.length)=os0.drop (i+m.length))
  (h:lv os+4294967296^(i+m.length)*c=lv os0+4294967296^i*(x*lv (m.take m.length))) :
  lv (os.set (i+m.length) c)=lv (l.take (i+1))*lv m:=by
 rw [List.take_of_length_le (Nat.le_refl _)] at h
 have hlt:lv os0<4294967296^(i+m.length):=by
  have a1:=lv_lt (lim_take hl i)
  rw [List.length_take,Nat.min_eq_left (by omega)] at a1
  have a2:=lv_lt hm
  rw [h0,Nat.pow_add]
  exact Nat.mul_lt_mul'' a1 a2
 have hz:os.getD (i+m.length) default=0:=by rw [getD_drop os os0 _ hd];exact get_zero os0 _ (by omega) hlt
 have h1:=lv_set os (i+m.length) c (by omega)
 rw [hz] at h1
 have h2:lv (l.take (i+1))*lv m=lv (l.take i)*lv m+4294967296^i*(x*lv m):=by
  rw [take_snoc l i hi,lv_snoc,List.length_take,Nat.min_eq_left (by omega),hx,Nat.add_mul,Nat.mul_assoc]
 omega
end

section
open Go.RowKit

def RetLong (w:World) (q r:Nat) (e:Ending) (w':World):Prop:=∃v l v2 l2,e=.returned (.tuple #[v,v2])∧Limbs w' v l∧Can l∧lv l=q∧Limbs w' v2 l2∧Can l2∧lv l2=r∧Below w.heap.size w w'

theorem u32_and1 (y:Nat) (hy:y<4294967296):bits .and .u32 (y:Int) 1=((y%2:Nat):Int):=by
 have h:=u32_and_nat y 1 hy (by omega)
 rw [Nat.and_one_is_mod] at h
 exact h
theorem or_bit32 (y b:Nat) (hb:b<32) (hy:y<4294967296) (h:y|||2^b=y+2^b):bits .or .u32 (y:Int) (2^b%4294967296)=((y+2^b:Nat):Int):=by
 have hp:2^b<4294967296:=by
  have:2^b≤2^31:=Nat.pow_le_pow_right (by omega) (by omega)
  omega
 have h2:=u32_or_nat y (2^b) hy hp
 rw [h] at h2
 have e:(2:Int)^b%4294967296=((2^b:Nat):Int):=by
  have h3:(2:Int)^b=((2^b:Nat):Int):=by rw [Int.natCast_pow];rfl
  rw [h3]
  generalize 2^b=z at hp
  omega
 rw [e,h2]
theorem shr_and1 (x b:Nat) (hx:x<4294967296):bits .and .u32 ((x:Int)/2^b) 1=((x/2^b%2:Nat):Int):=by
 have e:(x:Int)/2^b=((x/2^b:Nat):Int):=by rw [Int.natCast_ediv,Int.natCast_pow];rfl
 rw [e,u32_and1 _ (Nat.lt_of_le_of_lt (Nat.div_le_self _ _) hx)]

set_option maxRecDepth 100000 in
set_option maxHeartbeats 2000000 in
theorem long_any (l m:List Nat) (v1 v2:Value) (w:World) (h1:Limbs w v1 l) (h2:Limbs w v2 m) (hcm:Can m) (hm0:0<lv m) (hbig:l.length≤274877906944) (hbm:m.length<274877906944) :
  Calls Tryz.prog 151 #[v1,v2] w (RetLong w (lv l/lv m) (lv l%lv m)):=by
 have hlim0:=h1.2
 obtain ⟨a1,p1,rfl,hnc1,hcm1,hcl⟩:=h1.op
 unfold maxLen at hcm1
 obtain ⟨w0,hmk,hw0⟩:=make_full el_limbs w .i64 .i64 l.length (by omega) (by decide)
 have hblk0:=Blk.newA w 145 (madeCells #[Value.int IntKind.u32 0] l.length)
 rw [toList_madeCells_one] at hblk0
 have hbm0:=(Below.refl w.heap.size w).alloc (Nat.le_refl _) (.cells (madeCells #[Value.int IntKind.u32 0] l.length) 145)
 have hw0':w0=w.alloc (.cells (madeCells #[Value.int IntKind.u32 0] l.length) 145):=by rw [hw0];simp [Value.cells]
 rw [←hw0'] at hblk0 hbm0
 have hrep:List.replicate l.length (Value.int .u32 0)=limbVals (List.replicate l.length 0):=by simp [limbVals]
 rw [hrep] at hblk0
 clear h1 hw0 hw0' hrep
 go_enter Tryz.func151,Tryz.ntmps151
 go_wp2
 go_loopw [5,6] (fun r i wr=>∃(t Q:Nat) (ql rl:List Nat),i=.int .i64 ((t:Int)-1)∧t≤32*l.length∧Blk wr w.heap.size 145 (limbVals ql)∧ql.length=l.length∧Lim ql∧Limbs wr r rl∧Can rl∧lv rl<lv m∧lv l/2^t=lv m*Q+lv rl∧lv ql=Q*2^t∧Below w.heap.size w wr) (fun _ i _=>(intOf i+1).toNat)
 case atStart=>exact ⟨32*l.length,0,_,[],by go_num,Nat.le_refl _,hblk0,by simp,fun x hx=>by rw [List.eq_of_mem_replicate hx];omega,⟨SliceAt.nil _ _,lim_nil⟩,can_nil,by simpa [lv_nil] using hm0,by rw [long_top l hlim0];simp [lv_nil],by rw [lv_zeros];simp,hbm0⟩
 case round =>
  obtain ⟨t,Q,ql,rl,rfl,ht,hblk,hql,hlq,hrl,hcr,hrm,hdiv,hlq2,hbr⟩:=hrel
  clear hmk hblk0 hbm0
  by_cases h0:0<t
  ·obtain ⟨s,rfl⟩:∃s,t=s+1:=⟨t-1,by omega⟩
   rw [show ((s+1:Nat):Int)-1=(s:Int) by omega]
   obtain ⟨k,b,hk,hb,hs,hsd,hsm⟩:∃k b:Nat,k<l.length∧b<32∧s=32*k+b∧(s:Int)/32=(k:Int)∧(s:Int)%32=(b:Int):=⟨s/32,s%32,by omega,by omega,by omega,by omega,by omega⟩
   obtain ⟨⟨b1,o1,rfl,hc1⟩,hx1⟩:=hcl k hk
   have hc1r:=(ext_cell hbr _ (by rw [hc1];simp)).trans hc1
   generalize hxx:l.getD k default=x at *
   have H:Hid (s=32*k+b∧l.getD k default=x∧Blk wr w.heap.size 145 (limbVals ql)∧ql.length=l.length∧Limbs wr u5 rl∧Can rl∧lv rl<lv m∧lv l/2^(s+1)=lv m*Q+lv rl∧lv ql=Q*2^(s+1)):=⟨hs,hxx,hblk,hql,hrl,hcr,hrm,hdiv,hlq2⟩
   clear hs hxx hblk hql hrl hcr hrm hdiv hlq2 hcl hc1
   have hand:=shr_and1 x b hx1
   have hbit:x/2^b%2≤1:=by omega
   generalize hbb:x/2^b%2=bit at *
   have HB:=Lib.hid hbb;clear hbb
   go_wp2_with (fail)
   obtain ⟨hs,hxx,hblk,hql,hrl,hcr,hrm,hdiv,hlq2⟩:=H.out
   have hrlen:rl.length≤m.length:=can_length_le hcr (Nat.lt_trans hrm (lv_lt h2.2))
   clear hs hxx hql hdiv hlq2
   refine (twice_any rl _ bit wr hrl hbit (by omega)).mono ?_
   rintro e w1 ⟨vr,r1,rfl,hr1,hcr1,hv1,hfr1,hb1⟩
   have h2w:=h2.ext (hbr.mono (Nat.le_refl _))
   have h2w1:=h2w.ext hb1
   have hless:=less_any r1 m vr v2 w1 hr1 h2w1 hcr1 hcm
   have hblk1:=hblk.ext hb1
   have hltB:w.heap.size<w1.heap.size:=hblk1.lt
   have hbr1:=hbr.trans (hb1.mono hbr.size)
   clear hblk hbr hrl hcr
   by_cases hlt:lv r1<lv m
   ·rw [decide_eq_true hlt] at hless
    have HL:=Lib.hid hlt
    have H1:=Lib.hid hv1
    clear hlt hrm hv1
    go_wp2_with (fail)
    refine hless.mono ?_
    rintro e w2 ⟨rfl,hb2⟩
    go_wp2_with (fail)
    obtain ⟨hs,hxx,hblk,hql,hrl,hcr,hrm,hdiv,hlq2⟩:=H.out
    have hlb:=long_bit l s k b x hs hb hk hlim0 hxx
    rw [hdiv,HB.out] at hlb
    refine ⟨⟨s,2*Q,ql,r1,rfl,by omega,hblk1.ext hb2,hql,hlq,hr1.ext hb2,hcr1,HL.out,?_,?_,hbr1.trans (hb2.mono hbr1.size)⟩,by simp [intOf]⟩
    ·rw [hlb,H1.out,Nat.mul_add,←Nat.mul_assoc,Nat.mul_comm 2 (lv m),Nat.mul_assoc];omega
    ·rw [hlq2,Nat.pow_succ,Nat.mul_comm (2^s) 2,←Nat.mul_assoc,Nat.mul_comm Q 2]
   ·rw [decide_eq_false hlt] at hless
    have hlen:m.length≤r1.length:=by
     rcases Nat.lt_or_ge r1.length m.length with h|h
     ·exact absurd (can_length_lt hr1.2 hcm h) hlt
     ·exact h
    have hr1len:r1.length≤m.length+1:=by
     refine can_length_le hcr1 ?_
     have:=lv_lt h2.2
     rw [hv1,Nat.pow_succ];omega
    have hmin:=fun w2 h1 h2=>minus_any r1 m vr v2 w2 h1 h2 (by omega) hlen (by omega)
    have HL:Hid (¬lv r1<lv m∧lv rl<lv m∧lv r1=2*lv rl+bit):=⟨hlt,hrm,hv1⟩
    have HM:=Lib.hid hmin
    clear hlt hrm hv1 hmin hlen hr1len
    go_wp2_with (fail)
    refine hless.mono ?_
    rintro e w2 ⟨rfl,hb2⟩
    go_wp2_with (fail)
    refine (HM.out w2 (hr1.ext hb2) (h2w1.ext hb2)).mono ?_
    rintro e w3 ⟨vq,r2,rfl,hr2,hcr2,hv2,hfr2,hb3⟩
    have hblk3:=(hblk1.ext hb2).ext hb3
    have hbr3:=(hbr1.trans (hb2.mono hbr1.size)).trans (hb3.mono (Nat.le_trans hbr1.size hb2.size))
    obtain ⟨hs,hxx,hblk,hql,hrl,hcr,hrm,hdiv,hlq2⟩:=H.out
    have hlb:=long_bit l s k b x hs hb hk hlim0 hxx
    have hkq:k<ql.length:=by omega
    have hqq:=lim_get hlq k default hkq
    obtain ⟨hor,hlt2,hset⟩:=set_bit ql Q s k b _ hs hb hkq hlq rfl hlq2
    have hcell:=hblk3.cell k (by simpa [limbVals] using hkq)
    rw [show (limbVals ql)[k]'(by simpa [limbVals] using hkq)=Value.int .u32 ((ql.getD k default:Nat):Int) by simp [limbVals,List.getD_eq_getElem?_getD,List.getElem?_eq_getElem hkq]] at hcell
    have hfr:=hblk3.frozen k
    generalize hyy:ql.getD k default=y at *
    have H3:Hid (y|||2^b=y+2^b∧y+2^b<4294967296∧lv (ql.set k (y+2^b))=(2*Q+1)*2^s∧lv l/2^s=2*(lv l/2^(s+1))+x/2^b%2∧Blk w3 w.heap.size 145 (limbVals ql)∧lv r2=lv r1-lv m):=⟨hor,hlt2,hset,hlb,hblk3,hv2⟩
    clear hs hxx hblk hql hrl hcr hrm hdiv hlq2 hlb hor hlt2 hset hyy hblk3 hblk1 hless hr1 h2w h2w1 hv2
    go_wp2
    go_region
    go_wp2
    obtain ⟨hs,hxx,hblk,hql,hrl,hcr,hrm,hdiv,hlq2⟩:=H.out
    obtain ⟨hor,hlt2,hset,hlb,hblk3,hv2⟩:=H3.out
    obtain ⟨hnl,hrl2,hv1⟩:=HL.out
    rw [hdiv,HB.out] at hlb
    have hval:=or_bit32 y b hb hqq hor
    refine ⟨⟨s,2*Q+1,ql.set k (y+2^b),r2,rfl,by omega,?_,by simpa using hql,lim_set hlq k _ hlt2,?_,hcr2,by omega,?_,hset,(hbr3.setCell (Nat.le_refl _) _).drew⟩,by simp [intOf]⟩
    ·have:=hblk3.set k (Value.int .u32 ((y+2^b:Nat):Int))
     rw [hval]
     rw [show limbVals (ql.set k (y+2^b))=(limbVals ql).set k (Value.int .u32 ((y+2^b:Nat):Int)) by simp [limbVals,List.map_set]]
     exact this
    ·exact ⟨hr2.1.setOther (a:=⟨w.heap.size,k,none⟩) hfr2 (Nat.lt_of_lt_of_le hltB hb2.size) _,hr2.2⟩
    ·rw [hlb,hv2,hv1,Nat.mul_add,Nat.mul_add,Nat.mul_left_comm];omega
  ·obtain rfl:t=0:=by omega
   rw [Nat.pow_zero,Nat.div_one] at hdiv
   rw [Nat.pow_zero,Nat.mul_one] at hlq2
   have e1:lv l/lv m=lv ql:=by rw [hdiv,hlq2,Nat.mul_add_div hm0,Nat.div_eq_of_lt hrm];rfl
   have e2:lv l%lv m=lv rl:=by rw [hdiv,Nat.mul_add_mod,Nat.mod_eq_of_lt hrm]
   have hL:Limbs wr (.slice (some ⟨w.heap.size,0,none⟩) l.length l.length) ql:=by
    refine ⟨⟨l.length,l.length,by unfold maxLen;omega,Nat.le_refl _,by unfold maxLen;omega,by simpa [limbVals] using hql,.inr ⟨_,0,rfl,fun i hi=>?_⟩⟩,hlq⟩
    rw [Nat.zero_add];exact hblk.cell i hi
   have H:Hid (lv l/lv m=lv ql∧lv l%lv m=lv rl∧Limbs wr u5 rl∧Can rl):=⟨e1,e2,hrl,hcr⟩
   clear hcl hblk hql hrm hdiv hlq2 e1 e2 hrl hcr
   go_wp2_with (go_at_call 152;refine (ltrim_any _ _ _ hL).mono ?_;rintro e w' ⟨v',rfl,hl',hf',rfl⟩)
   go_ret2
   obtain ⟨e1,e2,hrl,hcr⟩:=H.out
   exact ⟨_,_,_,_,rfl,hl',can_ltrim _,by rw [lv_ltrim,e1],hrl,hcr,e2.symm,hbr⟩
end

section
open Go.RowKit

def cmpN (a b:Nat):Int:=if a<b then -1 else if a=b then 0 else 1

theorem compare_same:∀(l m:List UInt8),l.length=m.length→Lib.compareBytes l m=cmpN (nv l) (nv m)
 | [],[],_=>by simp [Lib.compareBytes,cmpN]
 | a::l,b::m,h=>by
  have hl:l.length=m.length:=by simpa using h
  have ih:=compare_same l m hl
  rw [Lib.compareBytes,ih,nv_cons,nv_cons,hl]
  have h1:=nv_lt l
  have h2:=nv_lt m
  rw [hl] at h1
  unfold cmpN
  rcases Nat.lt_trichotomy a.toNat b.toNat with hab|hab|hab
  ·have:a<b:=hab
   rw [if_pos this]
   have:=Nat.mul_le_mul_right (256^m.length) (show a.toNat+1≤b.toNat by omega)
   rw [Nat.add_mul] at this
   rw [if_pos (by omega)]
  ·have e:a=b:=UInt8.toNat_inj.1 hab
   subst e
   have n1:¬a<a:=fun h=>by have:a.toNat<a.toNat:=h;omega
   rw [if_neg n1,if_neg n1]
   congr 1
   ·simp
   ·simp
  ·have h3:b<a:=hab
   have h4:¬a<b:=fun h=>by have:a.toNat<b.toNat:=h;omega
   rw [if_neg h4,if_pos h3]
   have:=Nat.mul_le_mul_right (256^m.length) (show b.toNat+1≤a.toNat by omega)
   rw [Nat.add_mul] at this
   rw [if_neg (by omega),if_neg (by omega)]

set_option maxRecDepth 100000 in
theorem compareString_any (a b:ByteArray) (w:World) :
  Calls Tryz.prog 177 #[.string a,.string b] w fun e w'=>e=.returned (.int .i64 (Lib.compareBytes a.data.toList b.data.toList))∧w=w':=by
 go_enter Tryz.func177,Tryz.ntmps177
 go_wp2_with (fail)
 rw [run_callFunc_extern Tryz.func181 (by kernel_rfl) (by kernel_rfl) (by kernel_rfl) (e:=Extern.BytealgCompare.compare) (by kernel_rfl),Lib.run_compareString]
 simp only [Result.andThen]
 rw [Oper.upon_value]
 go_wp2
 go_ret
 exact ⟨rfl,rfl⟩
theorem compare_any (a b:ByteArray) (w:World) :
  Calls Tryz.prog 167 #[.string a,.string b] w fun e w'=>e=.returned (.int .i64 (Lib.compareBytes a.data.toList b.data.toList))∧w=w':=by
 go_enter Tryz.func167,Tryz.ntmps167
 go_wp2_with (go_at_call 177;refine (compareString_any _ _ _).mono ?_;rintro e w' ⟨rfl,rfl⟩)
 go_ret
 exact ⟨rfl,rfl⟩

theorem ns_size_lt {a b:Nat} (h:(ns a).size<(ns b).size):a<b:=by
 rw [ns_size,ns_size] at h
 rcases Nat.lt_or_ge a b with h1|h1
 ·exact h1
 ·have:=nb_mono h1;omega

set_option maxHeartbeats 1000000 in
theorem cmp_any (a b:ByteArray) (w:World) (ha:a.size≤maxLen) (hb:b.size≤maxLen) :
  Calls Tryz.prog 150 #[.string a,.string b] w fun e w'=>e=.returned (.int .i64 (cmpN (vn a) (vn b)))∧w=w':=by
 have hA:=ns_size_le a
 have hB:=ns_size_le b
 have h1:=@ns_size_lt (vn a) (vn b)
 have h2:=@ns_size_lt (vn b) (vn a)
 have hcp:=compare_any (ns (vn a)) (ns (vn b)) w
 have h3:(ns (vn a)).size=(ns (vn b)).size→Lib.compareBytes (ns (vn a)).data.toList (ns (vn b)).data.toList=cmpN (vn a) (vn b):=fun h=>by
  rw [compare_same _ _ (by rw [bytes_size,bytes_size];exact h)]
  have e1:nv (ns (vn a)).data.toList=vn a:=vn_ns _
  have e2:nv (ns (vn b)).data.toList=vn b:=vn_ns _
  rw [e1,e2]
 unfold maxLen at ha hb
 have HT1:=fun w=>trim_any a w (by unfold maxLen;exact ha)
 have HT2:=fun w=>trim_any b w (by unfold maxLen;exact hb)
 generalize ns (vn a)=A at *
 generalize ns (vn b)=B at *
 have G1:=Lib.hid HT1
 have G2:=Lib.hid HT2
 clear HT1 HT2
 rcases Nat.lt_trichotomy A.size B.size with hlt|heq|hgt
 ·have hd:((A.size:Int) != (B.size:Int))=true:=by simp;omega
  have H:Hid (cmpN (vn a) (vn b)=-1):=by rw [Hid,cmpN,if_pos (h1 hlt)]
  clear h1 h2 h3 hcp
  go_enter Tryz.func150,Tryz.ntmps150
  go_wp2_with (fail)
  refine (G1.out _).mono ?_;rintro e w' ⟨rfl,rfl⟩
  go_wp2_with (fail)
  refine (G2.out _).mono ?_;rintro e w' ⟨rfl,rfl⟩
  go_wp2_with (fail)
  go_ret
  exact ⟨ret_int H.out.symm,rfl⟩
 ·have hd:((A.size:Int) != (B.size:Int))=false:=by simp [heq]
  rw [h3 heq] at hcp
  have HC:=Lib.hid hcp
  clear h1 h2 h3 hcp heq
  go_enter Tryz.func150,Tryz.ntmps150
  go_wp2_with (fail)
  refine (G1.out _).mono ?_;rintro e w' ⟨rfl,rfl⟩
  go_wp2_with (fail)
  refine (G2.out _).mono ?_;rintro e w' ⟨rfl,rfl⟩
  go_wp2_with (fail)
  refine HC.out.mono ?_;rintro e w' ⟨rfl,rfl⟩
  go_wp2_with (fail)
  go_ret
  exact ⟨rfl,rfl⟩
 ·have hd:((A.size:Int) != (B.size:Int))=true:=by simp;omega
  have H:Hid (cmpN (vn a) (vn b)=1):=by have:=h2 hgt;rw [Hid,cmpN,if_neg (by omega),if_neg (by omega)]
  clear h1 h2 h3 hcp
  go_enter Tryz.func150,Tryz.ntmps150
  go_wp2_with (fail)
  refine (G1.out _).mono ?_;rintro e w' ⟨rfl,rfl⟩
  go_wp2_with (fail)
  refine (G2.out _).mono ?_;rintro e w' ⟨rfl,rfl⟩
  go_wp2_with (fail)
  go_ret
  exact ⟨ret_int H.out.symm,rfl⟩

def RetNatB (w:World) (n:Nat) (b:Bool) (e:Ending) (w':World):Prop:=e=.returned (.tuple #[.string (ns n),.bool b])∧Below w.heap.size w w'

set_option maxHeartbeats 1000000 in
theorem sub_no (a b:ByteArray) (w:World) (ha:a.size≤maxLen) (hb:b.size≤maxLen) (h:vn a<vn b) :
  Calls Tryz.prog 176 #[.string a,.string b] w (RetNatB w 0 false):=by
 have hc:=cmp_any a b w ha hb
 rw [cmpN,if_pos h] at hc
 have HC:=Lib.hid hc
 clear hc h
 go_enter Tryz.func176,Tryz.ntmps176
 go_wp2_with (fail)
 refine HC.out.mono ?_;rintro e w' ⟨rfl,rfl⟩
 go_wp2_with (fail)
 go_ret2
 exact ⟨by rw [show ns 0=⟨#[]⟩ by unfold ns;rw [nb_zero]];rfl,Below.refl _ _⟩

set_option maxRecDepth 100000 in
set_option maxHeartbeats 1000000 in
theorem sub_yes (a b:ByteArray) (w:World) (ha:a.size≤274877906944) (hb:b.size≤274877906944) (h:vn b≤vn a) :
  Calls Tryz.prog 176 #[.string a,.string b] w (RetNatB w (vn a-vn b) true):=by
 have hc:=cmp_any a b w (by unfold maxLen;omega) (by unfold maxLen;omega)
 have hva:=vn_lt a
 have hvb:=vn_lt b
 have h0:0≤cmpN (vn a) (vn b):=by unfold cmpN;rw [if_neg (by omega)];split<;>omega
 generalize cmpN (vn a) (vn b)=c at *
 have HC:=Lib.hid hc
 have H:Hid (vn b≤vn a∧vn a<256^a.size∧vn b<256^b.size):=⟨h,hva,hvb⟩
 clear hc h hva hvb
 go_enter Tryz.func176,Tryz.ntmps176
 go_wp2_with (fail)
 refine HC.out.mono ?_;rintro e w' ⟨rfl,rfl⟩
 go_wp2_with (fail)
 refine (split_any a w (by omega)).mono ?_
 rintro e w1 ⟨v1,l,rfl,hl,hcl,hvl,_,hb1⟩
 have K1:Hid (Can l∧lv l=vn a):=⟨hcl,hvl⟩
 clear hcl hvl
 go_wp2_with (fail)
 refine (split_any b w1 (by omega)).mono ?_
 rintro e w2 ⟨v2,m,rfl,hm,hcm,hvm,_,hb2⟩
 have K2:Hid (Can m∧lv m=vn b):=⟨hcm,hvm⟩
 clear hcm hvm
 have hl2:=hl.ext hb2
 have hll:=limbs_le K1.out.1 K1.out.2 H.out.2.1
 go_wp2_with (fail)
 refine (minus_any l m v1 v2 w2 hl2 hm (by rw [K1.out.2,K2.out.2];exact H.out.1) ?_ (by omega)).mono ?_
 ·rcases Nat.lt_or_ge l.length m.length with h|h
  ·have:=can_length_lt hl.2 K2.out.1 h
   rw [K1.out.2,K2.out.2] at this
   have:=H.out.1;omega
  ·exact h
 rintro e w3 ⟨v3,d,rfl,hd,hcd,hvd,_,hb3⟩
 have hdl:d.length≤(a.size+3)/4:=limbs_le (n:=vn a-vn b) hcd (by rw [hvd,K1.out.2,K2.out.2]) (by have:=H.out.2.1;omega)
 have K3:Hid (lv d=vn a-vn b):=by rw [Hid,hvd,K1.out.2,K2.out.2]
 clear hvd hcd
 go_wp2_with (fail)
 refine (lnat_any d v3 w3 hd (by omega)).mono ?_
 rintro e w4 ⟨rfl,hb4⟩
 rw [K3.out]
 go_wp2_with (fail)
 go_ret2
 have s1:=hb1.size
 have s2:=hb2.size
 have s3:=hb3.size
 exact ⟨rfl,((hb1.trans (hb2.mono s1)).trans (hb3.mono (by omega))).trans (hb4.mono (by omega))⟩
end

section
open Go.RowKit

set_option maxRecDepth 100000 in
set_option maxHeartbeats 4000000 in
theorem mul_any (s t:ByteArray) (w:World) (hs:s.size≤137438953472) (ht:t.size≤137438953472) :
  Calls Tryz.prog 87 #[.string s,.string t] w (RetNat w (vn s*vn t)):=by
 have hvs:=vn_lt s
 have hvt:=vn_lt t
 go_enter Tryz.func87,Tryz.ntmps87
 go_wp2_with fail
 refine (split_any s w (by omega)).mono ?_
 rintro e w1 ⟨v1,l,rfl,hl,hcl,hvl,_,hb1⟩
 go_wp2_with fail
 refine (split_any t w1 (by omega)).mono ?_
 rintro e w2 ⟨v2,m,rfl,hm,hcm,hvm,_,hb2⟩
 have hl2:=hl.ext hb2
 have hll:=limbs_le hcl hvl hvs
 have hml:=limbs_le hcm hvm hvt
 have H:Hid (lv l=vn s∧lv m=vn t∧Lim l∧Lim m):=⟨hvl,hvm,hl.2,hm.2⟩
 have hb:Below w.heap.size w w2:=hb1.trans (hb2.mono hb1.size)
 clear hl hcl hvl hcm hvm hvs hvt hb1 hb2
 obtain ⟨a1,p1,rfl,hnc1,hcm1,hcl⟩:=hl2.op
 obtain ⟨a2,p2,rfl,hnc2,hcm2,hcm⟩:=hm.op
 clear hl2 hm
 unfold maxLen at hcm1 hcm2
 obtain ⟨w0,hmk,hw0⟩:=make_full el_limbs w2 .i64 .i64 (l.length+m.length) (by omega) (by decide)
 rw [show ((l.length+m.length:Nat):Int)=(l.length:Int)+(m.length:Int) by omega] at hmk
 have hblk0:=Blk.newA w2 145 (madeCells #[Value.int IntKind.u32 0] (l.length+m.length))
 rw [toList_madeCells_one] at hblk0
 have hbm:=(Below.refl w2.heap.size w2).alloc (Nat.le_refl _) (.cells (madeCells #[Value.int IntKind.u32 0] (l.length+m.length)) 145)
 have hw0':w0=w2.alloc (.cells (madeCells #[Value.int IntKind.u32 0] (l.length+m.length)) 145):=by rw [hw0];simp [Value.cells]
 rw [←hw0'] at hblk0 hbm
 have hrep:List.replicate (l.length+m.length) (Value.int .u32 0)=limbVals (List.replicate (l.length+m.length) 0):=by simp [limbVals]
 rw [hrep] at hblk0
 clear hw0 hw0' hrep
 go_wp2
 go_loopw [25] (fun q wr=>∃(i:Nat) (os:List Nat),q=.int .i64 i∧i≤l.length∧Blk wr w2.heap.size 145 (limbVals os)∧os.length=l.length+m.length∧Lim os∧lv os=lv (l.take i)*lv m∧Below w2.heap.size w2 wr) (fun q _=>l.length-(intOf q).toNat)
 case atStart=>exact ⟨0,_,rfl,Nat.zero_le _,hblk0,by simp,fun x hx=>by rw [List.eq_of_mem_replicate hx];omega,by rw [lv_zeros];simp [lv_nil],hbm⟩
 case round =>
  obtain ⟨i,os0,rfl,hi,hblk,hos,hlo,hlv,hbr⟩:=hrel
  clear hmk hblk0 hbm
  obtain ⟨wo,rfl⟩:∃wo:World,wo=wr:=⟨_,rfl⟩
  by_cases hlt:i<l.length
  ·obtain ⟨⟨b1,o1,rfl,hc1⟩,hx1⟩:=hcl i hlt
   have hc1r:=(ext_cell hbr _ (by rw [hc1];simp)).trans hc1
   have HO:Hid (lv os0=lv (l.take i)*lv m∧Lim os0∧os0.length=l.length+m.length∧Blk wo w2.heap.size 145 (limbVals os0)):=⟨hlv,hlo,hos,hblk⟩
   generalize hxx:l.getD i default=x at *
   have HX:=Lib.hid hxx
   clear hlv hlo hos hblk hxx hcl hc1
   go_wp2
   go_loopw [10,32] (fun c q wr=>∃(k cc:Nat) (os:List Nat),q=.int .i64 k∧k≤m.length∧c=.int .u64 cc∧cc<4294967296∧Blk wr w2.heap.size 145 (limbVals os)∧os.length=l.length+m.length∧Lim os∧os.drop (i+k)=os0.drop (i+k)∧lv os+4294967296^(i+k)*cc=lv os0+4294967296^i*(x*lv (m.take k))∧Below w2.heap.size w2 wr) (fun _ q _=>m.length-(intOf q).toNat)
   case atStart=>exact ⟨0,0,os0,rfl,Nat.zero_le _,rfl,by omega,HO.out.2.2.2,HO.out.2.2.1,HO.out.2.1,rfl,by simp [lv_nil],hbr⟩
   case round =>
    obtain ⟨k,cc,os,rfl,hk,rfl,hcc,hblk,hos,hlo,hdr,hlv,hb2r⟩:=hrel
    by_cases hkm:k<m.length
    ·obtain ⟨⟨b2,o2,rfl,hc2⟩,hx2⟩:=hcm k hkm
     have hc2r:=(ext_cell hb2r _ (by rw [hc2];simp)).trans hc2
     have hik:i+k<os.length:=by omega
     have hcell:=hblk.cell (i+k) (by simpa [limbVals] using hik)
     rw [show (limbVals os)[i+k]'(by simpa [limbVals] using hik)=Value.int .u32 ((os.getD (i+k) default:Nat):Int) by simp [limbVals,List.getD_eq_getElem?_getD,List.getElem?_eq_getElem hik]] at hcell
     have hfr:=hblk.frozen (i+k)
     have ho3:=lim_get hlo (i+k) default hik
     have hst:=fun y o t hy ho ht=>mul_step os os0 m i k cc x y o t hkm hy hik ho ht hlv
     have hst2:=hst _ _ _ rfl rfl rfl
     generalize m.getD k default=y at *
     generalize os.getD (i+k) default=o at *
     have hbd:=mul_bound cc x y o hcc hx1 hx2 ho3
     have hxy:(x:Int)*(y:Int)=((x*y:Nat):Int):=by rw [Int.natCast_mul]
     generalize x*y=pxy at *
     have HH:Hid (lv (os.set (i+k) ((cc+(pxy+o))%4294967296))+4294967296^(i+(k+1))*((cc+(pxy+o))/4294967296)=lv os0+4294967296^i*(x*lv (m.take (k+1)))∧Blk wr w2.heap.size 145 (limbVals os)∧os.length=l.length+m.length∧os.drop (i+k)=os0.drop (i+k)):=⟨hst2,hblk,hos,hdr⟩
     clear hst hst2 hblk hos hdr hlv hc2 hcm
     go_wp2
     obtain ⟨hst,hblk,hos,hdr⟩:=HH.out
     refine ⟨⟨k+1,(cc+(pxy+o))/4294967296,os.set (i+k) ((cc+(pxy+o))%4294967296),by go_num,by omega,by go_num,by omega,?_,by simpa using hos,lim_set hlo _ _ (by omega),?_,hst,hb2r.setCell (Nat.le_refl _) _⟩,by simp [intOf];omega⟩
     ·have:=hblk.set (i+k) (Value.int .u32 (((cc+(pxy+o))%4294967296:Nat):Int))
      rw [show limbVals (os.set (i+k) ((cc+(pxy+o))%4294967296))=(limbVals os).set (i+k) (Value.int .u32 (((cc+(pxy+o))%4294967296:Nat):Int)) by simp [limbVals,List.map_set]]
      rw [show (((cc+(pxy+o))%4294967296:Nat):Int)=((cc:Int)+((pxy:Int)+(o:Int)))%4294967296 by omega] at this ⊢
      exact this
     ·rw [List.drop_set_of_lt (by omega),←Nat.add_assoc]
      have:=congrArg (List.drop 1) hdr
      rw [List.drop_drop,List.drop_drop] at this
      exact this
    ·obtain rfl:k=m.length:=by omega
     have hlen0:=HO.out.2.2.1
     have hfin:=mul_row os os0 l m i cc x hlt HX.out hlen0 (by omega) HO.out.1 H.out.2.2.1 H.out.2.2.2 hdr hlv
     have hik:i+m.length<os.length:=by omega
     have hcell:=hblk.cell (i+m.length) (by simpa [limbVals] using hik)
     generalize (limbVals os)[i+m.length]'(by simpa [limbVals] using hik)=cx at hcell
     have hfr:=hblk.frozen (i+m.length)
     have HH:Hid (lv (os.set (i+m.length) cc)=lv (l.take (i+1))*lv m∧Blk wr w2.heap.size 145 (limbVals os)∧os.length=l.length+m.length):=⟨hfin,hblk,hos⟩
     clear hfin hblk hos hdr hlv hcm hlen0
     go_wp2
     obtain ⟨hfin,hblk,hos⟩:=HH.out
     refine ⟨⟨i+1,os.set (i+m.length) cc,by go_num,by omega,?_,by simpa using hos,lim_set hlo _ _ hcc,hfin,hb2r.setCell (Nat.le_refl _) _⟩,by simp [intOf];omega⟩
     have:=hblk.set (i+m.length) (Value.int .u32 (cc:Int))
     rw [show limbVals (os.set (i+m.length) cc)=(limbVals os).set (i+m.length) (Value.int .u32 (cc:Int)) by simp [limbVals,List.map_set]]
     exact this
  ·obtain rfl:i=l.length:=by omega
   rw [List.take_of_length_le (Nat.le_refl _),H.out.1,H.out.2.1] at hlv
   have hL:Limbs wo (.slice (some ⟨w2.heap.size,0,none⟩) (l.length+m.length) (l.length+m.length)) os0:=by
    refine ⟨⟨l.length+m.length,l.length+m.length,by unfold maxLen;omega,Nat.le_refl _,by unfold maxLen;omega,by simpa [limbVals] using hos,.inr ⟨_,0,rfl,fun j hj=>?_⟩⟩,hlo⟩
    rw [Nat.zero_add];exact hblk.cell j hj
   have HL:=lnat_any os0 _ wo hL (by omega)
   rw [hlv] at HL
   have HH:=Lib.hid HL
   clear HL hlv hblk hos hcl hcm hL
   go_wp2_with (go_at_call 127;refine HH.out.mono ?_;rintro e w' ⟨rfl,hb3⟩)
   go_ret
   exact ⟨rfl,(hb.trans (hbr.mono hb.size)).trans (hb3.mono (Nat.le_trans hb.size hbr.size))⟩
end

section
open Go.RowKit

def RetDiv (w:World) (q r:Nat) (b:Bool) (e:Ending) (w':World):Prop:=e=.returned (.tuple #[.string (ns q),.string (ns r),.bool b])∧Below w.heap.size w w'

theorem ns_zero:ns 0=⟨#[]⟩:=by unfold ns;rw [nb_zero]
theorem ns_pos_size {n:Nat} (h:n≠0):(ns n).size≠0:=by
 obtain ⟨b,l,e,_⟩:=nb_head n h
 rw [ns_size,e];simp

theorem below_two {w w1 w2:World} (h1:Below w.drew.heap.size w.drew w1) (h2:Below w1.heap.size w1 w2):Below w.heap.size w w2 :=
 ((((Below.refl w.heap.size w).drew).trans h1).trans (h2.mono h1.size))
theorem small_gen (n:Int) (w:World) (h0:0≤n) (hn:n≤18446744073709551615) :
  Calls Tryz.prog 128 #[.int .u64 n] w fun e w'=>e=.returned (.string (ns n.toNat))∧Below w.heap.size w w':=by
 obtain ⟨k,rfl⟩:=Int.eq_ofNat_of_zero_le h0
 exact small_any k w (by omega)

set_option maxRecDepth 100000 in
set_option maxHeartbeats 1000000 in
theorem div_small (a b:ByteArray) (w:World) (ha:a.size≤137438953472) (hb:b.size≤137438953472) (h0:vn b≠0) (h8:(ns (vn a)).size≤8) (h8b:(ns (vn b)).size≤8) :
  Calls Tryz.prog 125 #[.string a,.string b] w (RetDiv w (vn a/vn b) (vn a%vn b) true):=by
 have HT1:=fun w=>trim_any a w (by unfold maxLen;omega)
 have HT2:=fun w=>trim_any b w (by unfold maxLen;omega)
 have HW1:=fun w=>word_any (ns (vn a)) w h8
 have HW2:=fun w=>word_any (ns (vn b)) w h8b
 have n1:=toList_ne _ (ns_pos_size h0)
 have n2:=isEmpty_false _ (ns_pos_size h0)
 have la:=vn_ns_lt8 h8
 have lb:=vn_ns_lt8 h8b
 rw [vn_ns] at HW1 HW2
 generalize ns (vn a)=A at *
 generalize ns (vn b)=B at *
 generalize vn a=x at *
 generalize vn b=y at *
 have y0:0<y:=by omega
 have hq:(x:Int)/(y:Int)=((x/y:Nat):Int):=(Int.natCast_ediv x y).symm
 have hr:(x:Int)%(y:Int)=((x%y:Nat):Int):=(Int.natCast_emod x y).symm
 have hq2:(x:Int).tdiv (y:Int)=((x/y:Nat):Int):=(Int.ofNat_tdiv x y).symm
 have hr2:(x:Int).tmod (y:Int)=((x%y:Nat):Int):=(Int.ofNat_tmod x y).symm
 have lq:x/y<18446744073709551616:=Nat.lt_of_le_of_lt (Nat.div_le_self _ _) la
 have lr:x%y<18446744073709551616:=Nat.lt_of_le_of_lt (Nat.mod_le _ _) la
 have lq':x/y≤18446744073709551615:=by omega
 have lr':x%y≤18446744073709551615:=by omega
 generalize x/y=q at *
 generalize x%y=r at *
 have hne:((y:Int)==0)=false:=by simp;omega
 have hwq:IntKind.u64.wrap (q:Int)=(q:Int):=by rw [IntKind.wrap_u64];omega
 have G1:=Lib.hid HT1
 have G2:=Lib.hid HT2
 have G3:=Lib.hid HW1
 have G4:=Lib.hid HW2
 clear HT1 HT2 HW1 HW2 la lb lq lr h0
 go_enter Tryz.func125,Tryz.ntmps125
 go_wp2_with (fail)
 refine (G1.out _).mono ?_;rintro e w' ⟨rfl,rfl⟩
 go_wp2_with (fail)
 refine (G2.out _).mono ?_;rintro e w' ⟨rfl,rfl⟩
 go_wp2_with (fail)
 refine (G3.out _).mono ?_;rintro e w' ⟨rfl,rfl⟩
 go_wp2_with (fail)
 refine (G4.out _).mono ?_;rintro e w' ⟨rfl,rfl⟩
 go_wp2_with (fail)
 clear n1 n2
 go_region_with (go_at_call 128;refine (small_gen _ _ (by omega) (by omega)).mono ?_;rintro e w' ⟨rfl,hb⟩)
 all_goals go_wp2
 all_goals (go_ret3;exact ⟨rfl,below_two (by assumption) hb⟩)

set_option maxRecDepth 100000 in
set_option maxHeartbeats 1000000 in
theorem div_short (a b:ByteArray) (w:World) (ha:a.size≤137438953472) (hb:b.size≤137438953472) (h8:(ns (vn a)).size≤8) (h8b:8<(ns (vn b)).size) :
  Calls Tryz.prog 125 #[.string a,.string b] w (RetDiv w (vn a/vn b) (vn a%vn b) true):=by
 have hlt:vn a<vn b:=ns_size_lt (by omega)
 rw [Nat.div_eq_of_lt hlt,Nat.mod_eq_of_lt hlt]
 have HT1:=fun w=>trim_any a w (by unfold maxLen;omega)
 have HT2:=fun w=>trim_any b w (by unfold maxLen;omega)
 have hsb:=ns_size_le b
 have HW1:=fun w=>word_any (ns (vn a)) w h8
 have HW2:=fun w=>word_long (ns (vn b)) w h8b (by unfold maxLen;omega)
 have n1:=toList_ne (ns (vn b)) (by omega)
 have n2:=isEmpty_false (ns (vn b)) (by omega)
 have la:=vn_ns_lt8 h8
 rw [vn_ns] at HW1
 have HA:Hid (ns (vn a)=ns (vn a)∧ns 0=⟨#[]⟩):=⟨rfl,ns_zero⟩
 generalize ns (vn b)=B at *
 generalize hAA:ns (vn a)=A at *
 have G1:=Lib.hid HT1
 have G2:=Lib.hid HT2
 have G3:=Lib.hid HW1
 have G4:=Lib.hid HW2
 have G5:=Lib.hid hAA
 clear HT1 HT2 HW1 HW2 la hlt hAA
 go_enter Tryz.func125,Tryz.ntmps125
 go_wp2_with (fail)
 refine (G1.out _).mono ?_;rintro e w' ⟨rfl,rfl⟩
 go_wp2_with (fail)
 refine (G2.out _).mono ?_;rintro e w' ⟨rfl,rfl⟩
 go_wp2_with (fail)
 refine (G3.out _).mono ?_;rintro e w' ⟨rfl,rfl⟩
 go_wp2_with (fail)
 refine (G4.out _).mono ?_;rintro e w' ⟨rfl,rfl⟩
 go_wp2_with (fail)
 go_ret3
 exact ⟨by rw [HA.out.2,G5.out];rfl,Below.refl _ _⟩

set_option maxRecDepth 100000 in
set_option maxHeartbeats 1000000 in
theorem div_less (a b:ByteArray) (w:World) (ha:a.size≤137438953472) (hb:b.size≤137438953472) (h8:8<(ns (vn a)).size) (hlt:vn a<vn b) :
  Calls Tryz.prog 125 #[.string a,.string b] w (RetDiv w (vn a/vn b) (vn a%vn b) true):=by
 rw [Nat.div_eq_of_lt hlt,Nat.mod_eq_of_lt hlt]
 have HT1:=fun w=>trim_any a w (by unfold maxLen;omega)
 have HT2:=fun w=>trim_any b w (by unfold maxLen;omega)
 have hsa:=ns_size_le a
 have hsb:=ns_size_le b
 have HW1:=fun w=>word_long (ns (vn a)) w h8 (by unfold maxLen;omega)
 have HC:=fun w=>cmp_any (ns (vn a)) (ns (vn b)) w (by unfold maxLen;omega) (by unfold maxLen;omega)
 rw [vn_ns,vn_ns,cmpN,if_pos hlt] at HC
 have hb0:(ns (vn b)).size≠0:=ns_pos_size (by omega)
 have n1:=toList_ne (ns (vn b)) hb0
 have n2:=isEmpty_false (ns (vn b)) hb0
 have HA:Hid (ns (vn a)=ns (vn a)∧ns 0=⟨#[]⟩):=⟨rfl,ns_zero⟩
 generalize ns (vn b)=B at *
 generalize hAA:ns (vn a)=A at *
 have G1:=Lib.hid HT1
 have G2:=Lib.hid HT2
 have G3:=Lib.hid HW1
 have G4:=Lib.hid HC
 have G5:=Lib.hid hAA
 clear HT1 HT2 HW1 HC hlt hAA
 go_enter Tryz.func125,Tryz.ntmps125
 go_wp2_with (fail)
 refine (G1.out _).mono ?_;rintro e w' ⟨rfl,rfl⟩
 go_wp2_with (fail)
 refine (G2.out _).mono ?_;rintro e w' ⟨rfl,rfl⟩
 go_wp2_with (fail)
 refine (G3.out _).mono ?_;rintro e w' ⟨rfl,rfl⟩
 go_wp2_with (fail)
 refine (G4.out _).mono ?_;rintro e w' ⟨rfl,rfl⟩
 go_wp2_with (fail)
 go_ret3
 exact ⟨by rw [HA.out.2,G5.out];rfl,Below.refl _ _⟩
end

section
open Go.RowKit

set_option maxRecDepth 100000 in
set_option maxHeartbeats 2000000 in
theorem div_great (a b:ByteArray) (w:World) (ha:a.size≤137438953472) (hb:b.size≤137438953472) (h8:8<(ns (vn a)).size) (h0:vn b≠0) (hle:vn b≤vn a) :
  Calls Tryz.prog 125 #[.string a,.string b] w (RetDiv w (vn a/vn b) (vn a%vn b) true):=by
 have HT1:=fun w=>trim_any a w (by unfold maxLen;omega)
 have HT2:=fun w=>trim_any b w (by unfold maxLen;omega)
 have hsa:=ns_size_le a
 have hsb:=ns_size_le b
 have HW1:=fun w=>word_long (ns (vn a)) w h8 (by unfold maxLen;omega)
 have HC:=fun w=>cmp_any (ns (vn a)) (ns (vn b)) w (by unfold maxLen;omega) (by unfold maxLen;omega)
 have HS1:=fun w=>split_any (ns (vn a)) w (by omega)
 have HS2:=fun w=>split_any (ns (vn b)) w (by omega)
 have hva:=vn_lt (ns (vn a))
 have hvb:=vn_lt (ns (vn b))
 rw [vn_ns] at HS1 HS2 hva hvb
 rw [vn_ns,vn_ns] at HC
 have hc0:0≤cmpN (vn a) (vn b):=by unfold cmpN;rw [if_neg (by omega)];split<;>omega
 have hb0:(ns (vn b)).size≠0:=ns_pos_size h0
 have n1:=toList_ne (ns (vn b)) hb0
 have n2:=isEmpty_false (ns (vn b)) hb0
 generalize cmpN (vn a) (vn b)=c at *
 generalize ns (vn b)=B at *
 generalize ns (vn a)=A at *
 generalize vn a=x at *
 generalize vn b=y at *
 have G1:=Lib.hid HT1
 have G2:=Lib.hid HT2
 have G3:=Lib.hid HW1
 have G4:=Lib.hid HC
 have G5:Hid (y≠0∧y≤x∧x<256^A.size∧y<256^B.size):=⟨h0,hle,hva,hvb⟩
 have G6:=Lib.hid HS1
 have G7:=Lib.hid HS2
 clear HT1 HT2 HW1 HC HS1 HS2 h0 hle hva hvb
 go_enter Tryz.func125,Tryz.ntmps125
 go_wp2_with (fail)
 refine (G1.out _).mono ?_;rintro e w' ⟨rfl,rfl⟩
 go_wp2_with (fail)
 refine (G2.out _).mono ?_;rintro e w' ⟨rfl,rfl⟩
 go_wp2_with (fail)
 refine (G3.out _).mono ?_;rintro e w' ⟨rfl,rfl⟩
 go_wp2_with (fail)
 refine (G4.out _).mono ?_;rintro e w' ⟨rfl,rfl⟩
 go_wp2_with (fail)
 refine (G6.out _).mono ?_;rintro e w1 ⟨v1,l,rfl,hl,hcl,hvl,_,hb1⟩
 have K1:Hid (Can l∧lv l=x):=⟨hcl,hvl⟩
 clear hcl hvl
 go_wp2_with (fail)
 refine (G7.out _).mono ?_;rintro e w2 ⟨v2,m,rfl,hm,hcm,hvm,_,hb2⟩
 have K2:Hid (Can m∧lv m=y):=⟨hcm,hvm⟩
 clear hcm hvm
 have hl2:=hl.ext hb2
 have hll:=limbs_le K1.out.1 K1.out.2 G5.out.2.2.1
 have hml:=limbs_le K2.out.1 K2.out.2 G5.out.2.2.2
 have hb12:=hb1.trans (hb2.mono hb1.size)
 clear hl hb1 hb2
 have hm2:=hm
 obtain ⟨a2,p2,rfl,hnc2,hcm2,hcm⟩:=hm.op
 unfold maxLen at hcm2
 have hm1:0<m.length:=by
  rcases Nat.eq_zero_or_pos m.length with h|h
  ·have:=List.eq_nil_of_length_eq_zero h
   have h2:=K2.out.2
   rw [this] at h2
   exact absurd h2.symm G5.out.1
  ·exact h
 by_cases hone:m.length=1
 ·obtain ⟨d,rfl⟩:∃d,m=[d]:=List.length_eq_one_iff.1 hone
  obtain ⟨⟨b2,o2,rfl,hc2⟩,hd⟩:=hcm 0 (by simp)
  simp only [List.getD_cons_zero,Nat.add_zero] at hc2 hd
  have hdy:d=y:=by have:=K2.out.2;simpa [lv_cons,lv_nil] using this
  subst hdy
  have hd0:0<d:=by have:=G5.out.1;omega
  have HBY:=by_any l v1 d w2 hl2 hd0 hd (by omega)
  rw [K1.out.2] at HBY
  have hmod:x%d<d:=Nat.mod_lt _ (by omega)
  have hq:x/d≤x:=Nat.div_le_self _ _
  have G8:Hid (x%d<4294967296∧x/d≤x):=⟨by omega,hq⟩
  clear hcm hm hm2 hone hmod hq
  generalize x/d=q at *
  generalize x%d=r at *
  have HH:=Lib.hid HBY
  clear HBY
  simp only [List.length_cons,List.length_nil,Nat.zero_add]
  go_wp2_with (fail)
  refine HH.out.mono ?_;rintro e w3 ⟨v3,n,rfl,hn,hcn,hvn,_,hb3⟩
  have K3:Hid (lv n=q∧Can n):=⟨hvn,hcn⟩
  clear hvn hcn
  have hnl:n.length≤(A.size+3)/4:=limbs_le K3.out.2 K3.out.1 (by have:=G8.out.2;have:=G5.out.2.2.1;omega)
  have hr32:(r:Int)≤4294967295:=by have:=G8.out.1;omega
  go_wp2_with (fail)
  refine (lnat_any n v3 w3 hn (by omega)).mono ?_;rintro e w4 ⟨rfl,hb4⟩
  rw [K3.out.1]
  go_wp2_with (fail)
  refine (small_any r w4 (by omega)).mono ?_;rintro e w5 ⟨rfl,hb5⟩
  go_wp2_with (fail)
  go_ret3
  have s1:=hb12.size;have s2:=hb3.size;have s3:=hb4.size
  exact ⟨rfl,((hb12.trans (hb3.mono s1)).trans (hb4.mono (by omega))).trans (hb5.mono (by omega))⟩
 ·have hb1:((m.length:Int)==1)=false:=by simp;omega
  have HLN:=long_any l m v1 _ w2 hl2 hm2 K2.out.1 (by rw [K2.out.2];have:=G5.out.1;omega) (by omega) (by omega)
  rw [K1.out.2,K2.out.2] at HLN
  have HH:=Lib.hid HLN
  have hq:x/y≤x:=Nat.div_le_self _ _
  have hr:x%y≤x:=Nat.mod_le _ _
  have G8:Hid (x/y<256^A.size∧x%y<256^A.size):=by have:=G5.out.2.2.1;exact ⟨by omega,by omega⟩
  clear HLN hcm hm hm2 hone hq hr
  generalize x/y=q at *
  generalize x%y=r at *
  go_wp2_with (fail)
  refine HH.out.mono ?_;rintro e w3 ⟨v3,n,v4,u,rfl,hn,hcn,hvn,hu,hcu,hvu,hb3⟩
  have K3:Hid (lv n=q∧Can n∧lv u=r∧Can u):=⟨hvn,hcn,hvu,hcu⟩
  clear hvn hcn hvu hcu
  have hnl:n.length≤(A.size+3)/4:=limbs_le K3.out.2.1 K3.out.1 G8.out.1
  have hul:u.length≤(A.size+3)/4:=limbs_le K3.out.2.2.2 K3.out.2.2.1 G8.out.2
  go_wp2_with (fail)
  refine (lnat_any n v3 w3 hn (by omega)).mono ?_;rintro e w4 ⟨rfl,hb4⟩
  rw [K3.out.1]
  go_wp2_with (fail)
  refine (lnat_any u v4 w4 (hu.ext hb4) (by omega)).mono ?_;rintro e w5 ⟨rfl,hb5⟩
  rw [K3.out.2.2.1]
  go_wp2_with (fail)
  go_ret3
  have s1:=hb12.size;have s2:=hb3.size;have s3:=hb4.size
  exact ⟨rfl,((hb12.trans (hb3.mono s1)).trans (hb4.mono (by omega))).trans (hb5.mono (by omega))⟩

theorem div_any (a b:ByteArray) (w:World) (ha:a.size≤137438953472) (hb:b.size≤137438953472) (h0:vn b≠0) :
  Calls Tryz.prog 125 #[.string a,.string b] w (RetDiv w (vn a/vn b) (vn a%vn b) true):=by
 by_cases h8:(ns (vn a)).size≤8
 ·by_cases h8b:(ns (vn b)).size≤8
  ·exact div_small a b w ha hb h0 h8 h8b
  ·exact div_short a b w ha hb h8 (by omega)
 ·rcases Nat.lt_or_ge (vn a) (vn b) with h|h
  ·exact div_less a b w ha hb (by omega) h
  ·exact div_great a b w ha hb (by omega) h0 h

def strVal:Value→Nat|.string t=>vn t|_=>0

set_option maxRecDepth 100000 in
set_option maxHeartbeats 1000000 in
theorem gcd_any (a b:ByteArray) (w:World) (ha:a.size≤137438953472) (hb:b.size≤137438953472) :
  Calls Tryz.prog 124 #[.string a,.string b] w (RetNat w (Nat.gcd (vn a) (vn b))):=by
 have HT1:=fun w=>trim_any a w (by unfold maxLen;omega)
 have HT2:=fun w=>trim_any b w (by unfold maxLen;omega)
 have hsa:=ns_size_le a
 have hsb:=ns_size_le b
 have G1:=Lib.hid HT1
 have G2:=Lib.hid HT2
 generalize hg:Nat.gcd (vn a) (vn b)=g at *
 generalize vn a=x at *
 generalize vn b=y at *
 have G3:=Lib.hid hg
 clear HT1 HT2 hg
 go_enter Tryz.func124,Tryz.ntmps124
 go_wp2_with (fail)
 refine (G1.out _).mono ?_;rintro e w' ⟨rfl,rfl⟩
 go_wp2_with (fail)
 refine (G2.out _).mono ?_;rintro e w' ⟨rfl,rfl⟩
 go_wp2_with (fail)
 go_loopw [0,1] (fun u v wr=>∃p q:Nat,u=.string (ns p)∧v=.string (ns q)∧(ns p).size≤137438953472∧(ns q).size≤137438953472∧Nat.gcd p q=g∧Below w.heap.size w wr) (fun _ v _=>strVal v)
 case atStart=>exact ⟨x,y,rfl,rfl,by omega,by omega,G3.out,Below.refl _ _⟩
 case round =>
  obtain ⟨p,q,rfl,rfl,hp,hq,hgc,hbr⟩:=hrel
  by_cases h0:q=0
  ·subst h0
   have n1:=toList_nil (ns 0) (by rw [ns_zero];rfl)
   have H:Hid (g=p):=by rw [Hid,←hgc,Nat.gcd_zero_right]
   clear hgc
   go_wp2_with (fail)
   go_ret
   exact ⟨ret_str (by rw [H.out]),hbr⟩
  ·have n1:=toList_ne (ns q) (ns_pos_size h0)
   have n2:=isEmpty_false (ns q) (ns_pos_size h0)
   have n3:(!(ns q).toList.isEmpty)=true:=by rw [n2];rfl
   have hd:=div_any (ns p) (ns q) wr hp hq (by rw [vn_ns];exact h0)
   rw [vn_ns,vn_ns] at hd
   have hlt:p%q<q:=Nat.mod_lt _ (by omega)
   have hsz:(ns (p%q)).size≤(ns q).size:=by rw [ns_size,ns_size];exact nb_mono (by omega)
   have H:Hid (p%q<q∧Nat.gcd q (p%q)=g∧(ns (p%q)).size≤(ns q).size):=⟨hlt,by rw [←hgc,Nat.gcd_comm q,←Nat.gcd_rec,Nat.gcd_comm],hsz⟩
   have HD:=Lib.hid hd
   clear hlt hgc hd h0 hsz
   go_wp2_with (fail)
   refine HD.out.mono ?_;rintro e w1 ⟨rfl,hb1⟩
   go_wp2_with (fail)
   refine ⟨⟨q,p%q,rfl,rfl,hq,?_,H.out.2.1,hbr.trans (hb1.mono hbr.size)⟩,?_⟩
   ·have:=H.out.2.2;omega
   ·simp only [strVal,vn_ns];exact H.out.1
end

section
open Go.RowKit

def RetRev (w:World) (b n:Nat) (cs:List Value) (l:List UInt8) (e:Ending) (w':World):Prop :=
 (∃v,e=.returned v)∧(∃cs',Blk w' b 5 cs'∧cs'.length=cs.length∧cs'.take n=byteVals l.reverse)∧w.grownBy w' (some b)

def turned (l:List UInt8) (i k:Nat):UInt8:=if k<i∨l.length≤k+i then l.getD (l.length-1-k) 0 else l.getD k 0

theorem turned_step (l:List UInt8) (i j k:Nat) (hk:k<l.length) (hj:j+i+1=l.length) (hij:i<j) :
  turned l (i+1) k=if k=i then l.getD j 0 else if k=j then l.getD i 0 else turned l i k:=by
 unfold turned
 by_cases h1:k=i
 ·subst h1;rw [if_pos rfl,if_pos (by omega),show l.length-1-k=j by omega]
 ·rw [if_neg h1]
  by_cases h2:k=j
  ·subst h2;rw [if_pos rfl,if_pos (by omega),show l.length-1-k=i by omega]
  ·rw [if_neg h2]
   by_cases h3:k<i∨l.length≤k+i
   ·rw [if_pos h3,if_pos (by omega)]
   ·rw [if_neg h3,if_neg (by omega)]
theorem turned_end (l:List UInt8) (i k:Nat) (hk:k<l.length) (hi:l.length≤i+i+1):turned l i k=l.getD (l.length-1-k) 0:=by
 unfold turned
 split
 ·rfl
 ·rw [show l.length-1-k=k by omega]

set_option maxRecDepth 100000 in
set_option maxHeartbeats 1000000 in
theorem reverse_any (b n cap:Nat) (cs:List Value) (l:List UInt8) (w:World) (hblk:Blk w b 5 cs) (hl:l.length=n) (hn:n≤cs.length) (hcs:cs.take n=byteVals l) (hcap:n≤cap) (hm:cap≤maxLen) :
  Calls Tryz.prog 140 #[.slice (some ⟨b,0,none⟩) n cap] w (RetRev w b n cs l):=by
 unfold maxLen at hm
 have H0:Hid (Blk w b 5 cs∧l.length=n∧cs.take n=byteVals l∧n≤cs.length):=⟨hblk,hl,hcs,hn⟩
 clear hblk hl hcs hn
 go_enter Tryz.func140,Tryz.ntmps140
 go_wp2
 go_loopw [2,3] (fun u v wr=>∃(i:Nat) (z:Int) (cs':List Value),u=.int .i64 i∧v=.int .i64 z∧z=(n:Int)-1-i∧i≤n∧Blk wr b 5 cs'∧cs'.length=cs.length∧(∀k,k<n→cs'[k]?=some (.int .u8 (turned l i k).toNat))∧w.grownBy wr (some b)) (fun _ v _=>(intOf v+1).toNat)
 case atStart =>
  obtain ⟨h0,hl0,ht0,hn0⟩:=H0.out
  refine ⟨0,_,cs,rfl,rfl,by omega,by omega,h0,rfl,fun k hk=>?_,grown_refl _ _⟩
  rw [←List.getElem?_take_of_lt hk,ht0,turned,if_neg (by omega),byteVals,List.getElem?_map,List.getElem?_eq_getElem (by omega),List.getD_eq_getElem?_getD,List.getElem?_eq_getElem (by omega)]
  rfl
 case round =>
  obtain ⟨i,z,cs',rfl,rfl,hz,hin,hblk,hlen,hk,hgr⟩:=hrel
  by_cases hij:(i:Int)<z
  ·obtain ⟨j,rfl⟩:=Int.eq_ofNat_of_zero_le (show 0≤z by omega)
   have hj:j+i+1=n:=by omega
   obtain ⟨h0,hl0,_,hn0⟩:=H0.out
   have c1:wr.cell? ⟨b,i,none⟩=some (.int .u8 (l.getD i 0).toNat):=by
    rw [hblk.cell?,hk i (by omega),turned,if_neg (by omega)]
   have c2:wr.cell? ⟨b,j,none⟩=some (.int .u8 (l.getD j 0).toNat):=by
    rw [hblk.cell?,hk j (by omega),turned,if_neg (by omega)]
   have f1:=hblk.frozen i
   have f2:=hblk.frozen j
   have hij':i<j:=by omega
   have hjn:j<n:=by omega
   have hin':i<n:=by omega
   generalize hx:l.getD i 0=x at *
   generalize hy:l.getD j 0=y at *
   have H:Hid (j+i+1=n∧Blk wr b 5 cs'∧cs'.length=cs.length∧(∀k,k<n→cs'[k]?=some (.int .u8 (turned l i k).toNat))∧l.getD i 0=x∧l.getD j 0=y∧w.grownBy wr (some b)∧l.length=n∧n≤cs.length):=⟨hj,hblk,hlen,hk,hx,hy,hgr,hl0,hn0⟩
   clear hz hj hblk hlen hk hx hy hgr h0 hl0 hn0 hij
   go_wp2
   go_region
   go_wp2
   obtain ⟨hj,hblk,hlen,hk,hx,hy,hgr,hl0,hn0⟩:=H.out
   refine ⟨⟨i+1,_,(cs'.set i (.int .u8 y.toNat)).set j (.int .u8 x.toNat),by go_num,rfl,by omega,by omega,((hblk.set i _).set j _).drew,by simpa using hlen,fun k hkn=>?_,grown_drew (grown_set (grown_set hgr _ _) _ _)⟩,by simp [intOf]⟩
   rw [turned_step l i j k (by omega) (by omega) hij' ,hx,hy,List.getElem?_set,List.getElem?_set]
   by_cases hkj:j=k
   ·subst hkj
    rw [if_pos rfl,if_pos (by simp;omega),if_neg (by omega),if_pos rfl]
   ·rw [if_neg hkj]
    by_cases hki:i=k
    ·subst hki
     rw [if_pos rfl,if_pos (by omega),if_pos rfl]
    ·rw [if_neg hki,if_neg (fun e=>hki e.symm),if_neg (fun e=>hkj e.symm)]
     exact hk k hkn
  ·obtain ⟨h0,hl0,ht0,hn0⟩:=H0.out
   have hfin:cs'.take n=byteVals l.reverse:=by
    apply List.ext_getElem?
    intro k
    by_cases hkn:k<n
    ·rw [List.getElem?_take_of_lt hkn,hk k hkn,byteVals,List.getElem?_map,List.getElem?_reverse (by omega),turned_end l i k (by omega) (by omega),List.getD_eq_getElem?_getD,List.getElem?_eq_getElem (by omega)]
     rfl
    ·rw [List.getElem?_eq_none (by rw [List.length_take];omega),List.getElem?_eq_none (by simp [byteVals];omega)]
   have H:Hid (Blk wr b 5 cs'∧cs'.length=cs.length∧cs'.take n=byteVals l.reverse∧w.grownBy wr (some b)):=⟨hblk,hlen,hfin,hgr⟩
   clear hblk hlen hfin hgr hk h0 hl0 ht0 hn0 hz
   go_wp2
   go_end0
   obtain ⟨h1,h2,h3,h4⟩:=H.out
   exact ⟨⟨_,rfl⟩,⟨_,h1,h2,h3⟩,h4⟩
end

section
open Go.RowKit

theorem SliceAt.grown {w w':World} {v:Value} {size:Nat} {cs:List Value} {row:Option Nat} {B:Nat} (h:SliceAt w v size cs) (hf:FreshV B v) (hr:∀k,row=some k→k<B) (hg:w.grownBy w' row):SliceAt w' v size cs:=by
 obtain ⟨n,cap,h1,h2,h3,h4,h5⟩:=h
 refine ⟨n,cap,h1,h2,h3,h4,?_⟩
 by_cases h0:n=0
 ·rcases h5 with h5|⟨b,off,rfl,h5⟩
  ·exact .inl h5
  ·exact .inl ⟨h0,_,by rw [h0]⟩
 ·rcases h5 with h5|⟨b,off,rfl,h5⟩
  ·exact .inl h5
  ·have hb:=hf _ _ _ rfl (by omega)
   refine .inr ⟨b,off,rfl,fun j hj=>?_⟩
   rw [←h5 j hj]
   refine World.cell?_of_block (hg.block b (World.block_lt_of_cell? w _ (h5 j hj)) (fun e=>?_))
   have:=hr b e.symm
   simp at hb;omega
theorem SliceAt.alloc {w:World} {v:Value} {size:Nat} {cs:List Value} (h:SliceAt w v size cs) (o:Obj):SliceAt (w.alloc o) v size cs:=h.ext ((Below.refl _ w).alloc (Nat.le_refl _) o)
theorem owns_ext {w w':World} {base:Nat} {e:TypeId} {size n:Nat} {v:Value} {xs:List Value} (h:w.ownsRow base e size v n xs) (hb:Below w.heap.size w w'):w'.ownsRow base e size v n xs :=
 h.kept (row:=none) ⟨hb.os,hb.tape,hb.output,hb.size,fun k hk _=>hb.block k hk⟩ (by cases hv:v.ownBlock<;>simp)
end

section
open Go.RowKit

def dec (n:Nat):List UInt8:=if n=0 then [] else dec (n/10)++[UInt8.ofNat (48+n%10)]
termination_by n
decreasing_by omega
def textOf (n:Nat):List UInt8:=if n=0 then [48] else dec n
theorem dec_zero:dec 0=[]:=by rw [dec];rfl
theorem dec_pos (n:Nat) (h:n≠0):dec n=dec (n/10)++[UInt8.ofNat (48+n%10)]:=by rw [dec,if_neg h]
theorem dec_length (n k : Nat) (h : n < 10 ^ k) : (dec n).length ≤ k := by
  induction k generalizing n with
  | zero => have : n = 0 := by simpa using h
            rw [this, dec_zero]; simp
  | succ k ih =>
    by_cases h0 : n = 0
    · rw [h0, dec_zero]; simp
    · rw [dec_pos n h0, List.length_append]
      have := ih (n / 10) (by rw [Nat.div_lt_iff_lt_mul (by omega)]; rwa [Nat.pow_succ] at h)
      simp; omega
theorem dec_le (n k:Nat) (h:n<256^k):(dec n).length≤3*k:=by
 refine dec_length n _ (Nat.lt_of_lt_of_le h ?_)
 rw [Nat.pow_mul]
 exact Nat.pow_le_pow_left (by omega) k

def limbsVal (w:World) (v:Value):Nat :=
 match v with
 | .slice (some a) n _=>lv ((List.range n).map fun i=>match w.cell? ⟨a.block,a.off+i,none⟩ with|some (.int _ z)=>z.toNat|_=>0)
 | _=>0
theorem limbsVal_eq {w:World} {v:Value} {l:List Nat} (h:Limbs w v l):limbsVal w v=lv l:=by
 obtain ⟨n,cap,_,_,_,hn,h⟩:=h.1
 have hl:l.length=n:=by simpa [limbVals] using hn
 subst hl
 rcases h with ⟨h0,a,rfl⟩|⟨b,off,rfl,hc⟩
 ·have:l=[]:=List.eq_nil_of_length_eq_zero h0
  subst this
  cases a<;>rfl
 ·show lv ((List.range l.length).map fun i=>match w.cell? ⟨b,off+i,none⟩ with|some (.int _ z)=>z.toNat|_=>0)=lv l
  congr 1
  apply List.ext_getElem
  ·simp
  ·intro i h1 h2
   have:=hc i (by simpa [limbVals] using h2)
   simp [this,limbVals]

def RetStr (w:World) (l:List UInt8) (e:Ending) (w':World):Prop:=e=.returned (.string ⟨l.toArray⟩)∧Below w.heap.size w w'

theorem text_zero (a:ByteArray) (w:World) (ha:a.size≤137438953472) (h0:vn a=0) :
  Calls Tryz.prog 109 #[.string a] w (RetStr w (textOf (vn a))):=by
 have HS:=split_any a w (by omega)
 have H:Hid (textOf (vn a)=[48]):=by rw [Hid,textOf,if_pos h0]
 have G:=Lib.hid HS
 have H0:=Lib.hid h0
 clear HS h0
 go_enter Tryz.func109,Tryz.ntmps109
 go_wp2_with (fail)
 refine G.out.mono ?_;rintro e w1 ⟨v1,l,rfl,hl,hcl,hvl,_,hb1⟩
 have hnil:l=[]:=(can_zero hcl).1 (by rw [hvl];exact H0.out)
 subst hnil
 obtain ⟨a1,p1,rfl,hnc1,hcm1,hc⟩:=hl.op
 clear hvl hcl hc
 simp only [List.length_nil]
 go_wp2_with (fail)
 go_ret
 exact ⟨by rw [H.out];rfl,hb1⟩

set_option maxRecDepth 100000 in
set_option maxHeartbeats 1000000 in
theorem text_pos (a:ByteArray) (w:World) (ha:a.size≤137438953472) (h0:vn a≠0) :
  Calls Tryz.prog 109 #[.string a] w (RetStr w (textOf (vn a))):=by
 have HS:=split_any a w (by omega)
 have hva:=vn_lt a
 have hdl:=dec_le (vn a) _ hva
 have H:Hid (textOf (vn a)=dec (vn a)):=by rw [Hid,textOf,if_neg h0]
 have G:=Lib.hid HS
 have H0:Hid (vn a≠0∧vn a<256^a.size∧(dec (vn a)).length≤3*a.size):=⟨h0,hva,hdl⟩
 clear HS h0 hva hdl
 go_enter Tryz.func109,Tryz.ntmps109
 go_wp2_with (fail)
 refine G.out.mono ?_;rintro e w1 ⟨v1,l,rfl,hl,hcl,hvl,_,hb1⟩
 have hll:=limbs_le hcl hvl H0.out.2.1
 have hl1:0<l.length:=by
  rcases Nat.eq_zero_or_pos l.length with h|h
  ·have:=List.eq_nil_of_length_eq_zero h
   subst this
   exact absurd hvl.symm H0.out.1
  ·exact h
 have hL:=Lib.hid hl
 obtain ⟨a1,p1,rfl,hnc1,hcm1,hc⟩:=hl.op
 have K:Hid (Can l∧lv l=vn a):=⟨hcl,hvl⟩
 have hle0:((l.length:Int)==0)=false:=beq_eq_false_iff_ne.2 (by omega)
 clear hcl hvl hc hl
 go_wp2_with (fail)
 go_loopw [3,4] (fun x o wr=>∃(ls:List Nat) (ds:List UInt8),Limbs wr x ls∧Can ls∧wr.ownsRow w.heap.size 5 1 o ds.length (byteVals ds)∧dec (vn a)=dec (lv ls)++ds.reverse∧ls.length≤(a.size+3)/4∧Below w.heap.size w wr) (fun x _ wr=>limbsVal wr x)
 case atStart=>exact ⟨l,[],hL.out,K.out.1,World.ownsRow_nil _ _ _ _,by rw [K.out.2];simp,hll,hb1⟩
 case round =>
  obtain ⟨ls,ds,hls,hcs,hown,hdec,hlen,hbr⟩:=hrel
  have hLS:=Lib.hid hls
  have hsz:w.heap.size≤wr.heap.size:=hbr.size
  have hmeas:=limbsVal_eq hls
  have hdl:(dec (lv ls)).length+ds.length≤3*a.size:=by
   have:=H0.out.2.2;rw [hdec] at this;simpa using this
  have HM:Hid (limbsVal wr u3=lv ls):=hmeas
  obtain ⟨a2,p2,rfl,hnc2,hcm2,hc⟩:=hls.op
  clear hc hls hmeas
  unfold maxLen at hcm2
  by_cases hn:0<ls.length
  ·have hpos:lv ls≠0:=fun e=>by have:=(can_zero hcs).1 e;rw [this] at hn;simp at hn
   have hby:=by_any ls _ 10 wr hLS.out (by decide) (by decide) (by omega)
   have hds:=dec_pos (lv ls) hpos
   have hlvb:=lv_lt hLS.out.2
   have HH:Hid (dec (vn a)=dec (lv ls)++ds.reverse∧dec (lv ls)=dec (lv ls/10)++[UInt8.ofNat (48+lv ls%10)]∧wr.ownsRow w.heap.size 5 1 u4 ds.length (byteVals ds)∧lv ls/10<lv ls∧lv ls<4294967296^ls.length):=⟨hdec,hds,hown,by omega,hlvb⟩
   have hr10:lv ls%10<10:=Nat.mod_lt _ (by omega)
   have hq:lv ls/10≤lv ls:=Nat.div_le_self _ _
   generalize hqq:lv ls/10=q at *
   generalize hrr:lv ls%10=r at *
   have HB:=Lib.hid hby
   clear hdec hds hown hpos hby hcs hqq hrr hlvb hq
   go_wp2_with (fail)
   refine HB.out.mono ?_;rintro e w2 ⟨v2,l2,rfl,hl2,hcl2,hvl2,hfr2,hb2⟩
   have hown2:w2.ownsRow w.heap.size 5 1 u4 ds.length (byteVals ds):=HH.out.2.2.1.kept (row:=none) ⟨hb2.os,hb2.tape,hb2.output,hb2.size,fun k hk _=>hb2.block k hk⟩ (by cases hv:u4.ownBlock<;>simp)
   have hsz2:w.heap.size≤w2.heap.size:=Nat.le_trans hsz hb2.size
   have hb3:=hbr.trans (hb2.mono hsz)
   have HL2:Hid (Limbs w2 v2 l2∧Can l2∧lv l2=q∧FreshV wr.heap.size v2):=⟨hl2,hcl2,hvl2,hfr2⟩
   clear hl2 hcl2 hvl2 hfr2
   have hdl2:ds.length+1≤3*a.size:=by
    rw [HH.out.2.1] at hdl;simp at hdl;omega
   go_wp2_with (at_builtin;go_must (refine wpList_app rfl _ _ 66 rfl w.heap.size el_bytes _ _ _ rfl (hown2.alloc _) _ rfl 1 [.int .u8 (48+(r:Int))] (SliceAt.lit _ _ 1 1 _ rfl (by decide)) rfl (one_int _ _) (by omega) (by decide) (le_alloc hsz2 _) ?_);intro v' w' hown' hg)
   obtain ⟨hl2,hcl2,hvl2,hfr2⟩:=HL2.out
   obtain ⟨hdec,hds,hown,hqlt,hlvb⟩:=HH.out
   have hbf:=(hb3.alloc hsz2 (Obj.cells #[Value.int IntKind.u8 (48+(r:Int))] 5)).grown hg (le_alloc hsz2 _) (fun k hk=>(hown.lt k hk).1)
   have hl3:Limbs w' v2 l2:=⟨(hl2.1.alloc _).grown hfr2 (fun k hk=>(hown.lt k hk).2) hg,hl2.2⟩
   refine ⟨⟨l2,ds++[UInt8.ofNat (48+r)],hl3,hcl2,?_,?_,?_,hbf⟩,?_⟩
   ·rw [List.length_append]
    have hb8:(48+(r:Int))=((UInt8.ofNat (48+r)).toNat:Int):=by simp;omega
    rw [hb8] at hown'
    simpa [byteVals] using hown'
   ·rw [hdec,hds,hvl2];simp
   ·refine Nat.le_trans (can_length_le hcl2 ?_) hlen
    rw [hvl2];omega
   ·rw [limbsVal_eq hl3,HM.out,hvl2];exact hqlt
  ·have hnil:ls=[]:=List.eq_nil_of_length_eq_zero (by omega)
   subst hnil
   rw [lv_nil,dec_zero,List.nil_append] at hdec
   have hdn:ds≠[]:=fun e=>by rw [e] at hdec;have h2:=dec_pos (vn a) H0.out.1;rw [hdec] at h2;simp at h2
   have hdn1:0<ds.length:=List.length_pos_iff.2 hdn
   obtain ⟨hlo,hown'⟩:=hown
   rcases hown' with ⟨rfl,h0⟩|⟨g,cap,cur,rfl,hbase,hgb,hn2,hm2,hs2,ht2⟩
   ·omega
   ·have hblk:Blk wr g 5 cur.toList:=by unfold Blk;rw [Array.toArray_toList];exact hgb
    have HR:=reverse_any g ds.length cap cur.toList ds wr hblk rfl (by have:cur.toList.length=cur.size:=Array.length_toList;omega) (by rw [←ht2,Nat.mul_one]) hn2 hm2
    have HRR:=Lib.hid HR
    have HD:Hid (dec (vn a)=ds.reverse):=hdec
    have HM2:=Lib.hid hm2
    clear hblk HR hdec hgb hs2 ht2 hdn hlo hm2 hcs
    go_wp2_with (fail)
    refine HRR.out.mono ?_;rintro e w3 ⟨⟨vv,rfl⟩,⟨cs',hblk3,hlen3,htk3⟩,hgr3⟩
    have hb3:Below w.heap.size w w3:=hbr.grown hgr3 hsz (fun k hk=>by cases hk;exact hbase)
    have hlc:ds.length≤cs'.length:=by
     have:=congrArg List.length htk3
     simp [byteVals] at this;omega
    have hsl:SliceAt w3 (.slice (some ⟨g,0,none⟩) ds.length cap) 1 (byteVals ds.reverse):=by
     refine ⟨ds.length,cap,Nat.le_trans hn2 HM2.out,hn2,HM2.out,by simp [byteVals],.inr ⟨g,0,rfl,fun j hj=>?_⟩⟩
     have hjn:j<ds.length:=by simpa [byteVals] using hj
     rw [Nat.zero_add,hblk3.cell?,←List.getElem?_take_of_lt hjn,htk3,List.getElem?_eq_getElem hj]
    have hcv:=conv_bytes (P:=Tryz.prog) hsl 66 5 9 Tryz.underlying66 Tryz.underlying5 Tryz.underlying9
    clear hsl hblk3 hlen3 htk3 hgr3 hlc
    go_wp2_with (fail)
    go_ret
    exact ⟨by rw [H.out,HD.out];rfl,hb3⟩

theorem text_any (a:ByteArray) (w:World) (ha:a.size≤137438953472) :
  Calls Tryz.prog 109 #[.string a] w (RetStr w (textOf (vn a))):=by
 by_cases h:vn a=0
 ·exact text_zero a w ha h
 ·exact text_pos a w ha h
end

section
open Go.RowKit

end

section
open Go.RowKit

end

section
open Go Go.RowKit

def Acc (w0:World) (f:FuncId) (args:Array Value) (v:Value):Prop :=
 ∀w,Below w0.heap.size w0 w→Calls Tryz.prog f args w fun e w'=>e=.returned v∧Below w0.heap.size w0 w'

theorem Acc.go {w0 w:World} {f:FuncId} {args:Array Value} {v:Value} {Q:Ending→World→Prop} (h:Acc w0 f args v) (hb:Below w0.heap.size w0 w)
  (k:∀w',Below w0.heap.size w0 w'→Q (.returned v) w'):Calls Tryz.prog f args w Q :=
 (h w hb).mono fun _ w' ⟨he,hb'⟩=>he▸k w' hb'

theorem Acc.of {w0:World} {f:FuncId} {args:Array Value} {v:Value} (h:∀w,Calls Tryz.prog f args w fun e w'=>e=.returned v∧Below w.heap.size w w'):Acc w0 f args v :=
 fun w hb=>(h w).mono fun _ _ ⟨he,hb'⟩=>⟨he,hb.trans (hb'.mono hb.size)⟩
theorem Acc.pure {w0:World} {f:FuncId} {args:Array Value} {v:Value} (h:∀w,Calls Tryz.prog f args w fun e w'=>e=.returned v∧w=w'):Acc w0 f args v :=
 fun w hb=>(h w).mono fun _ _ ⟨he,e⟩=>⟨he,e▸hb⟩
theorem Acc.end {f:FuncId} {args:Array Value} {v:Value} {w:World} (h:Acc w f args v):Calls Tryz.prog f args w fun e w'=>e=.returned v∧Below w.heap.size w w':=h w (Below.refl _ _)

def Sz (n k:Nat):Prop:=n<256^k
theorem Sz.str {n k:Nat} (h:Sz n k):(ns n).size≤k:=by rw [ns_size];exact nb_length_lt h
theorem Sz.of (s:ByteArray):Sz (vn s) s.size:=vn_lt s
theorem Sz.le {m n k:Nat} (h:Sz n k) (hm:m≤n):Sz m k:=Nat.lt_of_le_of_lt hm h
theorem Sz.up {n j k:Nat} (h:Sz n j) (hk:j≤k):Sz n k:=Nat.lt_of_lt_of_le h (Nat.pow_le_pow_right (by omega) hk)
theorem Sz.mul {m n j k:Nat} (h:Sz m j) (h':Sz n k):Sz (m*n) (j+k):=by
 unfold Sz;rw [Nat.pow_add];exact Nat.mul_lt_mul'' h h'
theorem Sz.add {m n k:Nat} (h:Sz m k) (h':Sz n k):Sz (m+n) (k+1):=by
 unfold Sz at *;rw [Nat.pow_succ];omega
theorem Sz.pos {n k:Nat} (h:Sz n k):0<256^k:=Nat.lt_of_le_of_lt (Nat.zero_le _) h

theorem vn_nil:vn ⟨#[]⟩=0:=by have:=vn_ns 0;rw [ns_zero] at this;exact this
end
end Go.Proofs.YthehegidpamldaaGreatDoor
