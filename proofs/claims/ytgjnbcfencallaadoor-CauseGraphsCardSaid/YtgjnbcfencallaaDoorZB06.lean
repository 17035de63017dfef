/- The abstract machine, fourteenth part: contracts over values alone, and fractions. Conditions: none. -/
import Derived.Test.YtgjnbcfencallaaDoorZAmM
import Derived.Test.YtgjnbcfencallaaDoorZB05
import Derived.Test.YtgjnbcfencallaaDoorProg
import Derived.Lib.TrailingZeros
import Derived.Laws.Bits64b
import Derived.Laws.BitsLemmas
set_option linter.unusedVariables false
set_option linter.unusedSimpArgs false
namespace Go.Proofs.YtgjnbcfencallaaDoor
open Go Go.RowKit

def fr (q:Rat):FV:=.agg [.v (.bool (cg q)),.v (.string (cn q)),.v (.string (cd q))]
abbrev I (n:Int):FV:=.v (.int .i64 n)
abbrev Bo (b:Bool):FV:=.v (.bool b)
abbrev ints (l:List Int):FV:=.fz 1 (l.map I)
theorem fr_cells (q:Rat):(fr q).cells=[.v (.bool (cg q)),.v (.string (cn q)),.v (.string (cd q))]:=(rfl)
theorem fr_st (q:Rat):(fr q).st=true:=(rfl)
theorem fr_isA (q:Rat):(fr q).isA=true:=(rfl)
theorem lget_lt {α:Type} (l:List α) (d:α) {i:Nat} (h:i<l.length):l.getD i d=l[i]:=by rw [List.getD_eq_getElem?_getD,List.getElem?_eq_getElem h];rfl
attribute [go_sem] fr_cells fr_st fr_isA
end Go.Proofs.YtgjnbcfencallaaDoor
set_option linter.unusedVariables false
namespace Go.Proofs.YtgjnbcfencallaaDoor
open Go
@[go_sem] theorem ti2:tI Tryd.prog 2=some ⟨false,1,8,some (.v (.int .i64 0)),[],false,[]⟩:=by kernel_rfl
@[go_sem] theorem ti3:tI Tryd.prog 3=some ⟨false,1,8,some (.v (.int .i64 0)),[],false,[]⟩:=by kernel_rfl
@[go_sem] theorem ti4:tI Tryd.prog 4=some ⟨false,1,1,some (.v (.bool false)),[],false,[]⟩:=by kernel_rfl
@[go_sem] theorem ti5:tI Tryd.prog 5=some ⟨false,1,1,some (.v (.int .u8 0)),[],false,[]⟩:=by kernel_rfl
@[go_sem] theorem ti6:tI Tryd.prog 6=some ⟨false,1,1,some (.v (.int .u8 0)),[],false,[]⟩:=by kernel_rfl
@[go_sem] theorem ti7:tI Tryd.prog 7=some ⟨true,4,24,some (.agg [.v (.int .i64 0),.v (.int .i64 0),.v (.bool false),.v (.int .u8 0)]),[some 0,some 1,some 2,some 3],false,[1,1,1,1]⟩:=by kernel_rfl
@[go_sem] theorem fo7:fieldsOk Tryd.prog 7=true:=by kernel_rfl
@[go_sem] theorem ti8:tI Tryd.prog 8=some ⟨true,4,24,some (.agg [.v (.int .i64 0),.v (.int .i64 0),.v (.bool false),.v (.int .u8 0)]),[some 0,some 1,some 2,some 3],false,[1,1,1,1]⟩:=by kernel_rfl
@[go_sem] theorem fo8:fieldsOk Tryd.prog 8=true:=by kernel_rfl
@[go_sem] theorem ti9:tI Tryd.prog 9=some ⟨false,1,16,some (.v (.string ⟨#[]⟩)),[],true,[]⟩:=by kernel_rfl
@[go_sem] theorem ti10:tI Tryd.prog 10=some ⟨false,1,16,some (.v (.string ⟨#[]⟩)),[],true,[]⟩:=by kernel_rfl
@[go_sem] theorem ti11:tI Tryd.prog 11=some ⟨false,1,16,some (.v (.string ⟨#[]⟩)),[],true,[]⟩:=by kernel_rfl
@[go_sem] theorem ti12:tI Tryd.prog 12=some ⟨false,1,8,some (.v (.int .u64 0)),[],false,[]⟩:=by kernel_rfl
@[go_sem] theorem ti13:tI Tryd.prog 13=some ⟨true,2,24,some (.agg [.v (.string ⟨#[]⟩),.v (.int .u64 0)]),[some 0,some 1],false,[1,1]⟩:=by kernel_rfl
@[go_sem] theorem fo13:fieldsOk Tryd.prog 13=true:=by kernel_rfl
@[go_sem] theorem ti14:tI Tryd.prog 14=some ⟨true,2,24,some (.agg [.v (.string ⟨#[]⟩),.v (.int .u64 0)]),[some 0,some 1],false,[1,1]⟩:=by kernel_rfl
@[go_sem] theorem fo14:fieldsOk Tryd.prog 14=true:=by kernel_rfl
@[go_sem] theorem ti15:tI Tryd.prog 15=some ⟨false,1,8,some (.v (.pointer none)),[],false,[]⟩:=by kernel_rfl
@[go_sem] theorem ti16:tI Tryd.prog 16=some ⟨false,1,8,some (.v (.pointer none)),[],false,[]⟩:=by kernel_rfl
@[go_sem] theorem ti17:tI Tryd.prog 17=some ⟨false,1,8,some (.v (.pointer none)),[],false,[]⟩:=by kernel_rfl
@[go_sem] theorem ti18:tI Tryd.prog 18=some ⟨true,1,8,some (.agg [.v (.pointer none)]),[some 0],false,[1]⟩:=by kernel_rfl
@[go_sem] theorem fo18:fieldsOk Tryd.prog 18=true:=by kernel_rfl
@[go_sem] theorem ti19:tI Tryd.prog 19=some ⟨true,1,8,some (.agg [.v (.pointer none)]),[some 0],false,[1]⟩:=by kernel_rfl
@[go_sem] theorem fo19:fieldsOk Tryd.prog 19=true:=by kernel_rfl
@[go_sem] theorem ti21:tI Tryd.prog 21=some ⟨false,1,4,some (.v (.int .i32 0)),[],false,[]⟩:=by kernel_rfl
@[go_sem] theorem ti22:tI Tryd.prog 22=some ⟨false,1,24,some (.v (.slice none 0 0)),[],false,[]⟩:=by kernel_rfl
@[go_sem] theorem ti23:tI Tryd.prog 23=some ⟨false,1,24,some (.v (.slice none 0 0)),[],false,[]⟩:=by kernel_rfl
@[go_sem] theorem ti25:tI Tryd.prog 25=some ⟨false,1,8,some (.v (.int .i64 0)),[],false,[]⟩:=by kernel_rfl
@[go_sem] theorem ti39:tI Tryd.prog 39=some ⟨false,1,24,some (.v (.slice none 0 0)),[],false,[]⟩:=by kernel_rfl
@[go_sem] theorem ti46:tI Tryd.prog 46=some ⟨true,3,40,some (.agg [.v (.int .i64 0),.v (.int .i64 0),.v (.slice none 0 0)]),[some 0,some 1,some 2],false,[1,1,1]⟩:=by kernel_rfl
@[go_sem] theorem fo46:fieldsOk Tryd.prog 46=true:=by kernel_rfl
@[go_sem] theorem ti47:tI Tryd.prog 47=some ⟨true,3,40,some (.agg [.v (.int .i64 0),.v (.int .i64 0),.v (.slice none 0 0)]),[some 0,some 1,some 2],false,[1,1,1]⟩:=by kernel_rfl
@[go_sem] theorem fo47:fieldsOk Tryd.prog 47=true:=by kernel_rfl
@[go_sem] theorem ti52:tI Tryd.prog 52=some ⟨false,1,24,some (.v (.slice none 0 0)),[],false,[]⟩:=by kernel_rfl
@[go_sem] theorem ti55:tI Tryd.prog 55=some ⟨false,1,8,some (.v (.int .u64 0)),[],false,[]⟩:=by kernel_rfl
@[go_sem] theorem ti56:tI Tryd.prog 56=some ⟨false,1,8,some (.v (.int .u64 0)),[],false,[]⟩:=by kernel_rfl
@[go_sem] theorem ti69:tI Tryd.prog 69=some ⟨false,1,24,some (.v (.slice none 0 0)),[],false,[]⟩:=by kernel_rfl
@[go_sem] theorem ti70:tI Tryd.prog 70=some ⟨false,1,24,some (.v (.slice none 0 0)),[],false,[]⟩:=by kernel_rfl
@[go_sem] theorem ti88:tI Tryd.prog 88=some ⟨false,1,24,some (.v (.slice none 0 0)),[],false,[]⟩:=by kernel_rfl
@[go_sem] theorem ti89:tI Tryd.prog 89=some ⟨true,2,16,some (.agg [.v (.int .i64 0),.v (.bool false)]),[some 0,some 1],false,[1,1]⟩:=by kernel_rfl
@[go_sem] theorem fo89:fieldsOk Tryd.prog 89=true:=by kernel_rfl
@[go_sem] theorem ti90:tI Tryd.prog 90=some ⟨true,2,16,some (.agg [.v (.int .i64 0),.v (.bool false)]),[some 0,some 1],false,[1,1]⟩:=by kernel_rfl
@[go_sem] theorem fo90:fieldsOk Tryd.prog 90=true:=by kernel_rfl
@[go_sem] theorem ti97:tI Tryd.prog 97=some ⟨false,1,4,some (.v (.int .u32 0)),[],false,[]⟩:=by kernel_rfl
@[go_sem] theorem ti99:tI Tryd.prog 99=some ⟨false,1,8,some (.v (.int .u64 0)),[],false,[]⟩:=by kernel_rfl
@[go_sem] theorem ti105:tI Tryd.prog 105=some ⟨false,1,8,some (.v (.int .i64 0)),[],false,[]⟩:=by kernel_rfl
@[go_sem] theorem ti113:tI Tryd.prog 113=some ⟨false,1,8,some (.v (.int .u64 0)),[],false,[]⟩:=by kernel_rfl
@[go_sem] theorem ti117:tI Tryd.prog 117=some ⟨false,1,8,some (.v (.pointer none)),[],false,[]⟩:=by kernel_rfl
@[go_sem] theorem ti119:tI Tryd.prog 119=some ⟨false,1,8,some (.v (.pointer none)),[],false,[]⟩:=by kernel_rfl
@[go_sem] theorem ti123:tI Tryd.prog 123=some ⟨true,4,40,some (.agg [.v (.pointer none),.v (.pointer none),.v (.pointer none),.v (.string ⟨#[]⟩)]),[some 0,some 1,some 2,some 3],false,[1,1,1,1]⟩:=by kernel_rfl
@[go_sem] theorem fo123:fieldsOk Tryd.prog 123=true:=by kernel_rfl
@[go_sem] theorem ti124:tI Tryd.prog 124=some ⟨true,4,40,some (.agg [.v (.pointer none),.v (.pointer none),.v (.pointer none),.v (.string ⟨#[]⟩)]),[some 0,some 1,some 2,some 3],false,[1,1,1,1]⟩:=by kernel_rfl
@[go_sem] theorem fo124:fieldsOk Tryd.prog 124=true:=by kernel_rfl
@[go_sem] theorem ti126:tI Tryd.prog 126=some ⟨true,0,0,some (.agg []),[none],false,[0]⟩:=by kernel_rfl
@[go_sem] theorem fo126:fieldsOk Tryd.prog 126=true:=by kernel_rfl
@[go_sem] theorem ti127:tI Tryd.prog 127=some ⟨true,0,0,some (.agg []),[none],false,[0]⟩:=by kernel_rfl
@[go_sem] theorem fo127:fieldsOk Tryd.prog 127=true:=by kernel_rfl
@[go_sem] theorem ti128:tI Tryd.prog 128=some ⟨false,1,1,some (.v (.int .u8 0)),[],false,[]⟩:=by kernel_rfl
@[go_sem] theorem ti129:tI Tryd.prog 129=some ⟨false,1,1,some (.v (.int .u8 0)),[],false,[]⟩:=by kernel_rfl
@[go_sem] theorem ti131:tI Tryd.prog 131=some ⟨false,1,8,some (.v (.pointer none)),[],false,[]⟩:=by kernel_rfl
@[go_sem] theorem ti132:tI Tryd.prog 132=some ⟨false,1,4,some (.v (.int .i32 0)),[],false,[]⟩:=by kernel_rfl
@[go_sem] theorem ti133:tI Tryd.prog 133=some ⟨false,1,4,some (.v (.int .i32 0)),[],false,[]⟩:=by kernel_rfl
@[go_sem] theorem ts2:tS Tryd.prog 2=none:=by kernel_rfl
@[go_sem] theorem ts3:tS Tryd.prog 3=none:=by kernel_rfl
@[go_sem] theorem ts4:tS Tryd.prog 4=none:=by kernel_rfl
@[go_sem] theorem ts5:tS Tryd.prog 5=none:=by kernel_rfl
@[go_sem] theorem ts6:tS Tryd.prog 6=none:=by kernel_rfl
@[go_sem] theorem ts7:tS Tryd.prog 7=none:=by kernel_rfl
@[go_sem] theorem ts8:tS Tryd.prog 8=none:=by kernel_rfl
@[go_sem] theorem ts9:tS Tryd.prog 9=none:=by kernel_rfl
@[go_sem] theorem ts10:tS Tryd.prog 10=none:=by kernel_rfl
@[go_sem] theorem ts11:tS Tryd.prog 11=none:=by kernel_rfl
@[go_sem] theorem ts12:tS Tryd.prog 12=none:=by kernel_rfl
@[go_sem] theorem ts13:tS Tryd.prog 13=none:=by kernel_rfl
@[go_sem] theorem ts14:tS Tryd.prog 14=none:=by kernel_rfl
@[go_sem] theorem ts15:tS Tryd.prog 15=none:=by kernel_rfl
@[go_sem] theorem ts16:tS Tryd.prog 16=none:=by kernel_rfl
@[go_sem] theorem ts17:tS Tryd.prog 17=none:=by kernel_rfl
@[go_sem] theorem ts18:tS Tryd.prog 18=none:=by kernel_rfl
@[go_sem] theorem ts19:tS Tryd.prog 19=none:=by kernel_rfl
@[go_sem] theorem ts21:tS Tryd.prog 21=none:=by kernel_rfl
@[go_sem] theorem ts22:tS Tryd.prog 22=some (23,⟨false,1,24,some (.v (.slice none 0 0)),[],false,[]⟩):=by kernel_rfl
@[go_sem] theorem ts23:tS Tryd.prog 23=some (3,⟨false,1,8,some (.v (.int .i64 0)),[],false,[]⟩):=by kernel_rfl
@[go_sem] theorem ts25:tS Tryd.prog 25=none:=by kernel_rfl
@[go_sem] theorem ts39:tS Tryd.prog 39=some (47,⟨true,3,40,some (.agg [.v (.int .i64 0),.v (.int .i64 0),.v (.slice none 0 0)]),[some 0,some 1,some 2],false,[1,1,1]⟩):=by kernel_rfl
@[go_sem] theorem ts46:tS Tryd.prog 46=none:=by kernel_rfl
@[go_sem] theorem ts47:tS Tryd.prog 47=none:=by kernel_rfl
@[go_sem] theorem ts52:tS Tryd.prog 52=some (56,⟨false,1,8,some (.v (.int .u64 0)),[],false,[]⟩):=by kernel_rfl
@[go_sem] theorem ts55:tS Tryd.prog 55=none:=by kernel_rfl
@[go_sem] theorem ts56:tS Tryd.prog 56=none:=by kernel_rfl
@[go_sem] theorem ts69:tS Tryd.prog 69=some (70,⟨false,1,24,some (.v (.slice none 0 0)),[],false,[]⟩):=by kernel_rfl
@[go_sem] theorem ts70:tS Tryd.prog 70=some (4,⟨false,1,1,some (.v (.bool false)),[],false,[]⟩):=by kernel_rfl
@[go_sem] theorem ts88:tS Tryd.prog 88=some (90,⟨true,2,16,some (.agg [.v (.int .i64 0),.v (.bool false)]),[some 0,some 1],false,[1,1]⟩):=by kernel_rfl
@[go_sem] theorem ts89:tS Tryd.prog 89=none:=by kernel_rfl
@[go_sem] theorem ts90:tS Tryd.prog 90=none:=by kernel_rfl
@[go_sem] theorem ts97:tS Tryd.prog 97=none:=by kernel_rfl
@[go_sem] theorem ts99:tS Tryd.prog 99=none:=by kernel_rfl
@[go_sem] theorem ts105:tS Tryd.prog 105=none:=by kernel_rfl
@[go_sem] theorem ts113:tS Tryd.prog 113=none:=by kernel_rfl
@[go_sem] theorem ts117:tS Tryd.prog 117=none:=by kernel_rfl
@[go_sem] theorem ts119:tS Tryd.prog 119=none:=by kernel_rfl
@[go_sem] theorem ts123:tS Tryd.prog 123=none:=by kernel_rfl
@[go_sem] theorem ts124:tS Tryd.prog 124=none:=by kernel_rfl
@[go_sem] theorem ts126:tS Tryd.prog 126=none:=by kernel_rfl
@[go_sem] theorem ts127:tS Tryd.prog 127=none:=by kernel_rfl
@[go_sem] theorem ts128:tS Tryd.prog 128=none:=by kernel_rfl
@[go_sem] theorem ts129:tS Tryd.prog 129=none:=by kernel_rfl
@[go_sem] theorem ts131:tS Tryd.prog 131=none:=by kernel_rfl
@[go_sem] theorem ts132:tS Tryd.prog 132=none:=by kernel_rfl
@[go_sem] theorem ts133:tS Tryd.prog 133=none:=by kernel_rfl
theorem mixed:Tryd.prog.follows .mixedOrders=true:=by kernel_rfl
end Go.Proofs.YtgjnbcfencallaaDoor
set_option linter.unusedVariables false
set_option linter.unusedSimpArgs false
namespace Go.Proofs.YtgjnbcfencallaaDoor
open Go Go.RowKit
theorem upto_next {p:Nat→Prop} {i:Nat} (h:∀j,j<i→p j) (hi:p i):∀j,j<i+1→p j:=fun j hj=>by
 by_cases e:j=i
 ·subst e;exact hi
 ·exact h j (by omega)
def fillL {α:Type} (n k:Nat) (f:Nat→α) (z:α):List α:=(List.range n).map fun j=>if j<k then f j else z
section
variable {α : Type} {n k : Nat} {f : Nat → α} {z : α}
theorem fill_len:(fillL n k f z).length=n:=by simp [fillL]
theorem fill_zero:fillL n 0 f z=List.replicate n z:=by
 apply List.ext_getElem?
 intro i
 by_cases h:i<n<;>simp [fillL,h]
theorem fill_get {i:Nat} (h:i<n):(fillL n k f z)[i]?=some (if i<k then f i else z):=by simp [fillL,h]
theorem fill_set (h:k<n):(fillL n k f z).set k (f k)=fillL n (k+1) f z:=by
 apply List.ext_getElem?
 intro i
 by_cases hi:i<n
 ·by_cases e:i=k
  ·subst e;rw [List.getElem?_set_self (by rw [fill_len];exact hi),fill_get hi,if_pos (by omega)]
  ·rw [List.getElem?_set_ne (Ne.symm e),fill_get hi,fill_get hi]
   by_cases hk:i<k
   ·rw [if_pos hk,if_pos (by omega)]
   ·rw [if_neg hk,if_neg (by omega)]
 ·rw [List.getElem?_eq_none (by rw [List.length_set,fill_len];omega),List.getElem?_eq_none (by rw [fill_len];omega)]
theorem fill_all:fillL n n f z=(List.range n).map f:=by
 unfold fillL
 refine List.map_congr_left fun i hi=>?_
 rw [if_pos (List.mem_range.1 hi)]
theorem range_set {g:Nat→α} {i:Nat} {x:α} (hi:i<n):((List.range n).map g).set i x=(List.range n).map fun k=>if k=i then x else g k:=by
 apply List.ext_getElem?
 intro j
 by_cases hj:j<n
 ·by_cases e:j=i
  ·subst e;rw [List.getElem?_set_self (by simpa using hj)];simp [hj]
  ·rw [List.getElem?_set_ne (Ne.symm e)];simp [hj,e]
 ·rw [List.getElem?_eq_none (by simp;omega),List.getElem?_eq_none (by simp;omega)]
end
theorem fillA_get {n k:Nat} {f:Nat→FV} {z:FV} {j:Nat} (h:j<n):((fillL n k f z).map AV.f)[j]?=some (.f (if j<k then f j else z)):=by rw [List.getElem?_map,fill_get h];rfl
theorem fillA_set {n k:Nat} {f:Nat→FV} {z x:FV} (h:k<n) (hx:f k=x):((fillL n k f z).map AV.f).set k (.f x)=(fillL n (k+1) f z).map AV.f:=by rw [←hx,←fill_set h,List.map_set]
end Go.Proofs.YtgjnbcfencallaaDoor
set_option linter.unusedVariables false
set_option linter.unusedSimpArgs false
namespace Go.Proofs.YtgjnbcfencallaaDoor
open Go Go.RowKit
abbrev U (s:Nat):FV:=.v (.int .u64 (s:Int))
def dif (a b:Nat):Nat:=a^^^(a&&&b)
def bit (v:Nat):Nat:=2^v
def els (s:Nat):List Nat:=(List.range 8).filter fun v=>s.testBit v
def lowb (s:Nat):Nat:=Lib.ctz 64 s
section
variable {a b v i s : Nat}
theorem dif_bit:(dif a b).testBit i=(a.testBit i&&!b.testBit i):=by
 unfold dif;rw [Nat.testBit_xor,Nat.testBit_and];cases a.testBit i<;>cases b.testBit i<;>rfl
theorem dif_lt (h:a<256):dif a b<256:=Nat.xor_lt_two_pow (n:=8) h (Nat.lt_of_le_of_lt Nat.and_le_left h)
theorem or_lt (h:a<256) (h':b<256):a|||b<256:=Nat.or_lt_two_pow (n:=8) h h'
theorem bit_lt (h:v<8):bit v<256:=by
 have:=Nat.pow_lt_pow_right (a:=2) (by decide) h
 exact this
theorem bit_bit:(bit v).testBit i=decide (v=i):=by unfold bit;rw [Nat.testBit_two_pow]
theorem u_and (ha:a<256) (hb:b<256):bits .and .u64 (a:Int) (b:Int)=((a&&&b:Nat):Int):=bits_and_u64_nat a b (by omega) (by omega)
theorem u_or (ha:a<256) (hb:b<256):bits .or .u64 (a:Int) (b:Int)=((a|||b:Nat):Int) :=
 (bits_nat .u64 63 (by decide) (fun n h0 h1=>by rw [IntKind.wrap_u64];omega) a b (by omega) (by omega)).2
theorem u_an (ha:a<256) (hb:b<256):bits .andNot .u64 (a:Int) (b:Int)=((dif a b:Nat):Int):=by
 have hd:=dif_lt (b:=b) ha
 have e:(BitVec.ofInt 64 (a:Int)&&&~~~BitVec.ofInt 64 (b:Int))=BitVec.ofNat 64 (dif a b):=by
  apply BitVec.eq_of_getLsbD_eq
  intro i hi
  rw [BitVec.getLsbD_and,BitVec.getLsbD_not,BitVec.ofInt_natCast,BitVec.ofInt_natCast,BitVec.getLsbD_ofNat,BitVec.getLsbD_ofNat,BitVec.getLsbD_ofNat,dif_bit]
  simp [hi]
 show IntKind.u64.wrap ((BitVec.ofInt 64 (a:Int)&&&~~~BitVec.ofInt 64 (b:Int)).toNat:Int)=_
 rw [e,BitVec.toNat_ofNat,Nat.mod_eq_of_lt (by omega),IntKind.wrap_u64]
 omega
theorem u_shl (h:v<8):IntKind.u64.wrap (1*2^min v 64)=((bit v:Nat):Int):=by
 have e:min v 64=v:=by omega
 have hb:=bit_lt h
 unfold bit at hb ⊢
 obtain ⟨x,hx⟩:∃x,x=2^v:=⟨_,rfl⟩
 have hp:((2:Int)^v)=(x:Int):=by rw [hx];simp
 rw [←hx] at hb ⊢
 rw [e,Int.one_mul,IntKind.wrap_u64,hp]
 omega
theorem u_has (h:s<256) (hv:v<64):decide (bits .and .u64 ((s:Int).fdiv (2^min v 64)) 1=1)=s.testBit v:=by
 have e:min v 64=v:=by omega
 have e2:(s:Int).fdiv (2^v)=((s/2^v:Nat):Int):=by
  rw [Int.fdiv_eq_ediv_of_nonneg _ (Int.pow_nonneg (by decide))]
  simp
 have h1:s/2^v<256:=Nat.lt_of_le_of_lt (Nat.div_le_self _ _) h
 have e3:=u_and h1 (show 1<256 by decide)
 rw [e,e2]
 rw [show ((1:Nat):Int)=1 from rfl] at e3
 rw [e3,Nat.testBit_eq_decide_div_mod_eq,Nat.and_one_is_mod]
 congr 1
 exact propext ⟨fun h=>by omega,fun h=>by omega⟩
theorem low_all:∀s,s<256→s≠0→lowb s<8∧dif s (bit (lowb s))<s∧els s=lowb s::els (dif s (bit (lowb s))):=by decide +kernel
theorem els_mem:v∈els s↔v<8∧s.testBit v=true:=by unfold els;rw [List.mem_filter,List.mem_range]
theorem els_zero:els 0=[]:=by decide
theorem ext_bits (ha:a<256) (hb:b<256) (h:∀v,v<8→a.testBit v=b.testBit v):a=b:=by
 apply Nat.eq_of_testBit_eq
 intro i
 by_cases hi:i<8
 ·exact h i hi
 ·have hp:2^8≤2^i:=Nat.pow_le_pow_right (by decide) (by omega)
  rw [Nat.testBit_lt_two_pow (Nat.lt_of_lt_of_le ha hp),Nat.testBit_lt_two_pow (Nat.lt_of_lt_of_le hb hp)]
end
theorem tzl_key (x a:Nat) (hx:x<18446744073709551616) (hx0:x≠0) (hlow:x&&&(18446744073709551616-x)=a) :
  IntKind.u64.wrap (bits BinOp.and IntKind.u64 (x:Int) (IntKind.u64.wrap (-(x:Int)))*285870213051353865)/288230376151711744=((a*285870213051353865%18446744073709551616/288230376151711744:Nat):Int):=by
 have e1:IntKind.u64.wrap (-(x:Int))=((18446744073709551616-x:Nat):Int):=by rw [IntKind.wrap_u64];omega
 rw [e1,bits_and_u64_nat x _ hx (by omega),hlow,IntKind.wrap_u64]
 omega
set_option maxRecDepth 100000 in
set_option maxHeartbeats 1000000 in
theorem tz64_core (x k idx:Nat) (w:World) (hx0:((x:Int)==0)=false)
  (key:IntKind.u64.wrap (bits BinOp.and IntKind.u64 (x:Int) (IntKind.u64.wrap (-(x:Int)))*285870213051353865)/288230376151711744=(idx:Int))
  (hi:idx<64) (hk:k<64) (hcell:w.cell? ⟨1,idx,none⟩=some (.int .u8 k)) :
  Calls Tryd.prog 79 #[.int .u64 x] w fun e w'=>e=.returned (.int .i64 k)∧w'=w:=by
 go_enter Tryd.func79,Tryd.ntmps79
 go_wp2_with (simp only [key])
 go_ret
 exact ⟨rfl,rfl⟩
theorem tz_calls {x:Nat} (h0:x≠0) (hx:x<256) (w:World) (hT:TabW w) :
  Calls Tryd.prog 69 #[.int .u64 x] w fun e w'=>e=.returned (.int .i64 (lowb x:Nat))∧w'=w:=by
 obtain ⟨hlow,hk⟩:=Lib.lowest_bit 64 x h0 (by omega)
 obtain ⟨hi,htab⟩:=Lib.deBruijn64_at _ hk
 have hl:Lib.deBruijn64tab.length=64:=by decide
 have hcell:=(hT (1,Lib.deBruijn64tab) (by unfold tabs;simp)).2 _ _ (show Lib.deBruijn64tab[_]?=some _ by rw [List.getElem?_eq_getElem (by rw [hl];exact hi)])
 rw [←lget_lt Lib.deBruijn64tab 0 (by rw [hl];exact hi),htab] at hcell
 have c64:=tz64_core x _ _ w (by simp;omega) (tzl_key x _ (by omega) h0 hlow) hi hk hcell
 go_enter Tryd.func69,Tryd.ntmps69
 go_wp2_with (go_at_call 79;refine c64.mono ?_;rintro e w' ⟨rfl,hw'⟩;rw [hw'])
 go_ret
 exact ⟨rfl,rfl⟩
@[simp,go_sem] theorem wide_fn (f:FuncId):Fence.wide.fn f=True:=rfl
@[simp,go_sem] theorem wide_depth:Fence.wide.depth=none:=rfl
@[simp,go_sem] theorem wide_alive:Fence.wide.alive=false:=rfl
set_option maxRecDepth 100000 in
set_option maxHeartbeats 2000000 in
theorem all_iter (s:Nat) (hs:s<256):IterW Tryd.prog 45 #[.int .u64 (s:Int)] ((els s).map Int.ofNat):=by
 intro l J Jx W hT h0 hY
 refine callsIn_of_wp Tryd.func45 rfl trivial ?_ rfl
 simp only [Tryd.ntmps45,List.size_toArray,List.length_cons,List.length_nil,Nat.reduceAdd,Nat.reduceSub,Array.replicate_succ,Array.replicate_zero,List.push_toArray,List.append_toArray,List.nil_append,List.cons_append]
 gi_wp2
 gi_loopw [0] (fun q wr=>∃(k r:Nat),q=.int .u64 (r:Int)∧r<256∧k≤(els s).length∧els r=(els s).drop k∧J k wr) (fun q _=>(intOf q).toNat)
 case atStart=>exact ⟨0,s,rfl,hs,Nat.zero_le _,rfl,h0⟩
 case round =>
  obtain ⟨k,r,rfl,hr,hkl,hd,hJ⟩:=hrel
  by_cases hz:r=0
  ·subst hz
   have hkk:k=((els s).map Int.ofNat).length:=by
    have:=congrArg List.length hd
    rw [els_zero,List.length_drop] at this
    rw [List.length_map]
    simp at this
    omega
   subst hkk
   gi_wp2
   go_end0
   exact ⟨⟨_,rfl⟩,.inl hJ⟩
  ·obtain ⟨hlo,hlt,hel⟩:=low_all r hr hz
   have htz:=tz_calls hz hr wr (hT _ _ hJ)
   obtain ⟨v,hv⟩:∃v,v=lowb r:=⟨_,rfl⟩
   rw [←hv] at hlo hlt hel htz
   have hx:((els s).map Int.ofNat)[k]?=some (v:Int):=by
    have h1:(els s)[k]?=some v:=by
     have:((els s).drop k)[0]?=some v:=by rw [←hd,hel];rfl
     rwa [List.getElem?_drop] at this
    rw [List.getElem?_map,h1];rfl
   have hkl2:k<(els s).length:=by
    have:=(List.getElem?_eq_some_iff.1 hx).1
    rwa [List.length_map] at this
   have hd2:els (dif r (bit v))=(els s).drop (k+1):=by
    have:(els s).drop (k+1)=((els s).drop k).drop 1:=by rw [List.drop_drop]
    rw [this,←hd,hel];rfl
   have eshl:IntKind.u64.wrap (2^lowb r)=((bit v:Nat):Int):=by
    rw [←hv]
    have hb:=bit_lt hlo
    unfold bit at hb ⊢
    obtain ⟨x,hx⟩:∃x,x=2^v:=⟨_,rfl⟩
    have hp:((2:Int)^v)=(x:Int):=by rw [hx];simp
    rw [←hx] at hb ⊢
    rw [hp,IntKind.wrap_u64]
    omega
   have edif:=u_an hr (bit_lt hlo)
   obtain ⟨fn,tmps,assign,body,hy,hR⟩:=hY k _ wr hx hJ
   gi_wp2_with (first|(gi_at_call 69;refine (callsIn_wide.2 htz).mono ?_;rintro e w' ⟨rfl,rfl⟩))
   rw [←hv,hy]
   gi_wp2_with (refine hR.mono ?_)
   rintro e W3 (⟨rfl,hJ3⟩|⟨rfl,hJx3⟩)
   ·gi_wp2
    go_roundw
    case rel=>exact ⟨k+1,dif r (bit v),by rw [←hv,edif],dif_lt hr,by omega,hd2,hJ3⟩
    case measure=>rw [←hv,edif];simp [intOf];omega
   ·gi_wp2
    refine bodyPost_ret (results_none rfl _ _ _) rfl ?_
    exact ⟨⟨_,rfl⟩,.inr hJx3⟩
end Go.Proofs.YtgjnbcfencallaaDoor
set_option linter.unusedVariables false
set_option linter.unusedSimpArgs false
namespace Go.Proofs.YtgjnbcfencallaaDoor
open Go Go.RowKit
theorem rep_two {α:Type} (x:α):List.replicate 2 x=[x,x]:=(rfl)
theorem rep_three {α:Type} (x:α):List.replicate 3 x=[x,x,x]:=(rfl)
theorem rep_four {α:Type} (x:α):List.replicate 4 x=[x,x,x,x]:=(rfl)
theorem rep_five {α:Type} (x:α):List.replicate 5 x=[x,x,x,x,x]:=(rfl)
theorem opt_ex {α:Type} {a:α} {p:α→Prop}:(∃e,some a=some e∧p e)=p a:=propext ⟨fun ⟨e,h,hp⟩=>by cases h;exact hp,fun h=>⟨a,rfl,h⟩⟩
theorem objLt_fset (N:Nat) (e:TypeId) (sz i:Nat) (l:List FV) (x:FV):objLt N ⟨e,sz,(l.map AV.f).set i (.f x)⟩=True:=by
 rw [←List.map_set];exact objLt_f N e sz _
theorem acallQV_f {P:Program} {f:FuncId} {a b:List FV} {xs:List AV} {H:AH} {k:AV→Prop}:acallQV P (.f (.fn f a b)) xs H k=acallQ P f (a.map .f++xs++b.map .f) H k:=(rfl)
theorem acallV_f {P:Program} {f:FuncId} {a b:List FV} {xs:List AV} {s:AS} {d:Option Tmp} {K:AS→Prop}:acallV P (.f (.fn f a b)) xs s d K=acall P f (a.map .f++xs++b.map .f) s d K:=(rfl)
attribute [go_sem] objLt_fset acallQV_f acallV_f
attribute [go_sem] rep_two rep_three rep_four rep_five opt_ex
end Go.Proofs.YtgjnbcfencallaaDoor
set_option linter.unusedVariables false
set_option linter.unusedSimpArgs false
namespace Go.Proofs.YtgjnbcfencallaaDoor
open Go Go.RowKit

def CallM (P:Program) (f:FuncId) (xs:List AV) (H:AH) (r:FV) (H':AH):Prop :=
 ∃(zs:List AV) (H0:List AO) (g:Nat→Nat),zs.map (AV.ren g)=xs∧(∀z∈zs,z.lt0 H0.length=true)∧GoodM P f zs H0 r∧(∀i i',i<H0.length→i'<H0.length→g i=g i'→i=i') ∧
  (∀(i:Nat) o,H0[i]?=some o→H[g i]?=some (some ⟨o.e,o.sz,o.es.map (AV.ren g)⟩)∧∀e∈o.es,e.lt0 H0.length=true)∧H'.length=H.length ∧
  (∀(q:Nat) o,H'[q]?=some (some o)→H[q]?=some (some o)∧∀i,i<H0.length→g i≠q)
def acallH (P:Program) (f:FuncId) (xs:List AV) (H:AH) (k:AV→AH→Prop):Prop :=
 (∃zs r,FrzL H xs zs∧Good P f zs r∧((∀x∈xs,∃y,x=.f y)∨FlatF r)∧k (.f r) H) ∨
 (∃zs r,FrzL H xs zs∧GoodO P f zs r∧k (r.av H.length) (H++r.hp)) ∨
 (∃zs r rs,FrzL H xs zs∧GoodOT P f zs r rs∧k (.tup (r.av H.length::rs.map .f)) (H++r.hp)) ∨
 (∃r H',CallM P f xs H r H'∧k (.f r) H') ∨
 (∃v H',CallU P f xs H (fun u G=>u=v∧G=H')∧k v H')
def acallHV (P:Program) (f:AV) (xs:List AV) (H:AH) (k:AV→AH→Prop):Prop :=
 match f with
 | .f (.fn f a b)=>acallH P f (a.map .f++xs++b.map .f) H k
 | .fn f a b=>acallH P f (a++xs++b) H k
 | _=>False
def amem (P:Program) (op:Op) (ρ:Operand→AV) (H:AH) (k:AV→AH→Prop):Prop :=
 match op with
 | .makeSlice t n c=>match tS P t with|some T=>aMake T.1 T.2 H (ρ n) (ρ c) k|none=>False
 | .call { callee:=.builtin .append,args:=args,argTypes:=ts }=>match args.toList,ts.toList with
  | [x,y],[t,t']=>t=t'∧(match tS P t with|some T=>aAppend T.1 T.2 H (ρ x) (ρ y) k|none=>False)
  | _,_=>False
 | .call { callee:=.value f,args:=args,argTypes:=ts }=>acallHV P (ρ f) (args.toList.map ρ) H k
 | _=>False
section
variable {P : Program} {X : Cx} {w : World} {s : AS} {a : Act} {ops : Array Oper}
inductive Sch where
  | leaf
  | one (i : Nat) (t : Sch)
  | br (r : Sch)
  | alt (i : Nat) (t r : Sch)
  | fin
def astep (P:Program) (ops:Array Oper) (M:Bool) (o:Oper) (K:AS→Prop) (s:AS):Prop :=
 awant ops o s (if M=true then amem P o.op s.ev s.H fun v H=>K (AS.put ⟨s.t,H⟩ o.dst v) else aopD P o K s) (K (s.put o.dst (.f (.v undef))))
def atr (P:Program) (ops:Array Oper) (M:List Nat) (K:AS→Prop):Sch→AS→Prop
 | .leaf,s=>K s
 | .one i t,s=>∃o,ops[i]?=some o∧astep P ops (M.contains i) o (atr P ops M K t) s
 | .br r,s=>atr P ops M K r s
 | .alt i t r,s=>(∃o,ops[i]?=some o∧astep P ops (M.contains i) o (atr P ops M K t) s)∧atr P ops M K r s
 | .fin,s=>True
def Sch.main:Sch→Bool
 | .alt _ _ _|.fin=>false
 | _=>true
def opAt:List Oper→Nat→(Oper→Prop)→Prop
 | [],_,_=>False
 | o::_,0,k=>k o
 | _::l,i+1,k=>opAt l i k
theorem opAt_zero (o:Oper) (l:List Oper) (k:Oper→Prop):opAt (o::l) 0 k=k o:=(rfl)
theorem opAt_succ (o:Oper) (l:List Oper) (i:Nat) (k:Oper→Prop):opAt (o::l) (i+1) k=opAt l i k:=(rfl)
theorem opAt_eq {k:Oper→Prop}:∀{l:List Oper} {i:Nat},(∃o,l[i]?=some o∧k o)=opAt l i k:=by
 intro l
 induction l with
 | nil=>intro i;exact propext ⟨fun ⟨o,h,_⟩=>by simp at h,fun h=>h.elim⟩
 | cons a l ih =>
  intro i
  cases i with
  | zero=>exact propext ⟨fun ⟨o,h,hk⟩=>by simp at h;subst h;exact hk,fun h=>⟨a,rfl,h⟩⟩
  | succ i=>rw [opAt_succ,←ih];simp
def hasN:List Nat→Nat→Bool
 | [],_=>false
 | a::l,i=>if i=a then true else hasN l i
theorem hasN_eq:∀{l:List Nat} {i:Nat},l.contains i=hasN l i:=by
 intro l
 induction l with
 | nil=>intro i;rfl
 | cons a l ih =>
  intro i
  unfold hasN
  rw [←ih,List.contains_cons]
  by_cases h:i=a<;>simp [h]
theorem hasN_nil (i:Nat):hasN [] i=false:=(rfl)
theorem hasN_cons (a i:Nat) (l:List Nat):hasN (a::l) i=if i=a then true else hasN l i:=(rfl)
def as1 (P:Program) (ops:Array Oper) (M:Bool) (o:Oper) (K:AS→Prop) (s:AS):Prop:=astep P ops M o K s
def as2 (P:Program) (M:Bool) (o:Oper) (K:AS→Prop) (s:AS):Prop:=if M=true then amem P o.op s.ev s.H fun v H=>K (AS.put ⟨s.t,H⟩ o.dst v) else aopD P o K s
def as3 (P:Program) (v:Option AV) (b:Bool) (M:Bool) (o:Oper) (K:AS→Prop) (s:AS):Prop:=awantV v b (as2 P M o K s) (K (s.put o.dst (.f (.v undef))))
section
variable {M : List Nat} {K : AS → Prop} {d : Option Tmp} {ty : TypeId} {pos : String} {af : Array Edge} {gd : Option (Nat × Bool)} {t t' : TypeId} {x y : Operand} {b m : Bool} {o : Oper}
theorem atr_leaf:atr P ops M K .leaf s=K s:=(rfl)
theorem atr_one (i:Nat) (T:Sch):atr P ops M K (.one i T) s=opAt ops.toList i fun o=>as1 P ops (hasN M i) o (atr P ops M K T) s:=by
 rw [←hasN_eq,←opAt_eq];show (∃o,ops[i]?=some o∧_)=_;simp only [Array.getElem?_toList];rfl
theorem atr_br (r:Sch):atr P ops M K (.br r) s=atr P ops M K r s:=(rfl)
theorem atr_alt (i:Nat) (T r:Sch):atr P ops M K (.alt i T r) s=(opAt ops.toList i (fun o=>as1 P ops (hasN M i) o (atr P ops M K T) s)∧atr P ops M K r s):=by
 rw [←hasN_eq,←opAt_eq];show ((∃o,ops[i]?=some o∧_)∧_)=_;simp only [Array.getElem?_toList];rfl
theorem atr_fin:atr P ops M K .fin s=True:=(rfl)
theorem as1_none (op:Op):as1 P ops m ⟨d,op,ty,pos,af,none⟩ K s=as2 P m ⟨d,op,ty,pos,af,none⟩ K s:=(rfl)
theorem as1_some (op:Op) (j:Nat):as1 P ops m ⟨d,op,ty,pos,af,some (j,b)⟩ K s=as3 P (((ops[j]?).bind (·.dst)).bind fun d=>s.t[d]?) b m ⟨d,op,ty,pos,af,some (j,b)⟩ K s:=by
 show awantG ((ops[j]?).bind (·.dst)) b s _ _=_
 cases (ops[j]?).bind (·.dst)<;>rfl
theorem as3_undef:as3 P (some (.f (.v undef))) b m o K s=K (s.put o.dst (.f (.v undef))):=by simp [as3,awantV,undef]
theorem as3_tt:as3 P (some (.f (.v (.bool true)))) true m o K s=as2 P m o K s:=by simp [as3,awantV]
theorem as3_tf:as3 P (some (.f (.v (.bool true)))) false m o K s=K (s.put o.dst (.f (.v undef))):=by simp [as3,awantV]
theorem as3_ft:as3 P (some (.f (.v (.bool false)))) true m o K s=K (s.put o.dst (.f (.v undef))):=by simp [as3,awantV]
theorem as3_ff:as3 P (some (.f (.v (.bool false)))) false m o K s=as2 P m o K s:=by simp [as3,awantV]
theorem as2_false:as2 P false o K s=aopD P o K s:=(rfl)
theorem as2_make:as2 P true ⟨d,.makeSlice t x y,ty,pos,af,gd⟩ K s=(match tS P t with|some T=>aMake T.1 T.2 s.H (s.ev x) (s.ev y) (fun v H=>K (AS.put ⟨s.t,H⟩ d v))|none=>False):=(rfl)
theorem as2_append:as2 P true ⟨d,.call { callee:=.builtin .append,args:=#[x,y],argTypes:=#[t,t'] },ty,pos,af,gd⟩ K s=(t=t'∧(match tS P t with|some T=>aAppend T.1 T.2 s.H (s.ev x) (s.ev y) (fun v H=>K (AS.put ⟨s.t,H⟩ d v))|none=>False)):=(rfl)
theorem as2_call0 (f:FuncId) (args:Array Operand) (ts:Array TypeId):as2 P true ⟨d,.call { callee:=.value (.func f),args:=args,argTypes:=ts },ty,pos,af,gd⟩ K s=acallH P f (args.toList.map s.ev) s.H (fun v H=>K (AS.put ⟨s.t,H⟩ d v)):=by
 unfold as2
 rw [if_pos rfl]
 have e:∀(xs:List AV) (k:AV→AH→Prop),acallHV P (.f (.fn f [] [])) xs s.H k=acallH P f xs s.H k:=fun xs k=>by
  show acallH P f (List.map AV.f []++xs++List.map AV.f []) s.H k=_
  simp
 exact e (args.toList.map s.ev) (fun v H=>K (AS.put ⟨s.t,H⟩ d v))
end
end
def acallHK (P:Program) (f:FuncId) (xs:List AV) (s:AS) (d:Option Tmp) (K:AS→Prop):Prop:=acallH P f xs s.H fun v H=>K (AS.put ⟨s.t,H⟩ d v)
theorem as2_call {P:Program} {s:AS} {K:AS→Prop} {d:Option Tmp} {ty:TypeId} {pos:String} {af:Array Edge} {gd:Option (Nat × Bool)} (f:FuncId) (args:Array Operand) (ts:Array TypeId):as2 P true ⟨d,.call { callee:=.value (.func f),args:=args,argTypes:=ts },ty,pos,af,gd⟩ K s=acallHK P f (args.toList.map s.ev) s d K:=as2_call0 f args ts
theorem callHK_f {P:Program} {f:FuncId} {xs:List AV} {s:AS} {d:Option Tmp} {K:AS→Prop} {zs:List FV} {r:FV} (hg:Good P f zs r) (hx:xs=zs.map .f) (hK:K (AS.put ⟨s.t,s.H⟩ d (.f r))):acallHK P f xs s d K:=by
 refine .inl ⟨zs,r,⟨by rw [hx];simp,fun j x y h1 h2=>?_⟩,hg,.inl fun x hxm=>?_,hK⟩
 ·rw [hx,List.getElem?_map,h2] at h1
  cases h1;exact .f y
 ·rw [hx] at hxm
  obtain ⟨y,_,rfl⟩:=List.mem_map.1 hxm
  exact ⟨y,rfl⟩
theorem callH_f {P:Program} {f:FuncId} {xs:List AV} {H:AH} {k:AV→AH→Prop} {zs:List FV} {r:FV} (hg:Good P f zs r) (hx:xs=zs.map .f) (hK:k (.f r) H):acallH P f xs H k:=by
 refine .inl ⟨zs,r,⟨by rw [hx];simp,fun j x y h1 h2=>?_⟩,hg,.inl fun x hxm=>?_,hK⟩
 ·rw [hx,List.getElem?_map,h2] at h1
  cases h1;exact .f y
 ·rw [hx] at hxm
  obtain ⟨y,_,rfl⟩:=List.mem_map.1 hxm
  exact ⟨y,rfl⟩
theorem callH_fl {P:Program} {f:FuncId} {xs:List AV} {H:AH} {k:AV→AH→Prop} {zs:List FV} {r:FV} (hg:Good P f zs r) (hf:FlatF r) (hz:FrzL H xs zs) (hK:k (.f r) H):acallH P f xs H k:=.inl ⟨zs,r,hz,hg,.inr hf,hK⟩
theorem objLt_sl {N r:Nat} {e:TypeId} {sz i z:Nat} {l fs:List FV} (h:r<N):objLt N ⟨e,sz,(l.map AV.f).set i (sl r z fs)⟩=True:=propext ⟨fun _=>trivial,fun _ x hx=>by
 rcases List.mem_or_eq_of_mem_set (show x∈(l.map AV.f).set i (sl r z fs) from hx) with hx|rfl
 ·obtain ⟨y,_,rfl⟩:=List.mem_map.1 hx;rfl
 ·cases fs with
  | nil=>rfl
  | cons a l=>exact decide_eq_true h⟩
theorem objLt_oset {N r:Nat} {e:TypeId} {sz i z o k:Nat} {l:List FV} (h:r<N):objLt N ⟨e,sz,(l.map AV.f).set i (.own r z o k)⟩=True:=propext ⟨fun _=>trivial,fun _ x hx=>by
 rcases List.mem_or_eq_of_mem_set (show x∈(l.map AV.f).set i (.own r z o k) from hx) with hx|rfl
 ·obtain ⟨y,_,rfl⟩:=List.mem_map.1 hx;rfl
 ·exact decide_eq_true h⟩
theorem ren_sl (g:Nat→Nat) (r sz:Nat) (l:List FV):(sl r sz l).ren g=sl (g r) sz l:=by cases l<;>rfl
theorem map_ren_set (g:Nat→Nat) (l:List AV) (i:Nat) (x:AV):(l.set i x).map (AV.ren g)=(l.map (AV.ren g)).set i (x.ren g):=by rw [List.map_set]
theorem weakHr_ob (g:Nat→Nat) (N i:Nat) (e:TypeId) (sz:Nat) (fs:List FV) (H m:AH):WeakHr g N H i (ob e sz fs::m)=((fs=[]∨H[g i]?=some (ob e sz fs))∧WeakHr g N H (i+1) m):=by
 cases fs with
 | nil=>exact propext ⟨fun h=>⟨.inl rfl,h.2⟩,fun h=>⟨trivial,h.2⟩⟩
 | cons b fs =>
  have e1:((b::fs).map AV.f).map (AV.ren g)=(b::fs).map AV.f:=map_ren_f g _
  refine propext ⟨fun h=>⟨.inr ?_,h.2⟩,fun h=>⟨⟨?_,fun x hx=>by obtain ⟨y,_,rfl⟩:=List.mem_map.1 (show x∈List.map AV.f (b::fs) from hx);rfl⟩,h.2⟩⟩
  ·have:=h.1.1
   rw [show (AO.mk e sz ((b::fs).map AV.f)).es=(b::fs).map AV.f from rfl,e1] at this
   exact this
  ·have:=h.1.resolve_left (by simp)
   show _=some (some (AO.mk e sz (((b::fs).map AV.f).map (AV.ren g))))
   rw [e1];exact this
theorem weakL_fn (N:Nat) (f:FuncId) (x y:List AV) (a:AV) (l m:List AV):WeakL N (a::l) (.fn f x y::m)=((AV.fn f x y=a∧(AV.fn f x y).lt0 N=true)∧WeakL N l m):=propext ⟨fun h=>⟨h.1.resolve_left (by simp),h.2⟩,fun h=>⟨.inr h.1,h.2⟩⟩
theorem weakLr_fn (g:Nat→Nat) (N:Nat) (f:FuncId) (x y:List AV) (a:AV) (l m:List AV):WeakLr g N (a::l) (.fn f x y::m)=(((AV.fn f x y).ren g=a∧(AV.fn f x y).lt0 N=true)∧WeakLr g N l m):=propext ⟨fun h=>⟨h.1.resolve_left (by simp),h.2⟩,fun h=>⟨.inr h.1,h.2⟩⟩
theorem weakLr_sl (g:Nat→Nat) (N r sz:Nat) (fs:List FV) (a:AV) (l m:List AV) (h:r<N):WeakLr g N (a::l) (sl r sz fs::m)=(sl (g r) sz fs=a∧WeakLr g N l m):=by
 have e:(sl r sz fs).lt0 N=true:=by cases fs<;>first|rfl|exact decide_eq_true h
 refine propext ⟨fun h=>⟨?_,h.2⟩,fun h=>⟨.inr ⟨by rw [ren_sl];exact h.1,e⟩,h.2⟩⟩
 rcases h.1 with h|h
 ·cases fs<;>cases h
 ·rw [←ren_sl];exact h.1
attribute [go_sem] false_and and_false objLt_sl objLt_oset ren_sl map_ren_set weakHr_ob weakLr_sl
attribute [go_sem] weakL_fn weakLr_fn opAt_zero opAt_succ hasN_nil hasN_cons atr_leaf atr_one atr_br atr_alt atr_fin as1_none as1_some as3_undef as3_tt as3_tf as3_ft as3_ff as2_false as2_make as2_append as2_call
end Go.Proofs.YtgjnbcfencallaaDoor
set_option linter.unusedVariables false
set_option linter.unusedSimpArgs false
namespace Go.Proofs.YtgjnbcfencallaaDoor
open Go Go.RowKit
def Ns (l:List Nat):List FV:=l.map fun k:Nat=>I (k:Int)
theorem Ns_len {l:List Nat}:(Ns l).length=l.length:=by unfold Ns;rw [List.length_map]
theorem Ns_get {l:List Nat} {i:Nat} (h:i<l.length):(Ns l)[i]?=some (I (l.getD i 0:Nat)):=by
 unfold Ns;rw [map_get (fun k:Nat=>I (k:Int)) l h,lget_lt l 0 h]
theorem Ns_snoc {l:List Nat} {j:Nat}:Ns l++[I (j:Int)]=Ns (l++[j]):=by simp [Ns]
set_option maxRecDepth 100000 in
set_option maxHeartbeats 4000000 in
theorem rin_w (k:Int) (l:List Int) (hk:-9223372036854775808≤k∧k≤9223372036854775807) (hl:l.length≤140737488355328):Good Tryd.prog 26 [I k,ints l] (Bo (decide (k∈l))):=by
 refine good_of Tryd.func26 rfl (by kernel_rfl) fun X hO hrd=>?_;rw [Tryd.ntmps26,Tryd.results26];simp only [ast0,List.map_cons,List.map_nil,List.length_cons,List.length_nil,Nat.reduceAdd,Nat.reduceSub,List.replicate_succ,List.replicate_zero,List.cons_append,List.nil_append]
 (repeat (with_reducible first|refine W_seq fun K hK=>?_|refine J_block ?_|refine J_region ?_ |(refine Kont.go (by assumption) ?_)|(simp (config:={ maxSteps:=3000000 }) (disch:=omega) only [go_sem])))
 refine W_loop [4,5,6,7,8,9,10,11,12,13,14,15,16,17] (fun x:Nat=>[(5,.f (I x))]) (fun x:Nat=>[]) (fun x:Nat=>x≤l.length∧∀j,j<x→l.getD j 0≠k) (fun x:Nat=>l.length-x) (0) (⟨Nat.zero_le _,fun j h=>by omega⟩) (by refine weak_of ?_ ?_<;>simp (disch:=omega) only [go_sem]<;>first|rfl|exact ⟨rfl,rfl⟩|exact Or.inl rfl|exact ⟨Or.inl rfl,Or.inl rfl⟩|trivial|assumption|omega|(symm;assumption)|((repeat' apply And.intro)<;>first|rfl|omega|trivial|exact .inl rfl|exact .inr ⟨rfl,rfl⟩|exact .inr rfl|(right;symm;assumption)|(symm;assumption)|assumption)) ?_
 rintro i ⟨hi,hp⟩
 simp only [go_sem]
 (repeat (with_reducible first|refine W_seq fun K hK=>?_|refine J_region ?_ |refine J_c ?_|(refine Kont.go (by assumption) ?_)|(simp (config:={ maxSteps:=3000000 }) (disch:=omega) only [go_sem,List.length_map])))
 refine Jc_if (fun hlt=>?_) (fun hlt=>?_)<;>try simp only [decide_eq_true_eq,decide_eq_false_iff_not] at hlt
 ·have hx:=map_get I l hlt
  by_cases e:l[i]=k
  ·have hm:decide (k∈l)=true:=decide_eq_true (e▸List.getElem_mem _)
   (repeat (with_reducible first|refine W_seq fun K hK=>?_|refine J_block ?_|refine J_skip ?_|refine J_ret ?_|refine J_region ?_ |refine J_c ?_|refine Jc_true ?_|(refine Kont.go (by assumption) ?_)|(simp (config:={ maxSteps:=3000000 }) (disch:=omega) only [go_sem,↓reduceIte,hx,e])))
   rw [hm]
   exact Frz.f _
  ·(repeat (with_reducible first|refine W_seq fun K hK=>?_|refine J_block ?_|refine J_skip ?_|refine J_region ?_ |refine J_c ?_|refine Jc_false ?_|(refine Kont.go (by assumption) ?_)|(simp (config:={ maxSteps:=3000000 }) (disch:=omega) only [go_sem,↓reduceIte,hx,e])))
   refine ⟨i+1,⟨by omega,upto_next (p:=fun j=>l.getD j 0≠k) hp (by rw [lget_lt l 0 hlt];exact e)⟩,by omega,weak_of ?_ ?_⟩<;>(try simp (disch:=omega) only [go_sem])<;>(try first|done|omega|rfl|exact ⟨rfl,rfl⟩|trivial)
 ·have he:i=l.length:=by omega
  have hm:decide (k∈l)=false:=decide_eq_false fun hm=>by
   obtain ⟨c,hc,e⟩:=List.getElem_of_mem hm
   exact hp c (by omega) (by rw [lget_lt l 0 hc];exact e)
  (repeat (with_reducible first|refine W_seq fun K hK=>?_|refine J_exit ?_|refine J_ret ?_|refine J_region ?_ |(refine Kont.go (by assumption) ?_)|(simp (config:={ maxSteps:=3000000 }) (disch:=omega) only [go_sem,↓reduceIte])))
  rw [hm]
  exact Frz.f _
theorem rinN_w (k:Nat) (l:List Nat) (hk:k≤1000000) (hl:l.length≤1000000):Good Tryd.prog 26 [I (k:Int),.fz 1 (Ns l)] (Bo (decide (k∈l))):=by
 have h:=rin_w (k:Int) (l.map Int.ofNat) (by omega) (by rw [List.length_map];omega)
 have e1:ints (l.map Int.ofNat)=.fz 1 (Ns l):=by unfold Ns;simp [ints]
 have e2:decide ((k:Int)∈l.map Int.ofNat)=decide (k∈l):=by
  have:((k:Int)∈l.map Int.ofNat)=(k∈l):=propext ⟨fun h=>by
   obtain ⟨a,ha,e⟩:=List.mem_map.1 h
   have:a=k:=Int.ofNat.inj e
   exact this▸ha,fun h=>List.mem_map.2 ⟨k,h,rfl⟩⟩
  simp only [this]
 rw [e1,e2] at h
 exact h
def prevI (l:List Int) (x:Nat):Int:=if x=0 then -1 else l.getD (x-1) 0
def risB (n:Nat) (l:List Int):Bool:=(List.range l.length).all fun x=>decide (prevI l x<l.getD x 0)&&decide (l.getD x 0<(n:Int))
theorem prevI_next {l:List Int} {x:Nat}:prevI l (x+1)=l.getD x 0:=by unfold prevI;rw [if_neg (by omega)];rfl
theorem risB_iff {n:Nat} {l:List Int}:risB n l=true↔∀x,x<l.length→prevI l x<l.getD x 0∧l.getD x 0<(n:Int):=by
 simp [risB]
end Go.Proofs.YtgjnbcfencallaaDoor
