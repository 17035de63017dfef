/- Sets of nodes, one bit each: facts; TrailingZeros and all (old walks), has and len. Conditions: sets below 256; the table of package math/bits lies as it was laid. -/
import Derived.Test.YthehegidpamldaaGreatDoorZB15
import Derived.Test.YthehegidpamldaaGreatDoorZB11
import Derived.Lib.TrailingZeros
import Derived.Laws.Bits64b
import Derived.Laws.BitsLemmas
import Derived.Test.YthehegidpamldaaGreatDoorZB12
import Derived.Test.YthehegidpamldaaGreatDoorZNatOne
set_option linter.unusedVariables false
set_option linter.unusedSimpArgs false
namespace Go.Proofs.YthehegidpamldaaGreatDoor
open Go Go.RowKit
abbrev U (s:Nat):FV:=.v (.int .u64 (s:Int))
def dif (a b:Nat):Nat:=a^^^(a&&&b)
def bit (v:Nat):Nat:=2^v
def els (s:Nat):List Nat:=(List.range 8).filter fun v=>s.testBit v
section
variable {a b v i s : Nat}
theorem dif_bit:(dif a b).testBit i=(a.testBit i&&!b.testBit i):=by
 unfold dif;rw [Nat.testBit_xor,Nat.testBit_and];cases a.testBit i<;>cases b.testBit i<;>rfl
theorem dif_lt (h:a<256):dif a b<256:=Nat.xor_lt_two_pow (n:=8) h (Nat.lt_of_le_of_lt Nat.and_le_left h)
theorem or_lt (h:a<256) (h':b<256):a|||b<256:=Nat.or_lt_two_pow (n:=8) h h'
theorem bit_lt (h:v<8):bit v<256:=by
 have:=Nat.pow_lt_pow_right (a:=2) (by decide) h
 exact this
theorem bit_bit:(bit v).testBit i=decide (v=i):=by unfold bit;rw [Nat.testBit_two_pow]
theorem u_and (ha:a<256) (hb:b<256):bits .and .u64 (a:Int) (b:Int)=((a&&&b:Nat):Int):=bits_and_u64_nat a b (by omega) (by omega)
theorem u_or (ha:a<256) (hb:b<256):bits .or .u64 (a:Int) (b:Int)=((a|||b:Nat):Int) :=
 (bits_nat .u64 63 (by decide) (fun n h0 h1=>by rw [IntKind.wrap_u64];omega) a b (by omega) (by omega)).2
theorem u_an (ha:a<256) (hb:b<256):bits .andNot .u64 (a:Int) (b:Int)=((dif a b:Nat):Int):=by
 have hd:=dif_lt (b:=b) ha
 have e:(BitVec.ofInt 64 (a:Int)&&&~~~BitVec.ofInt 64 (b:Int))=BitVec.ofNat 64 (dif a b):=by
  apply BitVec.eq_of_getLsbD_eq
  intro i hi
  rw [BitVec.getLsbD_and,BitVec.getLsbD_not,BitVec.ofInt_natCast,BitVec.ofInt_natCast,BitVec.getLsbD_ofNat,BitVec.getLsbD_ofNat,BitVec.getLsbD_ofNat,dif_bit]
  simp [hi]
 show IntKind.u64.wrap ((BitVec.ofInt 64 (a:Int)&&&~~~BitVec.ofInt 64 (b:Int)).toNat:Int)=_
 rw [e,BitVec.toNat_ofNat,Nat.mod_eq_of_lt (by omega),IntKind.wrap_u64]
 omega
theorem u_shl (h:v<8):IntKind.u64.wrap (1*2^min v 64)=((bit v:Nat):Int):=by
 have e:min v 64=v:=by omega
 have hb:=bit_lt h
 unfold bit at hb ⊢
 obtain ⟨x,hx⟩:∃x,x=2^v:=⟨_,rfl⟩
 have hp:((2:Int)^v)=(x:Int):=by rw [hx];simp
 rw [←hx] at hb ⊢
 rw [e,Int.one_mul,IntKind.wrap_u64,hp]
 omega
theorem u_has (h:s<256) (hv:v<64):decide (bits .and .u64 ((s:Int).fdiv (2^min v 64)) 1=1)=s.testBit v:=by
 have e:min v 64=v:=by omega
 have e2:(s:Int).fdiv (2^v)=((s/2^v:Nat):Int):=by
  rw [Int.fdiv_eq_ediv_of_nonneg _ (Int.pow_nonneg (by decide))]
  simp
 have h1:s/2^v<256:=Nat.lt_of_le_of_lt (Nat.div_le_self _ _) h
 have e3:=u_and h1 (show 1<256 by decide)
 rw [e,e2]
 rw [show ((1:Nat):Int)=1 from rfl] at e3
 rw [e3,Nat.testBit_eq_decide_div_mod_eq,Nat.and_one_is_mod]
 congr 1
 exact propext ⟨fun h=>by omega,fun h=>by omega⟩
theorem els_mem:v∈els s↔v<8∧s.testBit v=true:=by unfold els;rw [List.mem_filter,List.mem_range]
theorem ext_bits (ha:a<256) (hb:b<256) (h:∀v,v<8→a.testBit v=b.testBit v):a=b:=by
 apply Nat.eq_of_testBit_eq
 intro i
 by_cases hi:i<8
 ·exact h i hi
 ·have hp:2^8≤2^i:=Nat.pow_le_pow_right (by decide) (by omega)
  rw [Nat.testBit_lt_two_pow (Nat.lt_of_lt_of_le ha hp),Nat.testBit_lt_two_pow (Nat.lt_of_lt_of_le hb hp)]
end
@[simp,go_sem] theorem wide_fn (f:FuncId):Fence.wide.fn f=True:=rfl
@[simp,go_sem] theorem wide_depth:Fence.wide.depth=none:=rfl
@[simp,go_sem] theorem wide_alive:Fence.wide.alive=false:=rfl
end Go.Proofs.YthehegidpamldaaGreatDoor
set_option linter.unusedVariables false
set_option linter.unusedSimpArgs false
namespace Go.Proofs.YthehegidpamldaaGreatDoor
open Go Go.RowKit
theorem sl_cells {r sz:Nat} {l:List FV}:(sl r sz l).cells=[sl r sz l]:=by cases l<;>rfl
theorem sl_one {r sz:Nat} {l:List FV} {p:AV→Prop}:(∃c,(sl r sz l).cells[0]?=some c∧p c)=p (sl r sz l):=by
 rw [sl_cells];exact propext ⟨fun ⟨c,h,hp⟩=>by cases h;exact hp,fun h=>⟨_,rfl,h⟩⟩
theorem sl_st {r sz:Nat} {l:List FV}:((sl r sz l).st=true)=True:=by cases l<;>exact eq_self true
theorem sl_clen {r sz:Nat} {l:List FV}:(sl r sz l).cells.length=1:=by rw [sl_cells];rfl
theorem lt0_sl {r sz N:Nat} {l:List FV} (h:r<N):(AV.lt0 N (sl r sz l)=true)=True:=by
 cases l with
 | nil=>exact eq_self true
 | cons a l=>exact propext ⟨fun _=>trivial,fun _=>decide_eq_true h⟩
attribute [go_sem] lt0_sl sl_one sl_st sl_clen
set_option maxRecDepth 100000 in
theorem has_w {s v:Nat} (hs:s<256) (hv:v<64):Good Tryz.prog 130 [U s,I (v:Int)] (Bo (s.testBit v)):=by
 have e:=u_has hs hv
 refine good_of Tryz.func130 rfl (by kernel_rfl) fun X hO hrd=>?_;rw [Tryz.ntmps130,Tryz.results130];simp only [ast0,List.map_cons,List.map_nil,List.length_cons,List.length_nil,Nat.reduceAdd,Nat.reduceSub,List.replicate_succ,List.replicate_zero,List.cons_append,List.nil_append]
 (repeat (with_reducible first|refine W_seq fun K hK=>?_|refine J_ret ?_|refine J_region ?_ |exact Frz.f _|(refine Kont.go (by assumption) ?_)|(simp (config:={ maxSteps:=3000000 }) (disch:=omega) only [go_sem,e])))
theorem els_len {s:Nat}:(els s).length≤8:=by unfold els;exact Nat.le_trans (List.length_filter_le _ _) (by simp)
end Go.Proofs.YthehegidpamldaaGreatDoor
set_option linter.unusedVariables false
set_option linter.unusedSimpArgs false
namespace Go.Proofs.YthehegidpamldaaGreatDoor
open Go Go.RowKit
def rowsO (e:TypeId) (sz:Nat) (R:List (List FV)):AH:=R.map fun l=>some ⟨e,sz,l.map .f⟩
def dy (A:AH) (e:TypeId) (sz:Nat) (R:List (List FV)) (B:AH):AH:=A++(rowsO e sz R++B)
section
variable {A A' B C : AH} {e : TypeId} {sz a n i j N : Nat} {R : List (List FV)} {l : List FV} {o : Option AO}
theorem rowsO_len:(rowsO e sz R).length=R.length:=by simp [rowsO]
theorem dy_len:(dy A e sz R B).length=A.length+(R.length+B.length):=by simp [dy,rowsO_len]
theorem dy_app:dy A e sz R B++C=dy A e sz R (B++C):=by simp [dy]
theorem weakH_app {H:AH}:A.length=A'.length→(WeakH N (A++H) (A'++C)↔WeakH N A A'∧WeakH N H C):=by
 induction A generalizing A' with
 | nil =>
  intro h
  cases A' with
  | nil=>rw [List.nil_append,List.nil_append,weakH_nil];simp
  | cons b A'=>simp at h
 | cons b A ih =>
  intro h
  cases A' with
  | nil=>simp at h
  | cons c A' =>
   have:=ih (A':=A') (by simpa using h)
   show (_∧WeakH N (A++H) (A'++C))↔(_∧WeakH N A A')∧_
   rw [this,and_assoc]
theorem weakH_rows:WeakH N (rowsO e sz R++B) (rowsO e sz R++[]):=by
 rw [List.append_nil]
 induction R with
 | nil=>exact (weakH_nil N B).mpr trivial
 | cons l R ih=>exact ⟨⟨rfl,fun x hx=>by obtain ⟨y,_,rfl⟩:=List.mem_map.1 (show x∈l.map AV.f from hx);rfl⟩,ih⟩
theorem weakH_dyB (h:A.length=A'.length):WeakH N (dy A e sz R B) (dy A' e sz R C)=(WeakH N A A'∧WeakH N B C):=by
 unfold dy
 refine propext ⟨fun hh=>⟨((weakH_app h).1 hh).1,((weakH_app rfl).1 ((weakH_app h).1 hh).2).2⟩,fun hh=>(weakH_app h).2 ⟨hh.1,(weakH_app rfl).2 ⟨?_,hh.2⟩⟩⟩
 have:=weakH_rows (N:=N) (e:=e) (sz:=sz) (R:=R) (B:=[])
 simpa using this
end
section
variable {A B C : AH} {e : TypeId} {sz N : Nat} {R : List (List FV)} {o p q r o' p' q' r' : Option AO}
theorem dy_g0:(dy (o::A) e sz R B)[0]?=some o:=(rfl)
theorem dy_g1:(dy (o::p::A) e sz R B)[1]?=some p:=(rfl)
theorem dy_g2:(dy (o::p::q::A) e sz R B)[2]?=some q:=(rfl)
theorem dy_g3:(dy (o::p::q::r::A) e sz R B)[3]?=some r:=(rfl)
theorem dy_s0:(dy (o::A) e sz R B).set 0 o'=dy (o'::A) e sz R B:=(rfl)
theorem dy_s1:(dy (o::p::A) e sz R B).set 1 o'=dy (o::o'::A) e sz R B:=(rfl)
theorem dy_s2:(dy (o::p::q::A) e sz R B).set 2 o'=dy (o::p::o'::A) e sz R B:=(rfl)
theorem dy_s3:(dy (o::p::q::r::A) e sz R B).set 3 o'=dy (o::p::q::o'::A) e sz R B:=(rfl)
theorem weakH_dy1:WeakH N (dy [o] e sz R B) (dy [o'] e sz R C)=(WeakH N [o] [o']∧WeakH N B C):=weakH_dyB rfl
theorem weakH_dy2:WeakH N (dy [o,p] e sz R B) (dy [o',p'] e sz R C)=(WeakH N [o,p] [o',p']∧WeakH N B C):=weakH_dyB rfl
theorem weakH_dy3:WeakH N (dy [o,p,q] e sz R B) (dy [o',p',q'] e sz R C)=(WeakH N [o,p,q] [o',p',q']∧WeakH N B C):=weakH_dyB rfl
theorem weakH_dy4:WeakH N (dy [o,p,q,r] e sz R B) (dy [o',p',q',r'] e sz R C)=(WeakH N [o,p,q,r] [o',p',q',r']∧WeakH N B C):=weakH_dyB rfl
end
abbrev nilV:FV:=.v (.slice none 0 0)
attribute [go_sem] dy_len dy_app dy_g0 dy_g1 dy_g2 dy_g3 dy_s0 dy_s1 dy_s2 dy_s3 weakH_dy1 weakH_dy2 weakH_dy3 weakH_dy4
end Go.Proofs.YthehegidpamldaaGreatDoor
set_option linter.unusedVariables false
set_option linter.unusedSimpArgs false
namespace Go.Proofs.YthehegidpamldaaGreatDoor
open Go Go.RowKit
def setI (l:List Int):Nat:=l.foldl (fun s v=>s|||bit v.toNat) 0
section
variable {l : List Int} {n x : Nat}
theorem setI_snoc {v:Int}:setI (l++[v])=setI l|||bit v.toNat:=by simp [setI]
theorem setI_take (h:x<l.length):setI (l.take (x+1))=setI (l.take x)|||bit (l.getD x 0).toNat:=by
 rw [List.take_add_one,List.getElem?_eq_getElem h,lget_lt l 0 h];exact setI_snoc
theorem setI_bit:∀{l:List Int} {u:Nat},(setI l).testBit u=l.any fun v=>decide (v.toNat=u):=by
 intro l u
 suffices h:∀(l:List Int) (s:Nat),(l.foldl (fun s v=>s|||bit v.toNat) s).testBit u=(s.testBit u||l.any fun v=>decide (v.toNat=u)) by
  have:=h l 0
  rw [Nat.zero_testBit,Bool.false_or] at this
  exact this
 intro l
 induction l with
 | nil=>intro s;simp
 | cons v l ih =>
  intro s
  rw [List.foldl_cons,ih,Nat.testBit_or,bit_bit,List.any_cons,Bool.or_assoc]
theorem setI_lt (hn:n≤8) (hx:x≤l.length) (h:∀j,j<x→prevI l j<l.getD j 0∧l.getD j 0<(n:Int)):setI (l.take x)<256:=by
 induction x with
 | zero=>simp [setI]
 | succ x ih =>
  rw [setI_take (by omega)]
  have h2:=(ris_nn h).2 x (by omega)
  have h3:=(h x (by omega)).2
  exact or_lt (ih (by omega) fun j hj=>h j (by omega)) (bit_lt (by omega))
end
def readS (n:Nat) (l:List Int):Nat:=if risB n l=true then setI l else 0
theorem readS_lt {n:Nat} {l:List Int} (hn:n≤8):readS n l<256:=by
 unfold readS
 split
 ·rename_i h
  have:=setI_lt (x:=l.length) hn (Nat.le_refl _) (risB_iff.1 h)
  rwa [List.take_length] at this
 ·decide
set_option maxRecDepth 100000 in
set_option maxHeartbeats 4000000 in
theorem read_w (l:List Int) {n:Nat} (hn:n≤8) (hw:∀x∈l,-9223372036854775808≤x∧x≤9223372036854775807) (hl:l.length≤140737488355328) :
  Good Tryz.prog 154 [ints l,I (n:Int)] (.tup [U (readS n l),Bo (risB n l)]):=by
 refine good_of Tryz.func154 rfl (by kernel_rfl) fun X hO hrd=>?_;rw [Tryz.ntmps154,Tryz.results154];simp only [ast0,List.map_cons,List.map_nil,List.length_cons,List.length_nil,Nat.reduceAdd,Nat.reduceSub,List.replicate_succ,List.replicate_zero,List.cons_append,List.nil_append]
 (repeat (with_reducible first|refine W_seq fun K hK=>?_|refine J_block ?_|refine J_region ?_ |(refine Kont.go (by assumption) ?_)|(simp (config:={ maxSteps:=3000000 }) (disch:=omega) only [go_sem,Int.reduceNeg,List.length_map])))
 have hz:FV.v (.int .u64 0)=U (setI (l.take 0)):=rfl
 rw [hz]
 refine W_loop [4,5,6,7,9,12,13,14,15,16,17,18,19,20,21,22,23,24,25,26,27,28,29] (fun x:Nat=>[(6,.f (U (setI (l.take x)))),(7,.f (I (prevI l x))),(12,.f (I x))]) (fun x:Nat=>[]) (fun x:Nat=>x≤l.length∧∀j,j<x→prevI l j<l.getD j 0∧l.getD j 0<(n:Int)) (fun x:Nat=>l.length-x) (0) (⟨Nat.zero_le _,fun j h=>by omega⟩) (by refine weak_of ?_ ?_<;>simp (disch:=omega) only [go_sem]<;>first|rfl|exact ⟨rfl,rfl⟩|exact Or.inl rfl|exact ⟨Or.inl rfl,Or.inl rfl⟩|trivial|assumption|omega|(symm;assumption)|((repeat' apply And.intro)<;>first|rfl|omega|trivial|exact .inl rfl|exact .inr ⟨rfl,rfl⟩|exact .inr rfl|(right;symm;assumption)|(symm;assumption)|assumption)) ?_
 rintro x ⟨hx,hp⟩
 simp only [go_sem]
 (repeat (with_reducible first|refine W_seq fun K hK=>?_|refine J_region ?_ |refine J_c ?_|(refine Kont.go (by assumption) ?_)|(simp (config:={ maxSteps:=3000000 }) (disch:=omega) only [go_sem])))
 refine Jc_if (fun hxl=>?_) (fun hxl=>?_)<;>try simp only [decide_eq_true_eq,decide_eq_false_iff_not] at hxl
 ·have g1:=map_get I l hxl
  have g2:=prevI_next (l:=l) (x:=x)
  have g3:l.getD x 0=l[x]:=lget_lt l 0 hxl
  have hno:¬(prevI l x<l[x]∧l[x]<(n:Int))→risB n l=false:=fun hh=>by
   cases hb:risB n l with
   | false=>rfl
   | true=>exact absurd (risB_iff.1 hb x hxl) (by rw [g3];exact hh)
  by_cases c1:l[x]≤prevI l x
  ·have e:risB n l=false:=hno fun h=>by omega
   have e2:readS n l=0:=by unfold readS;rw [e];rfl
   (repeat (with_reducible first|refine W_seq fun K hK=>?_|refine J_block ?_|refine J_skip ?_|refine J_ret ?_|refine J_region ?_ |refine J_c ?_|refine Jc_true ?_|(refine Kont.go (by assumption) ?_)|(simp (config:={ maxSteps:=3000000 }) (disch:=omega) only [go_sem,↓reduceIte,g1,c1])))
   rw [e,e2]
   exact ⟨_,rfl,FrzL.fs [_,_]⟩
  ·by_cases c2:(n:Int)≤l[x]
   ·have e:risB n l=false:=hno fun h=>by omega
    have e2:readS n l=0:=by unfold readS;rw [e];rfl
    (repeat (with_reducible first|refine W_seq fun K hK=>?_|refine J_block ?_|refine J_skip ?_|refine J_ret ?_|refine J_region ?_ |refine J_c ?_|refine Jc_true ?_|(refine Kont.go (by assumption) ?_)|(simp (config:={ maxSteps:=3000000 }) (disch:=omega) only [go_sem,↓reduceIte,g1,c1,c2])))
    rw [e,e2]
    exact ⟨_,rfl,FrzL.fs [_,_]⟩
   ·have hnn:=(ris_nn hp).1
    obtain ⟨v,hv⟩:=Int.eq_ofNat_of_zero_le (show 0≤l[x] by omega)
    have hs:=setI_lt hn hx hp
    have hv8:v<8:=by omega
    have hb:=bit_lt hv8
    have hset:=setI_take hxl
    rw [g3] at g2 hset
    rw [hv] at g1 g2 c1 c2 hset
    have et:((v:Nat):Int).toNat=v:=by omega
    rw [et] at hset
    have ho:=u_or hs hb
    have hsh:=u_shl hv8
    (repeat (with_reducible first|refine W_seq fun K hK=>?_|refine J_block ?_|refine J_skip ?_|refine J_region ?_ |refine J_c ?_|refine Jc_false ?_|(refine Kont.go (by assumption) ?_)|(simp (config:={ maxSteps:=3000000 }) (disch:=omega) only [go_sem,↓reduceIte,g1,c1,c2,hsh,ho,true_and])))
    refine ⟨x+1,⟨by omega,upto_next (p:=fun j=>prevI l j<l.getD j 0∧l.getD j 0<(n:Int)) hp ⟨by rw [g3];omega,by rw [g3];omega⟩⟩,by omega,weak_of ?_ ?_⟩<;>(try simp (disch:=omega) only [go_sem,g2,hset])<;>(try first|done|omega|rfl|exact ⟨rfl,rfl⟩|trivial)
 ·have he:x=l.length:=by omega
  subst he
  have e:risB n l=true:=risB_iff.2 hp
  have e2:readS n l=setI (l.take l.length):=by unfold readS;rw [e,List.take_length];rfl
  (repeat (with_reducible first|refine W_seq fun K hK=>?_|refine J_exit ?_|refine J_ret ?_|refine J_region ?_ |(refine Kont.go (by assumption) ?_)|(simp (config:={ maxSteps:=3000000 }) (disch:=omega) only [go_sem,↓reduceIte])))
  rw [e,e2]
  exact ⟨_,rfl,FrzL.fs [_,_]⟩
theorem nilR {H:AH}:ownR H (.f nilV) (.f nilV):=⟨rfl,.v _⟩
def nodeB (L:List (List Int)) (v:Nat):Bool:=risB L.length (L.getD v [])&&!(readS L.length (L.getD v [])).testBit v
def listsB (L:List (List Int)):Bool:=decide (1≤L.length∧L.length≤8)&&(List.range L.length).all (nodeB L)
def setAt (L:List (List Int)) (v:Nat):Nat:=readS L.length (L.getD v [])
def setsOf (L:List (List Int)):List Nat:=(List.range L.length).map (setAt L)
def OkIss (L:List (List Int)):Prop:=L.length≤140737488355328∧∀l∈L,l.length≤140737488355328∧∀x∈l,-9223372036854775808≤x∧x≤9223372036854775807
theorem listsB_iff {L:List (List Int)}:listsB L=true↔(1≤L.length∧L.length≤8)∧∀v,v<L.length→nodeB L v=true:=by
 simp [listsB]
def rdR (L:List (List Int)):RV:=if listsB L=true then .own 156 1 ((setsOf L).map U) else .f nilV
set_option maxRecDepth 100000 in
set_option maxHeartbeats 4000000 in
theorem reads_w (L:List (List Int)) (hL:OkIss L):GoodOT Tryz.prog 129 [.fz 1 (L.map ints)] (rdR L) [Bo (listsB L)]:=by
 obtain ⟨hLl,hLr⟩:=hL
 have bad:listsB L=false→rdR L=.f nilV:=fun h=>by unfold rdR;rw [h];rfl
 have z2:∀z n,List.replicate n (AV.f z)=(fillL n 0 (fun i=>U (setAt L i)) z).map .f:=fun z n=>by rw [fill_zero,List.map_replicate]
 refine goodOT_of Tryz.func129 rfl (by kernel_rfl) fun X hO hrd=>?_;rw [Tryz.ntmps129,Tryz.results129];simp only [ast0,List.map_cons,List.map_nil,List.length_cons,List.length_nil,Nat.reduceAdd,Nat.reduceSub,List.replicate_succ,List.replicate_zero,List.cons_append,List.nil_append]
 by_cases h1:1≤L.length∧L.length≤8
 case neg =>
  have hb:listsB L=false:=by
   cases h:listsB L with
   | false=>rfl
   | true=>exact absurd (listsB_iff.1 h).1 h1
  by_cases h2:(L.length:Int)<1
  ·(repeat (with_reducible first|refine W_seq fun K hK=>?_|refine J_ret ?_|refine J_region ?_ |refine J_c ?_|refine Jc_true ?_|(refine Kont.go (by assumption) ?_)|(simp (config:={ maxSteps:=3000000 }) (disch:=omega) only [go_sem,List.length_map,h2])))
   rw [hb,bad hb]
   refine ⟨_,⟨rfl,rfl⟩,by simp,nilR,fun x hx=>by rcases List.mem_singleton.1 hx with rfl;exact .v _⟩
  ·have h3:(8:Int)<(L.length:Int):=by omega
   (repeat (with_reducible first|refine W_seq fun K hK=>?_|refine J_ret ?_|refine J_region ?_ |refine J_c ?_|refine Jc_true ?_|(refine Kont.go (by assumption) ?_)|(simp (config:={ maxSteps:=3000000 }) (disch:=omega) only [go_sem,List.length_map,h2,h3])))
   rw [hb,bad hb]
   refine ⟨_,⟨rfl,rfl⟩,by simp,nilR,fun x hx=>by rcases List.mem_singleton.1 hx with rfl;exact .v _⟩
 obtain ⟨hn1,hn8⟩:=h1
 have h2:¬(L.length:Int)<1:=by omega
 have h3:¬(8:Int)<(L.length:Int):=by omega
 (repeat (first|(with_reducible first|refine W_seq fun K hK=>?_|refine J_block ?_|refine J_skip ?_|refine J_region ?_ |refine J_c ?_|refine Jc_false ?_|(refine Kont.go (by assumption) ?_)|(simp (config:={ maxSteps:=3000000 }) (disch:=omega) only [go_sem,List.length_map,h2,h3,z2]))|refine And.intro (by omega) ?_))
 obtain ⟨n,hn⟩:∃n,n=L.length:=⟨_,rfl⟩
 refine W_loop [2,3,6,7,8,9,22,23,24,25,26,27,28,29,30,31,32,33,34,35,36,37,38,39,40,41,42,43,44] (fun x:Nat=>[(22,.f (I x))]) (fun x:Nat=>[some ⟨156,1,(fillL L.length x (fun i=>U (setAt L i)) (U 0)).map .f⟩]) (fun x:Nat=>x≤L.length∧∀j,j<x→nodeB L j=true) (fun x:Nat=>L.length-x) (0) (⟨Nat.zero_le _,fun j h=>by omega⟩) (by refine weak_of ?_ ?_<;>simp (disch:=omega) only [go_sem]<;>first|rfl|exact ⟨rfl,rfl⟩|exact Or.inl rfl|exact ⟨Or.inl rfl,Or.inl rfl⟩|trivial|assumption|omega|(symm;assumption)|((repeat' apply And.intro)<;>first|rfl|omega|trivial|exact .inl rfl|exact .inr ⟨rfl,rfl⟩|exact .inr rfl|(right;symm;assumption)|(symm;assumption)|assumption)) ?_
 rintro x ⟨hx,hp⟩
 simp only [go_sem]
 (repeat (with_reducible first|refine W_seq fun K hK=>?_|refine J_region ?_ |refine J_c ?_|(refine Kont.go (by assumption) ?_)|(simp (config:={ maxSteps:=3000000 }) (disch:=omega) only [go_sem])))
 refine Jc_if (fun hxl=>?_) (fun hxl=>?_)<;>try simp only [decide_eq_true_eq,decide_eq_false_iff_not] at hxl
 ·have g1:=map_get ints L hxl
  have g3:L.getD x []=L[x]:=lget_lt L [] hxl
  have hr:=read_w (n:=L.length) L[x] hn8 (hLr _ (List.getElem_mem hxl)).2 (hLr _ (List.getElem_mem hxl)).1
  have hlt:=readS_lt (n:=L.length) (l:=L[x]) hn8
  have hh:=has_w (v:=x) hlt (by omega)
  have hns:nodeB L x=(risB L.length L[x]&&!(readS L.length L[x]).testBit x):=by unfold nodeB;rw [g3]
  have hbad:nodeB L x=false→listsB L=false:=fun h=>by
   cases hb:listsB L with
   | false=>rfl
   | true=>have:=(listsB_iff.1 hb).2 x hxl;rw [h] at this;cases this
  obtain ⟨s,hs⟩:∃s,s=readS L.length L[x]:=⟨_,rfl⟩
  rw [←hs] at hr hlt hh hns
  (repeat (with_reducible first|refine W_seq fun K hK=>?_|refine J_block ?_|refine J_skip ?_|refine J_region ?_ |(refine Kont.go (by assumption) ?_)|(simp (config:={ maxSteps:=3000000 }) (disch:=omega) only [go_sem,↓reduceIte,g1])))
  refine call_f hr rfl ?_
  cases hb1:risB L.length L[x] with
  | false =>
   have hb:=hbad (by rw [hns,hb1];rfl)
   (repeat (with_reducible first|refine W_seq fun K hK=>?_|refine J_ret ?_|refine J_region ?_ |refine J_c ?_|refine Jc_true ?_|(refine Kont.go (by assumption) ?_)|(simp (config:={ maxSteps:=3000000 }) (disch:=omega) only [go_sem])))
   rw [hb,bad hb]
   refine ⟨_,⟨rfl,rfl⟩,by simp,nilR,fun x hx=>by rcases List.mem_singleton.1 hx with rfl;exact .v _⟩
  | true =>
   cases hb2:s.testBit x with
   | true =>
    have hb:=hbad (by rw [hns,hb1,hb2];rfl)
    rw [hb2] at hh
    (repeat (with_reducible first|refine W_seq fun K hK=>?_|refine J_region ?_ |(refine Kont.go (by assumption) ?_)|(simp (config:={ maxSteps:=3000000 }) (disch:=omega) only [go_sem])))
    refine call_f hh rfl ?_
    (repeat (with_reducible first|refine W_seq fun K hK=>?_|refine J_ret ?_|refine J_region ?_ |refine J_c ?_|refine Jc_true ?_|(refine Kont.go (by assumption) ?_)|(simp (config:={ maxSteps:=3000000 }) (disch:=omega) only [go_sem])))
    rw [hb,bad hb]
    refine ⟨_,⟨rfl,rfl⟩,by simp,nilR,fun x hx=>by rcases List.mem_singleton.1 hx with rfl;exact .v _⟩
   | false =>
    have hok:nodeB L x=true:=by rw [hns,hb1,hb2];rfl
    rw [hb2] at hh
    have hfl:(fillL L.length x (fun i=>U (setAt L i)) (U 0)).length=L.length:=fill_len
    have hfs:=fillA_set (n:=L.length) (k:=x) (f:=fun i=>U (setAt L i)) (z:=U 0) (x:=U s) hxl (by show U (readS L.length (L.getD x []))=_;rw [g3,hs])
    have hfg:=fillA_get (n:=L.length) (k:=x) (f:=fun i=>U (setAt L i)) (z:=U 0) (j:=x) hxl
    (repeat (with_reducible first|refine W_seq fun K hK=>?_|refine J_region ?_ |(refine Kont.go (by assumption) ?_)|(simp (config:={ maxSteps:=3000000 }) (disch:=omega) only [go_sem])))
    refine call_f hh rfl ?_
    (repeat (first|(with_reducible first|refine J_skip ?_|refine J_region ?_ |refine J_c ?_|refine Jc_false ?_|(refine Kont.go (by assumption) ?_)|(simp (config:={ maxSteps:=3000000 }) (disch:=omega) only [go_sem,↓reduceIte,hfs,hfg]))|refine And.intro (by omega) ?_))
    refine ⟨x+1,⟨by omega,upto_next (p:=fun j=>nodeB L j=true) hp hok⟩,by omega,weak_of ?_ ?_⟩<;>(try simp (disch:=omega) only [go_sem])<;>(try first|done|omega|rfl|exact ⟨rfl,rfl⟩|trivial)
 ·have he:x=L.length:=by omega
  subst he
  have hb:listsB L=true:=listsB_iff.2 ⟨⟨hn1,hn8⟩,hp⟩
  have hr:rdR L=.own 156 1 ((setsOf L).map U):=by unfold rdR;rw [hb];rfl
  have hA:fillL L.length L.length (fun i=>U (setAt L i)) (U 0)=(setsOf L).map U:=by unfold setsOf;rw [fill_all,List.map_map];rfl
  rw [hA]
  (repeat (with_reducible first|refine W_seq fun K hK=>?_|refine J_exit ?_|refine J_ret ?_|refine J_region ?_ |(refine Kont.go (by assumption) ?_)|(simp (config:={ maxSteps:=3000000 }) (disch:=omega) only [go_sem,↓reduceIte])))
  rw [hb,hr]
  refine ⟨_,⟨rfl,rfl⟩,by simp,?_,fun x hx=>by rcases List.mem_singleton.1 hx with rfl;exact .v _⟩
  have hl:((setsOf L).map U).length=L.length:=by unfold setsOf;simp
  exact ⟨0,by rw [hl],rfl,fun x hx=>by obtain ⟨y,_,rfl⟩:=List.mem_map.1 hx;exact .v _⟩
end Go.Proofs.YthehegidpamldaaGreatDoor
set_option linter.unusedVariables false
set_option linter.unusedSimpArgs false
namespace Go.Proofs.YthehegidpamldaaGreatDoor
open Go Go.RowKit
theorem set_mem {l:List Int} {n v:Nat} (h:risB n l=true):(setI l).testBit v=decide ((v:Int)∈l):=by
 have hnn:=(ris_nn (x:=l.length) (risB_iff.1 h)).2
 rw [setI_bit]
 by_cases hm:(v:Int)∈l
 ·rw [decide_eq_true hm]
  exact List.any_eq_true.2 ⟨_,hm,decide_eq_true (by omega)⟩
 ·rw [decide_eq_false hm]
  rw [List.any_eq_false]
  intro x hx hd
  obtain ⟨j,hj,e⟩:=List.getElem_of_mem hx
  have h0:=hnn j hj
  rw [lget_lt l 0 hj,e] at h0
  have:=of_decide_eq_true hd
  exact hm (by rw [show (v:Int)=x by omega];exact hx)
set_option maxRecDepth 100000 in
set_option maxHeartbeats 4000000 in
theorem listsOK_w (L:List (List Int)) (hL:OkIss L):Good Tryz.prog 136 [.fz 1 (L.map ints)] (Bo (listsB L)):=by
 obtain ⟨hLl,hLr⟩:=hL
 refine good_of Tryz.func136 rfl (by kernel_rfl) fun X hO hrd=>?_;rw [Tryz.ntmps136,Tryz.results136];simp only [ast0,List.map_cons,List.map_nil,List.length_cons,List.length_nil,Nat.reduceAdd,Nat.reduceSub,List.replicate_succ,List.replicate_zero,List.cons_append,List.nil_append]
 by_cases h1:1≤L.length∧L.length≤8
 case neg =>
  have hb:listsB L=false:=by
   cases h:listsB L with
   | false=>rfl
   | true=>exact absurd (listsB_iff.1 h).1 h1
  rw [hb]
  by_cases h2:(L.length:Int)<1
  ·(repeat (with_reducible first|refine W_seq fun K hK=>?_|refine J_ret ?_|refine J_region ?_ |refine J_c ?_|refine Jc_true ?_|exact Frz.f _|(refine Kont.go (by assumption) ?_)|(simp (config:={ maxSteps:=3000000 }) (disch:=omega) only [go_sem,List.length_map,h2,true_and])))
  ·have h3:(8:Int)<(L.length:Int):=by omega
   (repeat (with_reducible first|refine W_seq fun K hK=>?_|refine J_ret ?_|refine J_region ?_ |refine J_c ?_|refine Jc_true ?_|exact Frz.f _|(refine Kont.go (by assumption) ?_)|(simp (config:={ maxSteps:=3000000 }) (disch:=omega) only [go_sem,List.length_map,h2,h3,true_and])))
 obtain ⟨hn1,hn8⟩:=h1
 have h2:¬(L.length:Int)<1:=by omega
 have h3:¬(8:Int)<(L.length:Int):=by omega
 (repeat (with_reducible first|refine W_seq fun K hK=>?_|refine J_block ?_|refine J_skip ?_|refine J_region ?_ |refine J_c ?_|refine Jc_false ?_|(refine Kont.go (by assumption) ?_)|(simp (config:={ maxSteps:=3000000 }) (disch:=omega) only [go_sem,List.length_map,h2,h3,true_and])))
 refine W_loop [2,3,4,5,14,15,16,17,18,19,20,21,22,23,24,25,26,27,28,29,30,31,32,33,34,35,36,37] (fun x:Nat=>[(3,.f (I x))]) (fun x:Nat=>[]) (fun x:Nat=>x≤L.length∧∀j,j<x→nodeB L j=true) (fun x:Nat=>L.length-x) (0) (⟨Nat.zero_le _,fun j h=>by omega⟩) (by refine weak_of ?_ ?_<;>simp (disch:=omega) only [go_sem]<;>first|rfl|exact ⟨rfl,rfl⟩|exact Or.inl rfl|exact ⟨Or.inl rfl,Or.inl rfl⟩|trivial|assumption|omega|(symm;assumption)|((repeat' apply And.intro)<;>first|rfl|omega|trivial|exact .inl rfl|exact .inr ⟨rfl,rfl⟩|exact .inr rfl|(right;symm;assumption)|(symm;assumption)|assumption)) ?_
 rintro x ⟨hx,hp⟩
 simp only [go_sem]
 (repeat (with_reducible first|refine W_seq fun K hK=>?_|refine J_region ?_ |refine J_c ?_|(refine Kont.go (by assumption) ?_)|(simp (config:={ maxSteps:=3000000 }) (disch:=omega) only [go_sem,List.length_map])))
 refine Jc_if (fun hxl=>?_) (fun hxl=>?_)<;>try simp only [decide_eq_true_eq,decide_eq_false_iff_not] at hxl
 ·have g1:=map_get ints L hxl
  have g3:L.getD x []=L[x]:=lget_lt L [] hxl
  have hlr:=hLr _ (List.getElem_mem hxl)
  have hr:=rising_w (n:=L.length) L[x] (by omega) hlr.2 hlr.1
  have hin:=rin_w (x:Int) L[x] (by omega) hlr.1
  have hns:nodeB L x=(risB L.length L[x]&&!(readS L.length L[x]).testBit x):=by unfold nodeB;rw [g3]
  have hbad:nodeB L x=false→listsB L=false:=fun h=>by
   cases hb:listsB L with
   | false=>rfl
   | true=>have:=(listsB_iff.1 hb).2 x hxl;rw [h] at this;cases this
  (repeat (with_reducible first|refine W_seq fun K hK=>?_|refine J_block ?_|refine J_skip ?_|refine J_region ?_ |(refine Kont.go (by assumption) ?_)|(simp (config:={ maxSteps:=3000000 }) (disch:=omega) only [go_sem,↓reduceIte,g1,List.length_map,true_and])))
  refine call_f hr rfl ?_
  (repeat (with_reducible first|refine W_seq fun K hK=>?_|refine J_region ?_ |(refine Kont.go (by assumption) ?_)|(simp (config:={ maxSteps:=3000000 }) (disch:=omega) only [go_sem,↓reduceIte,g1,true_and])))
  refine call_f hin rfl ?_
  cases hb1:risB L.length L[x] with
  | false =>
   have hb:=hbad (by rw [hns,hb1];rfl)
   (repeat (with_reducible first|refine W_seq fun K hK=>?_|refine J_ret ?_|refine J_region ?_ |refine J_c ?_|refine Jc_true ?_|(refine Kont.go (by assumption) ?_)|(simp (config:={ maxSteps:=3000000 }) (disch:=omega) only [go_sem])))
   rw [hb];exact Frz.f _
  | true =>
   have hsm:=set_mem (v:=x) hb1
   have hrs:readS L.length L[x]=setI L[x]:=by unfold readS;rw [if_pos hb1]
   rw [hrs,hsm,hb1] at hns
   cases hb2:decide ((x:Int)∈L[x]) with
   | true =>
    have hb:=hbad (by rw [hns,hb2];rfl)
    (repeat (with_reducible first|refine W_seq fun K hK=>?_|refine J_ret ?_|refine J_region ?_ |refine J_c ?_|refine Jc_true ?_|(refine Kont.go (by assumption) ?_)|(simp (config:={ maxSteps:=3000000 }) (disch:=omega) only [go_sem])))
    rw [hb];exact Frz.f _
   | false =>
    have hok:nodeB L x=true:=by rw [hns,hb2];rfl
    (repeat (with_reducible first|refine W_seq fun K hK=>?_|refine J_skip ?_|refine J_region ?_ |refine J_c ?_|refine Jc_false ?_|(refine Kont.go (by assumption) ?_)|(simp (config:={ maxSteps:=3000000 }) (disch:=omega) only [go_sem])))
    refine ⟨x+1,⟨by omega,upto_next (p:=fun j=>nodeB L j=true) hp hok⟩,by omega,weak_of ?_ ?_⟩<;>(try simp (disch:=omega) only [go_sem])<;>(try first|done|omega|rfl|exact ⟨rfl,rfl⟩|trivial)
 ·have he:x=L.length:=by omega
  subst he
  have hb:listsB L=true:=listsB_iff.2 ⟨⟨hn1,hn8⟩,hp⟩
  (repeat (with_reducible first|refine W_seq fun K hK=>?_|refine J_exit ?_|refine J_ret ?_|refine J_region ?_ |(refine Kont.go (by assumption) ?_)|(simp (config:={ maxSteps:=3000000 }) (disch:=omega) only [go_sem,↓reduceIte])))
  rw [hb];exact Frz.f _
end Go.Proofs.YthehegidpamldaaGreatDoor
set_option linter.unusedVariables false
set_option linter.unusedSimpArgs false
namespace Go.Proofs.YthehegidpamldaaGreatDoor
open Go Go.RowKit
abbrev Pa:=Nat→Nat→Bool
def okT (pa:Pa) (An Z:Nat→Bool):List Nat→Nat→Nat→Bool
 | [],_,_=>true
 | s::_,t,v=>if (pa s t&&pa v t)=true then An t else !Z t
def ActW (pa:Pa) (An Z X:Nat→Bool):List Nat→Prop
 | []=>False
 | [x]=>X x=true
 | v::t::r=>ActW pa An Z X (t::r)∧(pa v t||pa t v)=true∧okT pa An Z r t v=true
inductive Ball (pa : Pa) (An Z X : Nat → Bool) : Nat → Bool → Prop
  | start {x : Nat} : X x = true → Ball pa An Z X x true
  | down {t k : Nat} {d : Bool} : Ball pa An Z X t d → Z t = false → pa t k = true → Ball pa An Z X k false
  | up {t u : Nat} {d : Bool} : Ball pa An Z X t d → (d = true ∧ Z t = false) ∨ (d = false ∧ An t = true) → pa u t = true → Ball pa An Z X u true
section
variable {pa : Pa} {An Z X Y : Nat → Bool} {n : Nat}
theorem ActW.lt (hX:∀x,X x=true→x<n) (hp:∀u v,pa u v=true→u<n∧v<n):∀{w:List Nat},ActW pa An Z X w→∀x∈w,x<n:=by
 intro w
 induction w with
 | nil=>intro h;exact h.elim
 | cons v w ih =>
  intro h x hx
  cases w with
  | nil=>rw [List.mem_singleton.1 hx];exact hX _ h
  | cons t r =>
   obtain ⟨h1,h2,h3⟩:=h
   rcases List.mem_cons.1 hx with rfl|hx
   ·rcases Bool.or_eq_true_iff.1 h2 with h|h
    ·exact (hp _ _ h).1
    ·exact (hp _ _ h).2
   ·exact ih h1 x hx
end
end Go.Proofs.YthehegidpamldaaGreatDoor
set_option linter.unusedVariables false
set_option linter.unusedSimpArgs false
namespace Go.Proofs.YthehegidpamldaaGreatDoor
open Go Go.RowKit
def sumF (f:Nat→Rat):Nat→Rat
 | 0=>0
 | n+1=>sumF f n+f n
def grt (a b:Rat):Rat:=if a<b then b else a
def maxF (f:Nat→Rat):Nat→Rat
 | 0=>0
 | n+1=>grt (maxF f n) (f n)
section
variable {f g : Nat → Rat} {n m : Nat}
theorem sumF_congr (h:∀k,k<n→f k=g k):sumF f n=sumF g n:=by
 induction n with
 | zero=>rfl
 | succ n ih=>show sumF f n+f n=sumF g n+g n;rw [ih fun k hk=>h k (by omega),h n (by omega)]
theorem sumF_zero:sumF (fun _=>0) n=0:=by
 induction n with
 | zero=>rfl
 | succ n ih=>show sumF _ n+0=0;rw [ih,Rat.add_zero]
theorem sumF_add:sumF (fun k=>f k+g k) n=sumF f n+sumF g n:=by
 induction n with
 | zero=>exact (Rat.add_zero 0).symm
 | succ n ih=>show sumF _ n+(f n+g n)=(sumF f n+f n)+(sumF g n+g n);rw [ih];grind
theorem sumF_mul (c:Rat):c*sumF f n=sumF (fun k=>c*f k) n:=by
 induction n with
 | zero=>exact Rat.mul_zero c
 | succ n ih=>show c*(sumF f n+f n)=sumF _ n+c*f n;rw [Rat.mul_add,ih]
theorem sumF_mulr (c:Rat):sumF f n*c=sumF (fun k=>f k*c) n:=by rw [Rat.mul_comm,sumF_mul];exact sumF_congr fun k _=>Rat.mul_comm _ _
theorem sumF_swap {h:Nat→Nat→Rat}:sumF (fun i=>sumF (fun k=>h i k) m) n=sumF (fun k=>sumF (fun i=>h i k) n) m:=by
 induction n with
 | zero=>exact sumF_zero.symm
 | succ n ih=>show sumF _ n+sumF _ m=_;rw [ih,←sumF_add];rfl
end
structure HM where
  n : Nat
  a : Nat → Rat
  mv : Nat → Nat → Rat
  sh : Nat → Nat → Rat
  s : Nat → Nat
  T : Nat
structure HM.Ok (h : HM) : Prop where
  a : ∀ i, 0 ≤ h.a i
  mv : ∀ i k, 0 ≤ h.mv i k
  sh : ∀ i k, 0 ≤ h.sh i k
def HM.fw (h:HM):Nat→Nat→Rat
 | 0,i=>h.a i*h.sh i (h.s 0)
 | t+1,i=>sumF (fun k=>HM.fw h t k*h.mv k i) h.n*h.sh i (h.s (t+1))
def HM.bwU (h:HM):Nat→Nat→Rat
 | 0,i=>1
 | u+1,i=>sumF (fun k=>h.mv i k*h.sh k (h.s (h.T-1-u))*HM.bwU h u k) h.n
def HM.mxU (h:HM):Nat→Nat→Rat
 | 0,i=>1
 | u+1,i=>maxF (fun k=>h.mv i k*h.sh k (h.s (h.T-1-u))*HM.mxU h u k) h.n
def HM.bw (h:HM) (t i:Nat):Rat:=h.bwU (h.T-1-t) i
def HM.mx (h:HM) (t i:Nat):Rat:=h.mxU (h.T-1-t) i
def HM.best (h:HM):Rat:=if h.T=0 then 1 else maxF (fun i=>h.a i*h.sh i (h.s 0)*h.mx 0 i) h.n
section
variable {h : HM} {t i : Nat}
theorem HM.bw_next (ht:t+1<h.T):h.bw t i=sumF (fun k=>h.mv i k*h.sh k (h.s (t+1))*h.bw (t+1) k) h.n:=by
 unfold HM.bw
 rw [show h.T-1-t=(h.T-1-(t+1))+1 by omega]
 show sumF _ _=_
 rw [show h.T-1-(h.T-1-(t+1))=t+1 by omega]
theorem HM.step (ht:t+1<h.T):sumF (fun i=>h.fw t i*h.bw t i) h.n=sumF (fun i=>h.fw (t+1) i*h.bw (t+1) i) h.n:=by
 have e1:sumF (fun i=>h.fw t i*h.bw t i) h.n=sumF (fun i=>sumF (fun k=>h.fw t i*h.mv i k*h.sh k (h.s (t+1))*h.bw (t+1) k) h.n) h.n :=
  sumF_congr fun i _=>by rw [HM.bw_next ht,sumF_mul];exact sumF_congr fun k _=>by simp only [Rat.mul_assoc]
 rw [e1,sumF_swap]
 refine sumF_congr fun k _=>?_
 show _=sumF (fun i=>h.fw t i*h.mv i k) h.n*h.sh k (h.s (t+1))*h.bw (t+1) k
 rw [sumF_mulr,sumF_mulr]
end
end Go.Proofs.YthehegidpamldaaGreatDoor
set_option linter.unusedVariables false
set_option linter.unusedSimpArgs false
namespace Go.Proofs.YthehegidpamldaaGreatDoor
open Go Go.RowKit
abbrev Mx:=Nat→Nat→Rat
def piv (M:Mx) (c n:Nat):Option Nat:=(List.range (n-c)).find? fun p=>decide (M (c+p) c≠0)
def swapM (M:Mx) (c r:Nat):Mx:=fun i k=>if i=c then M r k else if i=r then M c k else M i k
def divM (M:Mx) (c:Nat):Mx:=fun i k=>if i=c then M c k/M c c else M i k
def elimM (M:Mx) (c:Nat):Mx:=fun i k=>if i=c then M c k else M i k-M i c*M c k
def stepM (M:Mx) (c r:Nat):Mx:=elimM (divM (swapM M c r) c) c
def gs (n:Nat) (M:Mx):Nat→Option Mx
 | 0=>some M
 | c+1=>match gs n M c with
  | none=>none
  | some M'=>match piv M' c n with
   | none=>none
   | some p=>some (stepM M' c (c+p))
section
variable {n c r : Nat} {M : Mx} {y x : Nat → Rat}
end
end Go.Proofs.YthehegidpamldaaGreatDoor
set_option linter.unusedVariables false
set_option linter.unusedSimpArgs false
namespace Go.Proofs.YthehegidpamldaaGreatDoor
open Go Go.RowKit
abbrev Bx:=Nat→Nat→Bool
inductive Star (n : Nat) (E : Bx) (i : Nat) : Nat → Prop
  | refl : Star n E i i
  | step {j k : Nat} (h : Star n E i j) (hk : k < n) (he : E j k = true) : Star n E i k
section
variable {n K i j k : Nat} {E : Bx}
theorem Star.trans (h1:Star n E i j) (h2:Star n E j k):Star n E i k:=by
 induction h2 with
 | refl=>exact h1
 | step _ hk he ih=>exact .step ih hk he
theorem Star.lt (h:Star n E i j) (hi:i<n):j<n:=by cases h with|refl=>exact hi|step _ hk _=>exact hk
structure Pre (n : Nat) (R : Bx) : Prop where
  refl : ∀ i, R i i = true
  trans : ∀ i j k, j < n → R i j = true → R j k = true → R i k = true
variable {R : Bx}
end
end Go.Proofs.YthehegidpamldaaGreatDoor
set_option linter.unusedVariables false
set_option linter.unusedSimpArgs false
namespace Go.Proofs.YthehegidpamldaaGreatDoor
open Go Go.RowKit
def paO (P:List Nat):Pa:=fun u v=>(P.getD v 0).testBit u
def freB (P:List Nat) (n:Nat) (done:List Nat) (v:Nat):Bool:=!decide (v∈done)&&(List.range n).all fun u=>!paO P u v||decide (u∈done)
def nxtV (P:List Nat) (n:Nat) (done:List Nat):Option Nat:=(List.range n).find? (freB P n done)
def ordN (P:List Nat) (n:Nat):Nat→List Nat→Option (List Nat)
 | 0,done=>some done
 | k+1,done=>match nxtV P n done with
  | none=>none
  | some v=>ordN P n k (done++[v])
structure OrdI (P : List Nat) (n : Nat) (done : List Nat) : Prop where
  nd : done.Nodup
  lt : ∀ v ∈ done, v < n
  pre : ∀ i (h : i < done.length) u, paO P u done[i] = true → u ∈ done.take i
section
variable {P : List Nat} {n v : Nat} {done l : List Nat}
theorem OrdI.nil:OrdI P n []:=⟨List.nodup_nil,fun v h=>by simp at h,fun i h=>by simp at h⟩
theorem freB_iff (hP:∀u v,paO P u v=true→u<n∧v<n):freB P n done v=true↔v∉done∧∀u,paO P u v=true→u∈done:=by
 unfold freB
 rw [Bool.and_eq_true,List.all_eq_true]
 constructor
 ·rintro ⟨h1,h2⟩
  refine ⟨by simpa using h1,fun u hu=>?_⟩
  have:=h2 u (List.mem_range.2 (hP u v hu).1)
  rw [hu] at this
  simpa using this
 ·rintro ⟨h1,h2⟩
  refine ⟨by simpa using h1,fun u _=>?_⟩
  cases hu:paO P u v with
  | false=>rfl
  | true=>simpa using h2 u hu
theorem OrdI.next (hP:∀u v,paO P u v=true→u<n∧v<n) (h:OrdI P n done) (hv:nxtV P n done=some v):OrdI P n (done++[v]):=by
 have hf:=(freB_iff hP).1 (List.find?_some hv)
 have hvn:=List.mem_range.1 (List.mem_of_find?_eq_some hv)
 refine ⟨List.nodup_append.2 ⟨h.nd,by simp,fun a ha b hb=>by rw [List.mem_singleton.1 hb];exact fun e=>hf.1 (e▸ha)⟩,fun w hw=>?_,fun i hi u hu=>?_⟩
 ·rcases List.mem_append.1 hw with hw|hw
  ·exact h.lt w hw
  ·rw [List.mem_singleton.1 hw];exact hvn
 ·by_cases hid:i<done.length
  ·rw [List.getElem_append_left hid] at hu
   rw [List.take_append_of_le_length (by omega)]
   exact h.pre i hid u hu
  ·have e:i=done.length:=by simp at hi;omega
   subst e
   rw [List.getElem_append_right (Nat.le_refl _)] at hu
   rw [List.take_append_of_le_length (Nat.le_refl _),List.take_length]
   exact hf.2 u (by simpa using hu)
theorem Star.first {E:Bx} {u v z:Nat} (h:Star n E v z) (hv:v<n) (he:E u v=true):Star n E u z:=(Star.step .refl hv he).trans h
end
end Go.Proofs.YthehegidpamldaaGreatDoor
