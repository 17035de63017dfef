/- Sets of nodes: has, len, list, read, reads, lists: walked. Conditions: sets below 256, what slices may hold. -/
import Derived.Test.YtgjnbcfencallaaDoorZB06
import Derived.Test.YtgjnbcfencallaaDoorZB07
import Derived.Test.YtgjnbcfencallaaDoorZB00
set_option linter.unusedVariables false
set_option linter.unusedSimpArgs false
namespace Go.Proofs.YtgjnbcfencallaaDoor
open Go Go.RowKit
theorem sl_cells {r sz:Nat} {l:List FV}:(sl r sz l).cells=[sl r sz l]:=by cases l<;>rfl
theorem sl_one {r sz:Nat} {l:List FV} {p:AV→Prop}:(∃c,(sl r sz l).cells[0]?=some c∧p c)=p (sl r sz l):=by
 rw [sl_cells];exact propext ⟨fun ⟨c,h,hp⟩=>by cases h;exact hp,fun h=>⟨_,rfl,h⟩⟩
theorem sl_st {r sz:Nat} {l:List FV}:((sl r sz l).st=true)=True:=by cases l<;>exact eq_self true
theorem sl_clen {r sz:Nat} {l:List FV}:(sl r sz l).cells.length=1:=by rw [sl_cells];rfl
theorem lt0_sl {r sz N:Nat} {l:List FV} (h:r<N):(AV.lt0 N (sl r sz l)=true)=True:=by
 cases l with
 | nil=>exact eq_self true
 | cons a l=>exact propext ⟨fun _=>trivial,fun _=>decide_eq_true h⟩
attribute [go_sem] lt0_sl sl_one sl_st sl_clen
set_option maxRecDepth 100000 in
theorem has_w {s v:Nat} (hs:s<256) (hv:v<64):Good Tryd.prog 35 [U s,I (v:Int)] (Bo (s.testBit v)):=by
 have e:=u_has hs hv
 refine good_of Tryd.func35 rfl (by kernel_rfl) fun X hO hrd=>?_;rw [Tryd.ntmps35,Tryd.results35];simp only [ast0,List.map_cons,List.map_nil,List.length_cons,List.length_nil,Nat.reduceAdd,Nat.reduceSub,List.replicate_succ,List.replicate_zero,List.cons_append,List.nil_append]
 (repeat (with_reducible first|refine W_seq fun K hK=>?_|refine J_ret ?_|refine J_region ?_ |exact Frz.f _|(refine Kont.go (by assumption) ?_)|(simp (config:={ maxSteps:=3000000 }) (disch:=omega) only [go_sem,e])))
theorem els_take {s i:Nat} {x:Int} (h:((els s).map Int.ofNat)[i]?=some x):∃v:Nat,x=(v:Int)∧v<8∧s.testBit v=true∧(els s)[i]?=some v∧(els s).take i++[v]=(els s).take (i+1):=by
 rw [List.getElem?_map] at h
 cases hv:(els s)[i]? with
 | none=>rw [hv] at h;cases h
 | some v =>
  rw [hv] at h
  cases h
  obtain ⟨h1,h2⟩:=els_mem.1 (List.mem_of_getElem? hv)
  exact ⟨v,rfl,h1,h2,rfl,by rw [List.take_add_one,hv];rfl⟩
theorem els_len {s:Nat}:(els s).length≤8:=by unfold els;exact Nat.le_trans (List.length_filter_le _ _) (by simp)
set_option maxRecDepth 100000 in
set_option maxHeartbeats 4000000 in
theorem list_w {s:Nat} (hs:s<256):Good Tryd.prog 39 [U s] (.fz 1 (Ns (els s))):=by
 have hit:=all_iter s hs
 have hok:enterOk Tryd.prog 45=true:=by kernel_rfl
 have hel:=els_len (s:=s)
 refine good_of Tryd.func39 rfl (by kernel_rfl) fun X hO hrd=>?_;rw [Tryd.ntmps39,Tryd.results39];simp only [ast0,List.map_cons,List.map_nil,List.length_cons,List.length_nil,Nat.reduceAdd,Nat.reduceSub,List.replicate_succ,List.replicate_zero,List.cons_append,List.nil_append]
 (repeat (with_reducible first|refine W_seq fun K hK=>?_|refine J_block ?_|refine J_region ?_ |(refine Kont.go (by assumption) ?_)|(simp (config:={ maxSteps:=3000000 }) (disch:=omega) only [go_sem])))
 refine J_reserve ?_
 refine J_rangeW hrd [4,7,8,9,10,11] (fun i=>[some ⟨23,1,[sl 1 1 (Ns ((els s).take i))]⟩,ob 3 1 (Ns ((els s).take i))]) rfl (hit) (by kernel_rfl) (by refine weak_of ?_ ?_<;>simp (disch:=omega) only [go_sem,Nat.reduceAdd]<;>first|rfl|exact ⟨rfl,rfl⟩|trivial|((repeat' apply And.intro)<;>first|rfl|trivial|exact .inl rfl|exact .inr ⟨rfl,rfl⟩|exact .inr rfl)) (by decide) (by kernel_rfl) (by kernel_rfl) ?_ ?_
 ·rintro i x hx X1 hX1 K hK
  obtain ⟨v,rfl,hv8,hvs,hvi,htk⟩:=els_take hx
  simp only [go_sem]
  (repeat (with_reducible first|refine J_region ?_ |(refine Kont.go (by assumption) ?_)|(simp (config:={ maxSteps:=3000000 }) (disch:=omega) only [go_sem])))
  intro X2 hX2
  have hlt:((Ns ((els s).take i)).length+1)*8≤140737488355328:=by rw [Ns_len,List.length_take];omega
  have hsn:Ns ((els s).take i)++[FV.v (Value.int .i64 v)]=Ns ((els s).take (i+1)):=by rw [←htk];exact Ns_snoc
  (repeat (first|(with_reducible first|refine J_block ?_|refine J_region ?_ |refine aApp_sl ?_|(simp (config:={ maxSteps:=3000000 }) (disch:=omega) only [go_sem,Nat.reduceEqDiff,↓reduceIte,Nat.reduceAdd,Nat.reduceLeDiff,hlt,hsn]))|refine And.intro (by omega) ?_))
  refine rpost_n (weak_of ?_ ?_)<;>(try simp (disch:=omega) only [go_sem,Nat.reduceAdd])<;>(try first|done|omega|rfl|exact ⟨rfl,rfl⟩|trivial)
 ·have he:(els s).take ((els s).map Int.ofNat).length=els s:=by rw [List.length_map,List.take_length]
  rw [he]
  simp only [go_sem]
  (repeat (with_reducible first|refine W_seq fun K hK=>?_|refine J_ret ?_|refine J_region ?_ |(refine Kont.go (by assumption) ?_)|(simp (config:={ maxSteps:=3000000 }) (disch:=omega) only [go_sem,↓reduceIte])))
  exact Frz.sl rfl
theorem conv_int {P:Program} {s d:TypeId} {k k':IntKind} {n:Int} {K:AV→Prop} (hs:(P.underlying s).isSome=true) (hd:P.underlying d=some (.int k')) (h:K (.f (.v (.int k' (k'.wrap n))))):aConv P s d (.f (.v (.int k n))) K :=
 ⟨_,.int k' (k'.wrap n),rfl,fun w=>by
  have e:P.intKind d=k':=by unfold Program.intKind;rw [hd]
  have:=run_convert_int w s d k n hs (by rw [e];exact hd)
  rw [e] at this;exact this,h⟩
def wu (x:Int):Int:=IntKind.u64.wrap x
def onesA (c:Int) (k:Nat) (x:Int):Int:=wu (bits .and .u64 (x.fdiv (2^min k 64)) c+bits .and .u64 x c)
def onesB (k:Nat) (x:Int):Int:=wu (x+x.fdiv (2^min k 64))
def onesC (x:Int):Int:=bits .and .u64 (wu (x.fdiv (2^min 4 64)+x)) 1085102592571150095
def onesX (s:Int):Int:=onesB 32 (onesB 16 (onesB 8 (onesC (onesA 3689348814741910323 2 (onesA 6148914691236517205 1 s)))))
theorem ones_all:∀s:Nat,s<256→bits .and .i64 (IntKind.i64.wrap (onesX s)) 127=((els s).length:Int):=by decide +kernel
set_option maxRecDepth 100000 in
set_option maxHeartbeats 4000000 in
theorem ones_w {s:Nat} (hs:s<256):Good Tryd.prog 81 [U s] (I ((els s).length:Int)):=by
 have h1:=ones_all s hs
 refine good_of Tryd.func81 rfl (by kernel_rfl) fun X hO hrd=>?_;rw [Tryd.ntmps81,Tryd.results81];simp only [ast0,List.map_cons,List.map_nil,List.length_cons,List.length_nil,Nat.reduceAdd,Nat.reduceSub,List.replicate_succ,List.replicate_zero,List.cons_append,List.nil_append]
 (repeat (with_reducible first|refine W_seq fun K hK=>?_|refine J_region ?_ |(refine Kont.go (by assumption) ?_)|(simp (config:={ maxSteps:=3000000 }) (disch:=omega) only [go_sem,Int.reduceLE,Int.reduceToNat])))
 show aConv Tryd.prog _ _ (.f (.v (.int .u64 (onesX (s:Int))))) _
 refine conv_int (by kernel_rfl) (k':=.i64) (by kernel_rfl) ?_
 (repeat (with_reducible first|refine J_ret ?_|exact Frz.f _|(refine Kont.go (by assumption) ?_)|(simp (config:={ maxSteps:=3000000 }) (disch:=omega) only [go_sem,h1])))
set_option maxRecDepth 100000 in
theorem len_w {s:Nat} (hs:s<256):Good Tryd.prog 53 [U s] (I ((els s).length:Int)):=by
 have h1:=ones_w hs
 have h2:Good Tryd.prog 71 [U s] (I ((els s).length:Int)):=by
  refine good_of Tryd.func71 rfl (by kernel_rfl) fun X hO hrd=>?_;rw [Tryd.ntmps71,Tryd.results71];simp only [ast0,List.map_cons,List.map_nil,List.length_cons,List.length_nil,Nat.reduceAdd,Nat.reduceSub,List.replicate_succ,List.replicate_zero,List.cons_append,List.nil_append]
  (repeat (with_reducible first|refine W_seq fun K hK=>?_|refine J_skip ?_|refine J_region ?_ |refine J_c ?_|refine Jc_false ?_|(refine Kont.go (by assumption) ?_)|(simp (config:={ maxSteps:=3000000 }) (disch:=omega) only [go_sem])))
  refine call_f h1 rfl ?_
  (repeat (with_reducible first|refine J_ret ?_|exact Frz.f _|(refine Kont.go (by assumption) ?_)|(simp (config:={ maxSteps:=3000000 }) (disch:=omega) only [go_sem])))
 refine good_of Tryd.func53 rfl (by kernel_rfl) fun X hO hrd=>?_;rw [Tryd.ntmps53,Tryd.results53];simp only [ast0,List.map_cons,List.map_nil,List.length_cons,List.length_nil,Nat.reduceAdd,Nat.reduceSub,List.replicate_succ,List.replicate_zero,List.cons_append,List.nil_append]
 (repeat (with_reducible first|refine W_seq fun K hK=>?_|refine J_region ?_ |(refine Kont.go (by assumption) ?_)|(simp (config:={ maxSteps:=3000000 }) (disch:=omega) only [go_sem])))
 refine call_f h2 rfl ?_
 (repeat (with_reducible first|refine J_ret ?_|exact Frz.f _|(refine Kont.go (by assumption) ?_)|(simp (config:={ maxSteps:=3000000 }) (disch:=omega) only [go_sem])))
end Go.Proofs.YtgjnbcfencallaaDoor
set_option linter.unusedVariables false
set_option linter.unusedSimpArgs false
namespace Go.Proofs.YtgjnbcfencallaaDoor
open Go Go.RowKit
section
variable {l : List Int} {n x : Nat}
theorem ris_nn (h:∀j,j<x→prevI l j<l.getD j 0∧l.getD j 0<(n:Int)):-1≤prevI l x∧∀j,j<x→0≤l.getD j 0:=by
 induction x with
 | zero=>exact ⟨by unfold prevI;simp,fun j h=>by omega⟩
 | succ x ih =>
  obtain ⟨h1,h2⟩:=ih fun j hj=>h j (by omega)
  have h3:=(h x (by omega)).1
  refine ⟨by rw [prevI_next];omega,fun j hj=>?_⟩
  by_cases e:j=x
  ·subst e;omega
  ·exact h2 j (by omega)
end
end Go.Proofs.YtgjnbcfencallaaDoor
set_option linter.unusedVariables false
set_option linter.unusedSimpArgs false
namespace Go.Proofs.YtgjnbcfencallaaDoor
open Go Go.RowKit
def rowsO (e:TypeId) (sz:Nat) (R:List (List FV)):AH:=R.map fun l=>some ⟨e,sz,l.map .f⟩
def dy (A:AH) (e:TypeId) (sz:Nat) (R:List (List FV)) (B:AH):AH:=A++(rowsO e sz R++B)
section
variable {A A' B C : AH} {e : TypeId} {sz a n i j N : Nat} {R : List (List FV)} {l : List FV} {o : Option AO}
theorem rowsO_len:(rowsO e sz R).length=R.length:=by simp [rowsO]
theorem dy_len:(dy A e sz R B).length=A.length+(R.length+B.length):=by simp [dy,rowsO_len]
theorem dy_app:dy A e sz R B++C=dy A e sz R (B++C):=by simp [dy]
theorem weakH_app {H:AH}:A.length=A'.length→(WeakH N (A++H) (A'++C)↔WeakH N A A'∧WeakH N H C):=by
 induction A generalizing A' with
 | nil =>
  intro h
  cases A' with
  | nil=>rw [List.nil_append,List.nil_append,weakH_nil];simp
  | cons b A'=>simp at h
 | cons b A ih =>
  intro h
  cases A' with
  | nil=>simp at h
  | cons c A' =>
   have:=ih (A':=A') (by simpa using h)
   show (_∧WeakH N (A++H) (A'++C))↔(_∧WeakH N A A')∧_
   rw [this,and_assoc]
theorem weakH_rows:WeakH N (rowsO e sz R++B) (rowsO e sz R++[]):=by
 rw [List.append_nil]
 induction R with
 | nil=>exact (weakH_nil N B).mpr trivial
 | cons l R ih=>exact ⟨⟨rfl,fun x hx=>by obtain ⟨y,_,rfl⟩:=List.mem_map.1 (show x∈l.map AV.f from hx);rfl⟩,ih⟩
theorem weakH_dyB (h:A.length=A'.length):WeakH N (dy A e sz R B) (dy A' e sz R C)=(WeakH N A A'∧WeakH N B C):=by
 unfold dy
 refine propext ⟨fun hh=>⟨((weakH_app h).1 hh).1,((weakH_app rfl).1 ((weakH_app h).1 hh).2).2⟩,fun hh=>(weakH_app h).2 ⟨hh.1,(weakH_app rfl).2 ⟨?_,hh.2⟩⟩⟩
 have:=weakH_rows (N:=N) (e:=e) (sz:=sz) (R:=R) (B:=[])
 simpa using this
end
section
variable {A B C : AH} {e : TypeId} {sz N : Nat} {R : List (List FV)} {o p q r o' p' q' r' : Option AO}
theorem dy_g0:(dy (o::A) e sz R B)[0]?=some o:=(rfl)
theorem dy_g1:(dy (o::p::A) e sz R B)[1]?=some p:=(rfl)
theorem dy_g2:(dy (o::p::q::A) e sz R B)[2]?=some q:=(rfl)
theorem dy_g3:(dy (o::p::q::r::A) e sz R B)[3]?=some r:=(rfl)
theorem dy_s0:(dy (o::A) e sz R B).set 0 o'=dy (o'::A) e sz R B:=(rfl)
theorem dy_s1:(dy (o::p::A) e sz R B).set 1 o'=dy (o::o'::A) e sz R B:=(rfl)
theorem dy_s2:(dy (o::p::q::A) e sz R B).set 2 o'=dy (o::p::o'::A) e sz R B:=(rfl)
theorem dy_s3:(dy (o::p::q::r::A) e sz R B).set 3 o'=dy (o::p::q::o'::A) e sz R B:=(rfl)
theorem weakH_dy1:WeakH N (dy [o] e sz R B) (dy [o'] e sz R C)=(WeakH N [o] [o']∧WeakH N B C):=weakH_dyB rfl
theorem weakH_dy2:WeakH N (dy [o,p] e sz R B) (dy [o',p'] e sz R C)=(WeakH N [o,p] [o',p']∧WeakH N B C):=weakH_dyB rfl
theorem weakH_dy3:WeakH N (dy [o,p,q] e sz R B) (dy [o',p',q'] e sz R C)=(WeakH N [o,p,q] [o',p',q']∧WeakH N B C):=weakH_dyB rfl
theorem weakH_dy4:WeakH N (dy [o,p,q,r] e sz R B) (dy [o',p',q',r'] e sz R C)=(WeakH N [o,p,q,r] [o',p',q',r']∧WeakH N B C):=weakH_dyB rfl
end
abbrev nilV:FV:=.v (.slice none 0 0)
attribute [go_sem] dy_len dy_app dy_g0 dy_g1 dy_g2 dy_g3 dy_s0 dy_s1 dy_s2 dy_s3 weakH_dy1 weakH_dy2 weakH_dy3 weakH_dy4
end Go.Proofs.YtgjnbcfencallaaDoor
set_option linter.unusedVariables false
set_option linter.unusedSimpArgs false
namespace Go.Proofs.YtgjnbcfencallaaDoor
open Go Go.RowKit
def setI (l:List Int):Nat:=l.foldl (fun s v=>s|||bit v.toNat) 0
section
variable {l : List Int} {n x : Nat}
theorem setI_snoc {v:Int}:setI (l++[v])=setI l|||bit v.toNat:=by simp [setI]
theorem setI_take (h:x<l.length):setI (l.take (x+1))=setI (l.take x)|||bit (l.getD x 0).toNat:=by
 rw [List.take_add_one,List.getElem?_eq_getElem h,lget_lt l 0 h];exact setI_snoc
theorem setI_bit:∀{l:List Int} {u:Nat},(setI l).testBit u=l.any fun v=>decide (v.toNat=u):=by
 intro l u
 suffices h:∀(l:List Int) (s:Nat),(l.foldl (fun s v=>s|||bit v.toNat) s).testBit u=(s.testBit u||l.any fun v=>decide (v.toNat=u)) by
  have:=h l 0
  rw [Nat.zero_testBit,Bool.false_or] at this
  exact this
 intro l
 induction l with
 | nil=>intro s;simp
 | cons v l ih =>
  intro s
  rw [List.foldl_cons,ih,Nat.testBit_or,bit_bit,List.any_cons,Bool.or_assoc]
theorem setI_lt (hn:n≤8) (hx:x≤l.length) (h:∀j,j<x→prevI l j<l.getD j 0∧l.getD j 0<(n:Int)):setI (l.take x)<256:=by
 induction x with
 | zero=>simp [setI]
 | succ x ih =>
  rw [setI_take (by omega)]
  have h2:=(ris_nn h).2 x (by omega)
  have h3:=(h x (by omega)).2
  exact or_lt (ih (by omega) fun j hj=>h j (by omega)) (bit_lt (by omega))
end
def readS (n:Nat) (l:List Int):Nat:=if risB n l=true then setI l else 0
theorem readS_lt {n:Nat} {l:List Int} (hn:n≤8):readS n l<256:=by
 unfold readS
 split
 ·rename_i h
  have:=setI_lt (x:=l.length) hn (Nat.le_refl _) (risB_iff.1 h)
  rwa [List.take_length] at this
 ·decide
set_option maxRecDepth 100000 in
set_option maxHeartbeats 4000000 in
theorem read_w (l:List Int) {n:Nat} (hn:n≤8) (hw:∀x∈l,-9223372036854775808≤x∧x≤9223372036854775807) (hl:l.length≤140737488355328) :
  Good Tryd.prog 37 [ints l,I (n:Int)] (.tup [U (readS n l),Bo (risB n l)]):=by
 refine good_of Tryd.func37 rfl (by kernel_rfl) fun X hO hrd=>?_;rw [Tryd.ntmps37,Tryd.results37];simp only [ast0,List.map_cons,List.map_nil,List.length_cons,List.length_nil,Nat.reduceAdd,Nat.reduceSub,List.replicate_succ,List.replicate_zero,List.cons_append,List.nil_append]
 (repeat (with_reducible first|refine W_seq fun K hK=>?_|refine J_block ?_|refine J_region ?_ |(refine Kont.go (by assumption) ?_)|(simp (config:={ maxSteps:=3000000 }) (disch:=omega) only [go_sem,Int.reduceNeg,List.length_map])))
 have hz:FV.v (.int .u64 0)=U (setI (l.take 0)):=rfl
 rw [hz]
 refine W_loop [4,5,6,7,9,12,13,14,15,16,17,18,19,20,21,22,23,24,25,26,27,28,29] (fun x:Nat=>[(6,.f (U (setI (l.take x)))),(7,.f (I (prevI l x))),(12,.f (I x))]) (fun x:Nat=>[]) (fun x:Nat=>x≤l.length∧∀j,j<x→prevI l j<l.getD j 0∧l.getD j 0<(n:Int)) (fun x:Nat=>l.length-x) (0) (⟨Nat.zero_le _,fun j h=>by omega⟩) (by refine weak_of ?_ ?_<;>simp (disch:=omega) only [go_sem]<;>first|rfl|exact ⟨rfl,rfl⟩|exact Or.inl rfl|exact ⟨Or.inl rfl,Or.inl rfl⟩|trivial|assumption|omega|(symm;assumption)|((repeat' apply And.intro)<;>first|rfl|omega|trivial|exact .inl rfl|exact .inr ⟨rfl,rfl⟩|exact .inr rfl|(right;symm;assumption)|(symm;assumption)|assumption)) ?_
 rintro x ⟨hx,hp⟩
 simp only [go_sem]
 (repeat (with_reducible first|refine W_seq fun K hK=>?_|refine J_region ?_ |refine J_c ?_|(refine Kont.go (by assumption) ?_)|(simp (config:={ maxSteps:=3000000 }) (disch:=omega) only [go_sem])))
 refine Jc_if (fun hxl=>?_) (fun hxl=>?_)<;>try simp only [decide_eq_true_eq,decide_eq_false_iff_not] at hxl
 ·have g1:=map_get I l hxl
  have g2:=prevI_next (l:=l) (x:=x)
  have g3:l.getD x 0=l[x]:=lget_lt l 0 hxl
  have hno:¬(prevI l x<l[x]∧l[x]<(n:Int))→risB n l=false:=fun hh=>by
   cases hb:risB n l with
   | false=>rfl
   | true=>exact absurd (risB_iff.1 hb x hxl) (by rw [g3];exact hh)
  by_cases c1:l[x]≤prevI l x
  ·have e:risB n l=false:=hno fun h=>by omega
   have e2:readS n l=0:=by unfold readS;rw [e];rfl
   (repeat (with_reducible first|refine W_seq fun K hK=>?_|refine J_block ?_|refine J_skip ?_|refine J_ret ?_|refine J_region ?_ |refine J_c ?_|refine Jc_true ?_|(refine Kont.go (by assumption) ?_)|(simp (config:={ maxSteps:=3000000 }) (disch:=omega) only [go_sem,↓reduceIte,g1,c1])))
   rw [e,e2]
   exact ⟨_,rfl,FrzL.fs [_,_]⟩
  ·by_cases c2:(n:Int)≤l[x]
   ·have e:risB n l=false:=hno fun h=>by omega
    have e2:readS n l=0:=by unfold readS;rw [e];rfl
    (repeat (with_reducible first|refine W_seq fun K hK=>?_|refine J_block ?_|refine J_skip ?_|refine J_ret ?_|refine J_region ?_ |refine J_c ?_|refine Jc_true ?_|(refine Kont.go (by assumption) ?_)|(simp (config:={ maxSteps:=3000000 }) (disch:=omega) only [go_sem,↓reduceIte,g1,c1,c2])))
    rw [e,e2]
    exact ⟨_,rfl,FrzL.fs [_,_]⟩
   ·have hnn:=(ris_nn hp).1
    obtain ⟨v,hv⟩:=Int.eq_ofNat_of_zero_le (show 0≤l[x] by omega)
    have hs:=setI_lt hn hx hp
    have hv8:v<8:=by omega
    have hb:=bit_lt hv8
    have hset:=setI_take hxl
    rw [g3] at g2 hset
    rw [hv] at g1 g2 c1 c2 hset
    have et:((v:Nat):Int).toNat=v:=by omega
    rw [et] at hset
    have ho:=u_or hs hb
    have hsh:=u_shl hv8
    (repeat (with_reducible first|refine W_seq fun K hK=>?_|refine J_block ?_|refine J_skip ?_|refine J_region ?_ |refine J_c ?_|refine Jc_false ?_|(refine Kont.go (by assumption) ?_)|(simp (config:={ maxSteps:=3000000 }) (disch:=omega) only [go_sem,↓reduceIte,g1,c1,c2,hsh,ho,true_and])))
    refine ⟨x+1,⟨by omega,upto_next (p:=fun j=>prevI l j<l.getD j 0∧l.getD j 0<(n:Int)) hp ⟨by rw [g3];omega,by rw [g3];omega⟩⟩,by omega,weak_of ?_ ?_⟩<;>(try simp (disch:=omega) only [go_sem,g2,hset])<;>(try first|done|omega|rfl|exact ⟨rfl,rfl⟩|trivial)
 ·have he:x=l.length:=by omega
  subst he
  have e:risB n l=true:=risB_iff.2 hp
  have e2:readS n l=setI (l.take l.length):=by unfold readS;rw [e,List.take_length];rfl
  (repeat (with_reducible first|refine W_seq fun K hK=>?_|refine J_exit ?_|refine J_ret ?_|refine J_region ?_ |(refine Kont.go (by assumption) ?_)|(simp (config:={ maxSteps:=3000000 }) (disch:=omega) only [go_sem,↓reduceIte])))
  rw [e,e2]
  exact ⟨_,rfl,FrzL.fs [_,_]⟩
theorem nilR {H:AH}:ownR H (.f nilV) (.f nilV):=⟨rfl,.v _⟩
def nodeB (L:List (List Int)) (v:Nat):Bool:=risB L.length (L.getD v [])&&!(readS L.length (L.getD v [])).testBit v
def listsB (L:List (List Int)):Bool:=decide (1≤L.length∧L.length≤8)&&(List.range L.length).all (nodeB L)
def setAt (L:List (List Int)) (v:Nat):Nat:=readS L.length (L.getD v [])
def setsOf (L:List (List Int)):List Nat:=(List.range L.length).map (setAt L)
def OkIss (L:List (List Int)):Prop:=L.length≤140737488355328∧∀l∈L,l.length≤140737488355328∧∀x∈l,-9223372036854775808≤x∧x≤9223372036854775807
theorem listsB_iff {L:List (List Int)}:listsB L=true↔(1≤L.length∧L.length≤8)∧∀v,v<L.length→nodeB L v=true:=by
 simp [listsB]
def rdR (L:List (List Int)):RV:=if listsB L=true then .own 56 1 ((setsOf L).map U) else .f nilV
set_option maxRecDepth 100000 in
set_option maxHeartbeats 4000000 in
theorem reads_w (L:List (List Int)) (hL:OkIss L):GoodOT Tryd.prog 34 [.fz 1 (L.map ints)] (rdR L) [Bo (listsB L)]:=by
 obtain ⟨hLl,hLr⟩:=hL
 have bad:listsB L=false→rdR L=.f nilV:=fun h=>by unfold rdR;rw [h];rfl
 have z2:∀z n,List.replicate n (AV.f z)=(fillL n 0 (fun i=>U (setAt L i)) z).map .f:=fun z n=>by rw [fill_zero,List.map_replicate]
 refine goodOT_of Tryd.func34 rfl (by kernel_rfl) fun X hO hrd=>?_;rw [Tryd.ntmps34,Tryd.results34];simp only [ast0,List.map_cons,List.map_nil,List.length_cons,List.length_nil,Nat.reduceAdd,Nat.reduceSub,List.replicate_succ,List.replicate_zero,List.cons_append,List.nil_append]
 by_cases h1:1≤L.length∧L.length≤8
 case neg =>
  have hb:listsB L=false:=by
   cases h:listsB L with
   | false=>rfl
   | true=>exact absurd (listsB_iff.1 h).1 h1
  by_cases h2:(L.length:Int)<1
  ·(repeat (with_reducible first|refine W_seq fun K hK=>?_|refine J_ret ?_|refine J_region ?_ |refine J_c ?_|refine Jc_true ?_|(refine Kont.go (by assumption) ?_)|(simp (config:={ maxSteps:=3000000 }) (disch:=omega) only [go_sem,List.length_map,h2])))
   rw [hb,bad hb]
   refine ⟨_,⟨rfl,rfl⟩,by simp,nilR,fun x hx=>by rcases List.mem_singleton.1 hx with rfl;exact .v _⟩
  ·have h3:(8:Int)<(L.length:Int):=by omega
   (repeat (with_reducible first|refine W_seq fun K hK=>?_|refine J_ret ?_|refine J_region ?_ |refine J_c ?_|refine Jc_true ?_|(refine Kont.go (by assumption) ?_)|(simp (config:={ maxSteps:=3000000 }) (disch:=omega) only [go_sem,List.length_map,h2,h3])))
   rw [hb,bad hb]
   refine ⟨_,⟨rfl,rfl⟩,by simp,nilR,fun x hx=>by rcases List.mem_singleton.1 hx with rfl;exact .v _⟩
 obtain ⟨hn1,hn8⟩:=h1
 have h2:¬(L.length:Int)<1:=by omega
 have h3:¬(8:Int)<(L.length:Int):=by omega
 (repeat (first|(with_reducible first|refine W_seq fun K hK=>?_|refine J_block ?_|refine J_skip ?_|refine J_region ?_ |refine J_c ?_|refine Jc_false ?_|(refine Kont.go (by assumption) ?_)|(simp (config:={ maxSteps:=3000000 }) (disch:=omega) only [go_sem,List.length_map,h2,h3,z2]))|refine And.intro (by omega) ?_))
 obtain ⟨n,hn⟩:∃n,n=L.length:=⟨_,rfl⟩
 refine W_loop [2,3,6,7,8,9,22,23,24,25,26,27,28,29,30,31,32,33,34,35,36,37,38,39,40,41,42,43,44] (fun x:Nat=>[(22,.f (I x))]) (fun x:Nat=>[some ⟨56,1,(fillL L.length x (fun i=>U (setAt L i)) (U 0)).map .f⟩]) (fun x:Nat=>x≤L.length∧∀j,j<x→nodeB L j=true) (fun x:Nat=>L.length-x) (0) (⟨Nat.zero_le _,fun j h=>by omega⟩) (by refine weak_of ?_ ?_<;>simp (disch:=omega) only [go_sem]<;>first|rfl|exact ⟨rfl,rfl⟩|exact Or.inl rfl|exact ⟨Or.inl rfl,Or.inl rfl⟩|trivial|assumption|omega|(symm;assumption)|((repeat' apply And.intro)<;>first|rfl|omega|trivial|exact .inl rfl|exact .inr ⟨rfl,rfl⟩|exact .inr rfl|(right;symm;assumption)|(symm;assumption)|assumption)) ?_
 rintro x ⟨hx,hp⟩
 simp only [go_sem]
 (repeat (with_reducible first|refine W_seq fun K hK=>?_|refine J_region ?_ |refine J_c ?_|(refine Kont.go (by assumption) ?_)|(simp (config:={ maxSteps:=3000000 }) (disch:=omega) only [go_sem])))
 refine Jc_if (fun hxl=>?_) (fun hxl=>?_)<;>try simp only [decide_eq_true_eq,decide_eq_false_iff_not] at hxl
 ·have g1:=map_get ints L hxl
  have g3:L.getD x []=L[x]:=lget_lt L [] hxl
  have hr:=read_w (n:=L.length) L[x] hn8 (hLr _ (List.getElem_mem hxl)).2 (hLr _ (List.getElem_mem hxl)).1
  have hlt:=readS_lt (n:=L.length) (l:=L[x]) hn8
  have hh:=has_w (v:=x) hlt (by omega)
  have hns:nodeB L x=(risB L.length L[x]&&!(readS L.length L[x]).testBit x):=by unfold nodeB;rw [g3]
  have hbad:nodeB L x=false→listsB L=false:=fun h=>by
   cases hb:listsB L with
   | false=>rfl
   | true=>have:=(listsB_iff.1 hb).2 x hxl;rw [h] at this;cases this
  obtain ⟨s,hs⟩:∃s,s=readS L.length L[x]:=⟨_,rfl⟩
  rw [←hs] at hr hlt hh hns
  (repeat (with_reducible first|refine W_seq fun K hK=>?_|refine J_block ?_|refine J_skip ?_|refine J_region ?_ |(refine Kont.go (by assumption) ?_)|(simp (config:={ maxSteps:=3000000 }) (disch:=omega) only [go_sem,↓reduceIte,g1])))
  refine call_f hr rfl ?_
  cases hb1:risB L.length L[x] with
  | false =>
   have hb:=hbad (by rw [hns,hb1];rfl)
   (repeat (with_reducible first|refine W_seq fun K hK=>?_|refine J_ret ?_|refine J_region ?_ |refine J_c ?_|refine Jc_true ?_|(refine Kont.go (by assumption) ?_)|(simp (config:={ maxSteps:=3000000 }) (disch:=omega) only [go_sem])))
   rw [hb,bad hb]
   refine ⟨_,⟨rfl,rfl⟩,by simp,nilR,fun x hx=>by rcases List.mem_singleton.1 hx with rfl;exact .v _⟩
  | true =>
   cases hb2:s.testBit x with
   | true =>
    have hb:=hbad (by rw [hns,hb1,hb2];rfl)
    rw [hb2] at hh
    (repeat (with_reducible first|refine W_seq fun K hK=>?_|refine J_region ?_ |(refine Kont.go (by assumption) ?_)|(simp (config:={ maxSteps:=3000000 }) (disch:=omega) only [go_sem])))
    refine call_f hh rfl ?_
    (repeat (with_reducible first|refine W_seq fun K hK=>?_|refine J_ret ?_|refine J_region ?_ |refine J_c ?_|refine Jc_true ?_|(refine Kont.go (by assumption) ?_)|(simp (config:={ maxSteps:=3000000 }) (disch:=omega) only [go_sem])))
    rw [hb,bad hb]
    refine ⟨_,⟨rfl,rfl⟩,by simp,nilR,fun x hx=>by rcases List.mem_singleton.1 hx with rfl;exact .v _⟩
   | false =>
    have hok:nodeB L x=true:=by rw [hns,hb1,hb2];rfl
    rw [hb2] at hh
    have hfl:(fillL L.length x (fun i=>U (setAt L i)) (U 0)).length=L.length:=fill_len
    have hfs:=fillA_set (n:=L.length) (k:=x) (f:=fun i=>U (setAt L i)) (z:=U 0) (x:=U s) hxl (by show U (readS L.length (L.getD x []))=_;rw [g3,hs])
    have hfg:=fillA_get (n:=L.length) (k:=x) (f:=fun i=>U (setAt L i)) (z:=U 0) (j:=x) hxl
    (repeat (with_reducible first|refine W_seq fun K hK=>?_|refine J_region ?_ |(refine Kont.go (by assumption) ?_)|(simp (config:={ maxSteps:=3000000 }) (disch:=omega) only [go_sem])))
    refine call_f hh rfl ?_
    (repeat (first|(with_reducible first|refine J_skip ?_|refine J_region ?_ |refine J_c ?_|refine Jc_false ?_|(refine Kont.go (by assumption) ?_)|(simp (config:={ maxSteps:=3000000 }) (disch:=omega) only [go_sem,↓reduceIte,hfs,hfg]))|refine And.intro (by omega) ?_))
    refine ⟨x+1,⟨by omega,upto_next (p:=fun j=>nodeB L j=true) hp hok⟩,by omega,weak_of ?_ ?_⟩<;>(try simp (disch:=omega) only [go_sem])<;>(try first|done|omega|rfl|exact ⟨rfl,rfl⟩|trivial)
 ·have he:x=L.length:=by omega
  subst he
  have hb:listsB L=true:=listsB_iff.2 ⟨⟨hn1,hn8⟩,hp⟩
  have hr:rdR L=.own 56 1 ((setsOf L).map U):=by unfold rdR;rw [hb];rfl
  have hA:fillL L.length L.length (fun i=>U (setAt L i)) (U 0)=(setsOf L).map U:=by unfold setsOf;rw [fill_all,List.map_map];rfl
  rw [hA]
  (repeat (with_reducible first|refine W_seq fun K hK=>?_|refine J_exit ?_|refine J_ret ?_|refine J_region ?_ |(refine Kont.go (by assumption) ?_)|(simp (config:={ maxSteps:=3000000 }) (disch:=omega) only [go_sem,↓reduceIte])))
  rw [hb,hr]
  refine ⟨_,⟨rfl,rfl⟩,by simp,?_,fun x hx=>by rcases List.mem_singleton.1 hx with rfl;exact .v _⟩
  have hl:((setsOf L).map U).length=L.length:=by unfold setsOf;simp
  exact ⟨0,by rw [hl],rfl,fun x hx=>by obtain ⟨y,_,rfl⟩:=List.mem_map.1 hx;exact .v _⟩
end Go.Proofs.YtgjnbcfencallaaDoor
set_option linter.unusedVariables false
set_option linter.unusedSimpArgs false
namespace Go.Proofs.YtgjnbcfencallaaDoor
open Go Go.RowKit
theorem set_mem {l:List Int} {n v:Nat} (h:risB n l=true):(setI l).testBit v=decide ((v:Int)∈l):=by
 have hnn:=(ris_nn (x:=l.length) (risB_iff.1 h)).2
 rw [setI_bit]
 by_cases hm:(v:Int)∈l
 ·rw [decide_eq_true hm]
  exact List.any_eq_true.2 ⟨_,hm,decide_eq_true (by omega)⟩
 ·rw [decide_eq_false hm]
  rw [List.any_eq_false]
  intro x hx hd
  obtain ⟨j,hj,e⟩:=List.getElem_of_mem hx
  have h0:=hnn j hj
  rw [lget_lt l 0 hj,e] at h0
  have:=of_decide_eq_true hd
  exact hm (by rw [show (v:Int)=x by omega];exact hx)
end Go.Proofs.YtgjnbcfencallaaDoor
set_option linter.unusedVariables false
set_option linter.unusedSimpArgs false
namespace Go.Proofs.YtgjnbcfencallaaDoor
open Go Go.RowKit
abbrev Pa:=Nat→Nat→Bool
def okT (pa:Pa) (An Z:Nat→Bool):List Nat→Nat→Nat→Bool
 | [],_,_=>true
 | s::_,t,v=>if (pa s t&&pa v t)=true then An t else !Z t
def ActW (pa:Pa) (An Z X:Nat→Bool):List Nat→Prop
 | []=>False
 | [x]=>X x=true
 | v::t::r=>ActW pa An Z X (t::r)∧(pa v t||pa t v)=true∧okT pa An Z r t v=true
inductive Ball (pa : Pa) (An Z X : Nat → Bool) : Nat → Bool → Prop
  | start {x : Nat} : X x = true → Ball pa An Z X x true
  | down {t k : Nat} {d : Bool} : Ball pa An Z X t d → Z t = false → pa t k = true → Ball pa An Z X k false
  | up {t u : Nat} {d : Bool} : Ball pa An Z X t d → (d = true ∧ Z t = false) ∨ (d = false ∧ An t = true) → pa u t = true → Ball pa An Z X u true
section
variable {pa : Pa} {An Z X Y : Nat → Bool} {n : Nat}
theorem ActW.lt (hX:∀x,X x=true→x<n) (hp:∀u v,pa u v=true→u<n∧v<n):∀{w:List Nat},ActW pa An Z X w→∀x∈w,x<n:=by
 intro w
 induction w with
 | nil=>intro h;exact h.elim
 | cons v w ih =>
  intro h x hx
  cases w with
  | nil=>rw [List.mem_singleton.1 hx];exact hX _ h
  | cons t r =>
   obtain ⟨h1,h2,h3⟩:=h
   rcases List.mem_cons.1 hx with rfl|hx
   ·rcases Bool.or_eq_true_iff.1 h2 with h|h
    ·exact (hp _ _ h).1
    ·exact (hp _ _ h).2
   ·exact ih h1 x hx
end
end Go.Proofs.YtgjnbcfencallaaDoor
set_option linter.unusedVariables false
set_option linter.unusedSimpArgs false
namespace Go.Proofs.YtgjnbcfencallaaDoor
open Go Go.RowKit
def sumF (f:Nat→Rat):Nat→Rat
 | 0=>0
 | n+1=>sumF f n+f n
def grt (a b:Rat):Rat:=if a<b then b else a
def maxF (f:Nat→Rat):Nat→Rat
 | 0=>0
 | n+1=>grt (maxF f n) (f n)
section
variable {f g : Nat → Rat} {n m : Nat}
theorem sumF_congr (h:∀k,k<n→f k=g k):sumF f n=sumF g n:=by
 induction n with
 | zero=>rfl
 | succ n ih=>show sumF f n+f n=sumF g n+g n;rw [ih fun k hk=>h k (by omega),h n (by omega)]
theorem sumF_zero:sumF (fun _=>0) n=0:=by
 induction n with
 | zero=>rfl
 | succ n ih=>show sumF _ n+0=0;rw [ih,Rat.add_zero]
theorem sumF_add:sumF (fun k=>f k+g k) n=sumF f n+sumF g n:=by
 induction n with
 | zero=>exact (Rat.add_zero 0).symm
 | succ n ih=>show sumF _ n+(f n+g n)=(sumF f n+f n)+(sumF g n+g n);rw [ih];grind
theorem sumF_mul (c:Rat):c*sumF f n=sumF (fun k=>c*f k) n:=by
 induction n with
 | zero=>exact Rat.mul_zero c
 | succ n ih=>show c*(sumF f n+f n)=sumF _ n+c*f n;rw [Rat.mul_add,ih]
theorem sumF_mulr (c:Rat):sumF f n*c=sumF (fun k=>f k*c) n:=by rw [Rat.mul_comm,sumF_mul];exact sumF_congr fun k _=>Rat.mul_comm _ _
theorem sumF_swap {h:Nat→Nat→Rat}:sumF (fun i=>sumF (fun k=>h i k) m) n=sumF (fun k=>sumF (fun i=>h i k) n) m:=by
 induction n with
 | zero=>exact sumF_zero.symm
 | succ n ih=>show sumF _ n+sumF _ m=_;rw [ih,←sumF_add];rfl
end
structure HM where
  n : Nat
  a : Nat → Rat
  mv : Nat → Nat → Rat
  sh : Nat → Nat → Rat
  s : Nat → Nat
  T : Nat
structure HM.Ok (h : HM) : Prop where
  a : ∀ i, 0 ≤ h.a i
  mv : ∀ i k, 0 ≤ h.mv i k
  sh : ∀ i k, 0 ≤ h.sh i k
def HM.fw (h:HM):Nat→Nat→Rat
 | 0,i=>h.a i*h.sh i (h.s 0)
 | t+1,i=>sumF (fun k=>HM.fw h t k*h.mv k i) h.n*h.sh i (h.s (t+1))
def HM.bwU (h:HM):Nat→Nat→Rat
 | 0,i=>1
 | u+1,i=>sumF (fun k=>h.mv i k*h.sh k (h.s (h.T-1-u))*HM.bwU h u k) h.n
def HM.mxU (h:HM):Nat→Nat→Rat
 | 0,i=>1
 | u+1,i=>maxF (fun k=>h.mv i k*h.sh k (h.s (h.T-1-u))*HM.mxU h u k) h.n
def HM.bw (h:HM) (t i:Nat):Rat:=h.bwU (h.T-1-t) i
def HM.mx (h:HM) (t i:Nat):Rat:=h.mxU (h.T-1-t) i
def HM.best (h:HM):Rat:=if h.T=0 then 1 else maxF (fun i=>h.a i*h.sh i (h.s 0)*h.mx 0 i) h.n
section
variable {h : HM} {t i : Nat}
theorem HM.bw_next (ht:t+1<h.T):h.bw t i=sumF (fun k=>h.mv i k*h.sh k (h.s (t+1))*h.bw (t+1) k) h.n:=by
 unfold HM.bw
 rw [show h.T-1-t=(h.T-1-(t+1))+1 by omega]
 show sumF _ _=_
 rw [show h.T-1-(h.T-1-(t+1))=t+1 by omega]
theorem HM.step (ht:t+1<h.T):sumF (fun i=>h.fw t i*h.bw t i) h.n=sumF (fun i=>h.fw (t+1) i*h.bw (t+1) i) h.n:=by
 have e1:sumF (fun i=>h.fw t i*h.bw t i) h.n=sumF (fun i=>sumF (fun k=>h.fw t i*h.mv i k*h.sh k (h.s (t+1))*h.bw (t+1) k) h.n) h.n :=
  sumF_congr fun i _=>by rw [HM.bw_next ht,sumF_mul];exact sumF_congr fun k _=>by simp only [Rat.mul_assoc]
 rw [e1,sumF_swap]
 refine sumF_congr fun k _=>?_
 show _=sumF (fun i=>h.fw t i*h.mv i k) h.n*h.sh k (h.s (t+1))*h.bw (t+1) k
 rw [sumF_mulr,sumF_mulr]
end
end Go.Proofs.YtgjnbcfencallaaDoor
set_option linter.unusedVariables false
set_option linter.unusedSimpArgs false
namespace Go.Proofs.YtgjnbcfencallaaDoor
open Go Go.RowKit
abbrev Mx:=Nat→Nat→Rat
def piv (M:Mx) (c n:Nat):Option Nat:=(List.range (n-c)).find? fun p=>decide (M (c+p) c≠0)
def swapM (M:Mx) (c r:Nat):Mx:=fun i k=>if i=c then M r k else if i=r then M c k else M i k
def divM (M:Mx) (c:Nat):Mx:=fun i k=>if i=c then M c k/M c c else M i k
def elimM (M:Mx) (c:Nat):Mx:=fun i k=>if i=c then M c k else M i k-M i c*M c k
def stepM (M:Mx) (c r:Nat):Mx:=elimM (divM (swapM M c r) c) c
def gs (n:Nat) (M:Mx):Nat→Option Mx
 | 0=>some M
 | c+1=>match gs n M c with
  | none=>none
  | some M'=>match piv M' c n with
   | none=>none
   | some p=>some (stepM M' c (c+p))
section
variable {n c r : Nat} {M : Mx} {y x : Nat → Rat}
end
end Go.Proofs.YtgjnbcfencallaaDoor
set_option linter.unusedVariables false
set_option linter.unusedSimpArgs false
namespace Go.Proofs.YtgjnbcfencallaaDoor
open Go Go.RowKit
abbrev Bx:=Nat→Nat→Bool
def wsh (E:Bx):Nat→Bx
 | 0=>fun i j=>decide (i=j)||E i j
 | k+1=>fun i j=>wsh E k i j||(wsh E k i k&&wsh E k k j)
inductive Star (n : Nat) (E : Bx) (i : Nat) : Nat → Prop
  | refl : Star n E i i
  | step {j k : Nat} (h : Star n E i j) (hk : k < n) (he : E j k = true) : Star n E i k
section
variable {n K i j k : Nat} {E : Bx}
theorem Star.trans (h1:Star n E i j) (h2:Star n E j k):Star n E i k:=by
 induction h2 with
 | refl=>exact h1
 | step _ hk he ih=>exact .step ih hk he
theorem wsh_mono (h:wsh E K i j=true):∀m,wsh E (K+m) i j=true:=by
 intro m
 induction m with
 | zero=>exact h
 | succ m ih=>show (wsh E (K+m) i j||_)=true;rw [ih];rfl
theorem wsh_up (h:wsh E K i j=true) {m:Nat} (hm:K≤m):wsh E m i j=true:=by
 have:=wsh_mono h (m-K)
 rwa [show K+(m-K)=m by omega] at this
theorem wsh_refl (K i:Nat):wsh E K i i=true:=wsh_up (K:=0) (by show (decide (i=i)||_)=true;simp) (Nat.zero_le _)
theorem wsh_edge (h:E i j=true) (K:Nat):wsh E K i j=true:=wsh_up (K:=0) (by show (_||E i j)=true;rw [h];simp) (Nat.zero_le _)
theorem wsh_sound:∀{K:Nat},K≤n→∀{i j:Nat},j<n→wsh E K i j=true→Star n E i j:=by
 intro K
 induction K with
 | zero =>
  intro _ i j hj h
  replace h:(decide (i=j)||E i j)=true:=h
  rcases Bool.or_eq_true_iff.1 h with h|h
  ·have:=of_decide_eq_true h;subst this;exact .refl
  ·exact .step .refl hj h
 | succ K ih =>
  intro hK i j hj h
  replace h:(wsh E K i j||(wsh E K i K&&wsh E K K j))=true:=h
  rcases Bool.or_eq_true_iff.1 h with h|h
  ·exact ih (by omega) hj h
  ·obtain ⟨h1,h2⟩:=Bool.and_eq_true_iff.1 h
   exact (ih (by omega) (by omega) h1).trans (ih (by omega) hj h2)
theorem wsh_in:wsh E (K+1) i K=wsh E K i K:=by
 show (wsh E K i K||(wsh E K i K&&wsh E K K K))=_
 cases wsh E K i K<;>simp
theorem wsh_out:wsh E (K+1) K j=wsh E K K j:=by
 show (wsh E K K j||(wsh E K K K&&wsh E K K j))=_
 cases wsh E K K j<;>simp
theorem wsh_trans:∀{K:Nat} {k i j:Nat},k<K→wsh E K i k=true→wsh E K k j=true→wsh E K i j=true:=by
 intro K
 induction K with
 | zero=>intro k i j h;omega
 | succ K ih =>
  intro k i j hk h1 h2
  have via:wsh E K i K=true→wsh E K K j=true→wsh E (K+1) i j=true:=fun a b=>by
   show (wsh E K i j||(wsh E K i K&&wsh E K K j))=true
   rw [a,b];simp
  by_cases e:k=K
  ·subst e
   rw [wsh_in] at h1
   rw [wsh_out] at h2
   exact via h1 h2
  ·have hkK:k<K:=by omega
   replace h1:(wsh E K i k||(wsh E K i K&&wsh E K K k))=true:=h1
   replace h2:(wsh E K k j||(wsh E K k K&&wsh E K K j))=true:=h2
   rcases Bool.or_eq_true_iff.1 h1 with a|a<;>rcases Bool.or_eq_true_iff.1 h2 with b|b
   ·exact wsh_up (ih hkK a b) (by omega)
   ·obtain ⟨b1,b2⟩:=Bool.and_eq_true_iff.1 b
    exact via (ih hkK a b1) b2
   ·obtain ⟨a1,a2⟩:=Bool.and_eq_true_iff.1 a
    exact via a1 (ih hkK a2 b)
   ·obtain ⟨a1,a2⟩:=Bool.and_eq_true_iff.1 a
    obtain ⟨b1,b2⟩:=Bool.and_eq_true_iff.1 b
    exact via a1 b2
theorem Star.lt (h:Star n E i j) (hi:i<n):j<n:=by cases h with|refl=>exact hi|step _ hk _=>exact hk
theorem wsh_all (h:Star n E i j) (hi:i<n):wsh E n i j=true:=by
 induction h with
 | refl=>exact wsh_refl n i
 | step h hk he ih=>exact wsh_trans (h.lt hi) ih (wsh_edge he n)
theorem wsh_iff (hi:i<n) (hj:j<n):wsh E n i j=true↔Star n E i j:=⟨wsh_sound (Nat.le_refl _) hj,fun h=>wsh_all h hi⟩
structure Pre (n : Nat) (R : Bx) : Prop where
  refl : ∀ i, R i i = true
  trans : ∀ i j k, j < n → R i j = true → R j k = true → R i k = true
variable {R : Bx}
end
end Go.Proofs.YtgjnbcfencallaaDoor
set_option linter.unusedVariables false
set_option linter.unusedSimpArgs false
namespace Go.Proofs.YtgjnbcfencallaaDoor
open Go Go.RowKit
def paO (P:List Nat):Pa:=fun u v=>(P.getD v 0).testBit u
def freB (P:List Nat) (n:Nat) (done:List Nat) (v:Nat):Bool:=!decide (v∈done)&&(List.range n).all fun u=>!paO P u v||decide (u∈done)
def nxtV (P:List Nat) (n:Nat) (done:List Nat):Option Nat:=(List.range n).find? (freB P n done)
def ordN (P:List Nat) (n:Nat):Nat→List Nat→Option (List Nat)
 | 0,done=>some done
 | k+1,done=>match nxtV P n done with
  | none=>none
  | some v=>ordN P n k (done++[v])
structure OrdI (P : List Nat) (n : Nat) (done : List Nat) : Prop where
  nd : done.Nodup
  lt : ∀ v ∈ done, v < n
  pre : ∀ i (h : i < done.length) u, paO P u done[i] = true → u ∈ done.take i
section
variable {P : List Nat} {n v : Nat} {done l : List Nat}
theorem OrdI.nil:OrdI P n []:=⟨List.nodup_nil,fun v h=>by simp at h,fun i h=>by simp at h⟩
theorem freB_iff (hP:∀u v,paO P u v=true→u<n∧v<n):freB P n done v=true↔v∉done∧∀u,paO P u v=true→u∈done:=by
 unfold freB
 rw [Bool.and_eq_true,List.all_eq_true]
 constructor
 ·rintro ⟨h1,h2⟩
  refine ⟨by simpa using h1,fun u hu=>?_⟩
  have:=h2 u (List.mem_range.2 (hP u v hu).1)
  rw [hu] at this
  simpa using this
 ·rintro ⟨h1,h2⟩
  refine ⟨by simpa using h1,fun u _=>?_⟩
  cases hu:paO P u v with
  | false=>rfl
  | true=>simpa using h2 u hu
theorem OrdI.next (hP:∀u v,paO P u v=true→u<n∧v<n) (h:OrdI P n done) (hv:nxtV P n done=some v):OrdI P n (done++[v]):=by
 have hf:=(freB_iff hP).1 (List.find?_some hv)
 have hvn:=List.mem_range.1 (List.mem_of_find?_eq_some hv)
 refine ⟨List.nodup_append.2 ⟨h.nd,by simp,fun a ha b hb=>by rw [List.mem_singleton.1 hb];exact fun e=>hf.1 (e▸ha)⟩,fun w hw=>?_,fun i hi u hu=>?_⟩
 ·rcases List.mem_append.1 hw with hw|hw
  ·exact h.lt w hw
  ·rw [List.mem_singleton.1 hw];exact hvn
 ·by_cases hid:i<done.length
  ·rw [List.getElem_append_left hid] at hu
   rw [List.take_append_of_le_length (by omega)]
   exact h.pre i hid u hu
  ·have e:i=done.length:=by simp at hi;omega
   subst e
   rw [List.getElem_append_right (Nat.le_refl _)] at hu
   rw [List.take_append_of_le_length (Nat.le_refl _),List.take_length]
   exact hf.2 u (by simpa using hu)
def anO (P:List Nat) (n s:Nat) (v:Nat):Bool:=(List.range n).any fun z=>s.testBit z&&wsh (paO P) n v z
theorem anO_iff {s:Nat} (hv:v<n):anO P n s v=true↔∃z,z<n∧s.testBit z=true∧Star n (paO P) v z:=by
 unfold anO
 rw [List.any_eq_true]
 constructor
 ·rintro ⟨z,hz,h⟩
  have hz:=List.mem_range.1 hz
  obtain ⟨h1,h2⟩:=Bool.and_eq_true_iff.1 h
  exact ⟨z,hz,h1,(wsh_iff hv hz).1 h2⟩
 ·rintro ⟨z,hz,h1,h2⟩
  exact ⟨z,List.mem_range.2 hz,by rw [h1,(wsh_iff hv hz).2 h2];rfl⟩
theorem Star.first {E:Bx} {u v z:Nat} (h:Star n E v z) (hv:v<n) (he:E u v=true):Star n E u z:=(Star.step .refl hv he).trans h
theorem anO_up {s:Nat} (hP:∀u v,paO P u v=true→u<n∧v<n):∀u v,paO P u v=true→anO P n s v=true→anO P n s u=true:=fun u v huv h=>by
 obtain ⟨hu,hv⟩:=hP u v huv
 obtain ⟨z,hz,h1,h2⟩:=(anO_iff hv).1 h
 exact (anO_iff hu).2 ⟨z,hz,h1,h2.first hv huv⟩
theorem anO_self {s:Nat} (hs:∀v,s.testBit v=true→v<n) (v:Nat) (h:s.testBit v=true):anO P n s v=true:=(anO_iff (hs v h)).2 ⟨v,hs v h,h,.refl⟩
end
end Go.Proofs.YtgjnbcfencallaaDoor
