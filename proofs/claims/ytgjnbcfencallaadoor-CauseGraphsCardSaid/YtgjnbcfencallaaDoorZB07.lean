/- Sets of nodes: has, len, list, read, reads, lists: walked. Conditions: sets below 256, what slices may hold. -/
import Derived.Test.YtgjnbcfencallaaDoorZB06
set_option linter.unusedVariables false
set_option linter.unusedSimpArgs false
namespace Go.Proofs.YtgjnbcfencallaaDoor
open Go Go.RowKit
theorem sl_cells {r sz:Nat} {l:List FV}:(sl r sz l).cells=[sl r sz l]:=by cases l<;>rfl
theorem sl_one {r sz:Nat} {l:List FV} {p:AV→Prop}:(∃c,(sl r sz l).cells[0]?=some c∧p c)=p (sl r sz l):=by
 rw [sl_cells];exact propext ⟨fun ⟨c,h,hp⟩=>by cases h;exact hp,fun h=>⟨_,rfl,h⟩⟩
theorem sl_st {r sz:Nat} {l:List FV}:((sl r sz l).st=true)=True:=by cases l<;>exact eq_self true
theorem sl_clen {r sz:Nat} {l:List FV}:(sl r sz l).cells.length=1:=by rw [sl_cells];rfl
theorem lt0_sl {r sz N:Nat} {l:List FV} (h:r<N):(AV.lt0 N (sl r sz l)=true)=True:=by
 cases l with
 | nil=>exact eq_self true
 | cons a l=>exact propext ⟨fun _=>trivial,fun _=>decide_eq_true h⟩
attribute [go_sem] lt0_sl sl_one sl_st sl_clen
set_option maxRecDepth 100000 in
theorem has_w {s v:Nat} (hs:s<256) (hv:v<64):Good Tryd.prog 35 [U s,I (v:Int)] (Bo (s.testBit v)):=by
 have e:=u_has hs hv
 refine good_of Tryd.func35 rfl (by kernel_rfl) fun X hO hrd=>?_;rw [Tryd.ntmps35,Tryd.results35];simp only [ast0,List.map_cons,List.map_nil,List.length_cons,List.length_nil,Nat.reduceAdd,Nat.reduceSub,List.replicate_succ,List.replicate_zero,List.cons_append,List.nil_append]
 (repeat (with_reducible first|refine W_seq fun K hK=>?_|refine J_ret ?_|refine J_region ?_ |exact Frz.f _|(refine Kont.go (by assumption) ?_)|(simp (config:={ maxSteps:=3000000 }) (disch:=omega) only [go_sem,e])))
theorem els_take {s i:Nat} {x:Int} (h:((els s).map Int.ofNat)[i]?=some x):∃v:Nat,x=(v:Int)∧v<8∧s.testBit v=true∧(els s)[i]?=some v∧(els s).take i++[v]=(els s).take (i+1):=by
 rw [List.getElem?_map] at h
 cases hv:(els s)[i]? with
 | none=>rw [hv] at h;cases h
 | some v =>
  rw [hv] at h
  cases h
  obtain ⟨h1,h2⟩:=els_mem.1 (List.mem_of_getElem? hv)
  exact ⟨v,rfl,h1,h2,rfl,by rw [List.take_add_one,hv];rfl⟩
theorem els_len {s:Nat}:(els s).length≤8:=by unfold els;exact Nat.le_trans (List.length_filter_le _ _) (by simp)
set_option maxRecDepth 100000 in
set_option maxHeartbeats 4000000 in
theorem list_w {s:Nat} (hs:s<256):Good Tryd.prog 39 [U s] (.fz 1 (Ns (els s))):=by
 have hit:=all_iter s hs
 have hok:enterOk Tryd.prog 45=true:=by kernel_rfl
 have hel:=els_len (s:=s)
 refine good_of Tryd.func39 rfl (by kernel_rfl) fun X hO hrd=>?_;rw [Tryd.ntmps39,Tryd.results39];simp only [ast0,List.map_cons,List.map_nil,List.length_cons,List.length_nil,Nat.reduceAdd,Nat.reduceSub,List.replicate_succ,List.replicate_zero,List.cons_append,List.nil_append]
 (repeat (with_reducible first|refine W_seq fun K hK=>?_|refine J_block ?_|refine J_region ?_ |(refine Kont.go (by assumption) ?_)|(simp (config:={ maxSteps:=3000000 }) (disch:=omega) only [go_sem])))
 refine J_reserve ?_
 refine J_rangeW hrd [4,7,8,9,10,11] (fun i=>[some ⟨23,1,[sl 1 1 (Ns ((els s).take i))]⟩,ob 3 1 (Ns ((els s).take i))]) rfl (hit) (by kernel_rfl) (by refine weak_of ?_ ?_<;>simp (disch:=omega) only [go_sem,Nat.reduceAdd]<;>first|rfl|exact ⟨rfl,rfl⟩|trivial|((repeat' apply And.intro)<;>first|rfl|trivial|exact .inl rfl|exact .inr ⟨rfl,rfl⟩|exact .inr rfl)) (by decide) (by kernel_rfl) (by kernel_rfl) ?_ ?_
 ·rintro i x hx X1 hX1 K hK
  obtain ⟨v,rfl,hv8,hvs,hvi,htk⟩:=els_take hx
  simp only [go_sem]
  (repeat (with_reducible first|refine J_region ?_ |(refine Kont.go (by assumption) ?_)|(simp (config:={ maxSteps:=3000000 }) (disch:=omega) only [go_sem])))
  intro X2 hX2
  have hlt:((Ns ((els s).take i)).length+1)*8≤140737488355328:=by rw [Ns_len,List.length_take];omega
  have hsn:Ns ((els s).take i)++[FV.v (Value.int .i64 v)]=Ns ((els s).take (i+1)):=by rw [←htk];exact Ns_snoc
  (repeat (first|(with_reducible first|refine J_block ?_|refine J_region ?_ |refine aApp_sl ?_|(simp (config:={ maxSteps:=3000000 }) (disch:=omega) only [go_sem,Nat.reduceEqDiff,↓reduceIte,Nat.reduceAdd,Nat.reduceLeDiff,hlt,hsn]))|refine And.intro (by omega) ?_))
  refine rpost_n (weak_of ?_ ?_)<;>(try simp (disch:=omega) only [go_sem,Nat.reduceAdd])<;>(try first|done|omega|rfl|exact ⟨rfl,rfl⟩|trivial)
 ·have he:(els s).take ((els s).map Int.ofNat).length=els s:=by rw [List.length_map,List.take_length]
  rw [he]
  simp only [go_sem]
  (repeat (with_reducible first|refine W_seq fun K hK=>?_|refine J_ret ?_|refine J_region ?_ |(refine Kont.go (by assumption) ?_)|(simp (config:={ maxSteps:=3000000 }) (disch:=omega) only [go_sem,↓reduceIte])))
  exact Frz.sl rfl
end Go.Proofs.YtgjnbcfencallaaDoor
set_option linter.unusedVariables false
set_option linter.unusedSimpArgs false
namespace Go.Proofs.YtgjnbcfencallaaDoor
open Go Go.RowKit
section
variable {l : List Int} {n x : Nat}
theorem ris_nn (h:∀j,j<x→prevI l j<l.getD j 0∧l.getD j 0<(n:Int)):-1≤prevI l x∧∀j,j<x→0≤l.getD j 0:=by
 induction x with
 | zero=>exact ⟨by unfold prevI;simp,fun j h=>by omega⟩
 | succ x ih =>
  obtain ⟨h1,h2⟩:=ih fun j hj=>h j (by omega)
  have h3:=(h x (by omega)).1
  refine ⟨by rw [prevI_next];omega,fun j hj=>?_⟩
  by_cases e:j=x
  ·subst e;omega
  ·exact h2 j (by omega)
end
set_option maxRecDepth 100000 in
set_option maxHeartbeats 4000000 in
theorem rising_w (l:List Int) {n:Nat} (hn:n≤1000000) (hw:∀x∈l,-9223372036854775808≤x∧x≤9223372036854775807) (hl:l.length≤140737488355328) :
  Good Tryd.prog 40 [ints l,I (n:Int)] (Bo (risB n l)):=by
 refine good_of Tryd.func40 rfl (by kernel_rfl) fun X hO hrd=>?_;rw [Tryd.ntmps40,Tryd.results40];simp only [ast0,List.map_cons,List.map_nil,List.length_cons,List.length_nil,Nat.reduceAdd,Nat.reduceSub,List.replicate_succ,List.replicate_zero,List.cons_append,List.nil_append]
 (repeat (with_reducible first|refine W_seq fun K hK=>?_|refine J_block ?_|refine J_region ?_ |(refine Kont.go (by assumption) ?_)|(simp (config:={ maxSteps:=3000000 }) (disch:=omega) only [go_sem])))
 refine W_loop [4,5,6,7,8,9,10,11,12,13,14,15,16,17,18,19,20,21,22,23,24,25,26,27,28,29,30,31,32,33,34,35,36,37,38,39,40] (fun x:Nat=>[(5,.f (I x))]) (fun x:Nat=>[]) (fun x:Nat=>x≤l.length∧∀j,j<x→prevI l j<l.getD j 0∧l.getD j 0<(n:Int)) (fun x:Nat=>l.length-x) (0) (⟨Nat.zero_le _,fun j h=>by omega⟩) (by refine weak_of ?_ ?_<;>simp (disch:=omega) only [go_sem]<;>first|rfl|exact ⟨rfl,rfl⟩|exact Or.inl rfl|exact ⟨Or.inl rfl,Or.inl rfl⟩|trivial|assumption|omega|(symm;assumption)|((repeat' apply And.intro)<;>first|rfl|omega|trivial|exact .inl rfl|exact .inr ⟨rfl,rfl⟩|exact .inr rfl|(right;symm;assumption)|(symm;assumption)|assumption)) ?_
 rintro x ⟨hx,hp⟩
 simp only [go_sem]
 (repeat (with_reducible first|refine W_seq fun K hK=>?_|refine J_region ?_ |refine J_c ?_|(refine Kont.go (by assumption) ?_)|(simp (config:={ maxSteps:=3000000 }) (disch:=omega) only [go_sem,List.length_map])))
 refine Jc_if (fun hxl=>?_) (fun hxl=>?_)<;>try simp only [decide_eq_true_eq,decide_eq_false_iff_not] at hxl
 ·have g1:=map_get I l hxl
  have g3:l.getD x 0=l[x]:=lget_lt l 0 hxl
  have hm1:=(ris_nn hp).1
  have hno:¬(prevI l x<l[x]∧l[x]<(n:Int))→risB n l=false:=fun hh=>by
   cases hb:risB n l with
   | false=>rfl
   | true=>exact absurd (risB_iff.1 hb x hxl) (by rw [g3];exact hh)
  by_cases c0:l[x]<0
  ·have e:risB n l=false:=hno fun h=>by omega
   (repeat (with_reducible first|refine W_seq fun K hK=>?_|refine J_block ?_|refine J_skip ?_|refine J_ret ?_|refine J_region ?_ |refine J_drawn mixed (by kernel_rfl) ?_|refine J_c ?_|refine Jc_true ?_|(refine Kont.go (by assumption) ?_)|(simp (config:={ maxSteps:=3000000 }) (disch:=omega) only [go_sem,↓reduceIte,g1,c0,true_and])))
   rw [e]
   exact Frz.f _
  ·by_cases c2:(n:Int)≤l[x]
   ·have e:risB n l=false:=hno fun h=>by omega
    (repeat (with_reducible first|refine W_seq fun K hK=>?_|refine J_block ?_|refine J_skip ?_|refine J_ret ?_|refine J_region ?_ |refine J_drawn mixed (by kernel_rfl) ?_|refine J_c ?_|refine Jc_true ?_|(refine Kont.go (by assumption) ?_)|(simp (config:={ maxSteps:=3000000 }) (disch:=omega) only [go_sem,↓reduceIte,g1,c0,c2,true_and])))
    rw [e]
    exact Frz.f _
   ·by_cases x0:x=0
    ·have hpr:prevI l x=-1:=by unfold prevI;rw [if_pos x0]
     have c3:¬(0:Int)<(x:Int):=by omega
     (repeat (with_reducible first|refine W_seq fun K hK=>?_|refine J_block ?_|refine J_skip ?_|refine J_region ?_ |refine J_drawn mixed (by kernel_rfl) ?_|refine J_c ?_|refine Jc_false ?_|(refine Kont.go (by assumption) ?_)|(simp (config:={ maxSteps:=3000000 }) (disch:=omega) only [go_sem,↓reduceIte,g1,c0,c2,c3,true_and])))
     refine ⟨x+1,⟨by omega,upto_next (p:=fun j=>prevI l j<l.getD j 0∧l.getD j 0<(n:Int)) hp ⟨by rw [g3];omega,by rw [g3];omega⟩⟩,by omega,weak_of ?_ ?_⟩<;>(try simp (disch:=omega) only [go_sem])<;>(try first|done|omega|rfl|exact ⟨rfl,rfl⟩|trivial)
    ·have hpr:prevI l x=l.getD (x-1) 0:=by unfold prevI;rw [if_neg x0]
     have c3:(0:Int)<(x:Int):=by omega
     have hx1:x-1<l.length:=by omega
     have g4:l.getD (x-1) 0=l[x-1]:=lget_lt l 0 hx1
     have g5:=map_get I l hx1
     have g6:((x:Int)-1).toNat=x-1:=by omega
     rw [g4] at hpr
     by_cases c1:l[x]≤l[x-1]
     ·have e:risB n l=false:=hno fun h=>by omega
      (repeat (first|(with_reducible first|refine W_seq fun K hK=>?_|refine J_block ?_|refine J_skip ?_|refine J_ret ?_|refine J_region ?_ |refine J_drawn mixed (by kernel_rfl) ?_|refine J_c ?_|refine Jc_true ?_|(refine Kont.go (by assumption) ?_)|(simp (config:={ maxSteps:=3000000 }) (disch:=omega) only [go_sem,↓reduceIte,g1,g5,g6,c0,c2,c3,c1,true_and]))|refine And.intro (by omega) ?_))
      rw [e]
      exact Frz.f _
     ·(repeat (first|(with_reducible first|refine W_seq fun K hK=>?_|refine J_block ?_|refine J_skip ?_|refine J_region ?_ |refine J_drawn mixed (by kernel_rfl) ?_|refine J_c ?_|refine Jc_false ?_|(refine Kont.go (by assumption) ?_)|(simp (config:={ maxSteps:=3000000 }) (disch:=omega) only [go_sem,↓reduceIte,g1,g5,g6,c0,c2,c3,c1,true_and]))|refine And.intro (by omega) ?_))
      refine ⟨x+1,⟨by omega,upto_next (p:=fun j=>prevI l j<l.getD j 0∧l.getD j 0<(n:Int)) hp ⟨by rw [g3];omega,by rw [g3];omega⟩⟩,by omega,weak_of ?_ ?_⟩<;>(try simp (disch:=omega) only [go_sem])<;>(try first|done|omega|rfl|exact ⟨rfl,rfl⟩|trivial)
 ·have he:x=l.length:=by omega
  subst he
  have e:risB n l=true:=risB_iff.2 hp
  (repeat (with_reducible first|refine W_seq fun K hK=>?_|refine J_exit ?_|refine J_ret ?_|refine J_region ?_ |(refine Kont.go (by assumption) ?_)|(simp (config:={ maxSteps:=3000000 }) (disch:=omega) only [go_sem,↓reduceIte])))
  rw [e]
  exact Frz.f _
end Go.Proofs.YtgjnbcfencallaaDoor
set_option linter.unusedVariables false
set_option linter.unusedSimpArgs false
namespace Go.Proofs.YtgjnbcfencallaaDoor
open Go Go.RowKit
def rowsO (e:TypeId) (sz:Nat) (R:List (List FV)):AH:=R.map fun l=>some ⟨e,sz,l.map .f⟩
def dy (A:AH) (e:TypeId) (sz:Nat) (R:List (List FV)) (B:AH):AH:=A++(rowsO e sz R++B)
section
variable {A A' B C : AH} {e : TypeId} {sz a n i j N : Nat} {R : List (List FV)} {l : List FV} {o : Option AO}
theorem rowsO_len:(rowsO e sz R).length=R.length:=by simp [rowsO]
theorem dy_len:(dy A e sz R B).length=A.length+(R.length+B.length):=by simp [dy,rowsO_len]
theorem dy_app:dy A e sz R B++C=dy A e sz R (B++C):=by simp [dy]
theorem weakH_app {H:AH}:A.length=A'.length→(WeakH N (A++H) (A'++C)↔WeakH N A A'∧WeakH N H C):=by
 induction A generalizing A' with
 | nil =>
  intro h
  cases A' with
  | nil=>rw [List.nil_append,List.nil_append,weakH_nil];simp
  | cons b A'=>simp at h
 | cons b A ih =>
  intro h
  cases A' with
  | nil=>simp at h
  | cons c A' =>
   have:=ih (A':=A') (by simpa using h)
   show (_∧WeakH N (A++H) (A'++C))↔(_∧WeakH N A A')∧_
   rw [this,and_assoc]
theorem weakH_rows:WeakH N (rowsO e sz R++B) (rowsO e sz R++[]):=by
 rw [List.append_nil]
 induction R with
 | nil=>exact (weakH_nil N B).mpr trivial
 | cons l R ih=>exact ⟨⟨rfl,fun x hx=>by obtain ⟨y,_,rfl⟩:=List.mem_map.1 (show x∈l.map AV.f from hx);rfl⟩,ih⟩
theorem weakH_dyB (h:A.length=A'.length):WeakH N (dy A e sz R B) (dy A' e sz R C)=(WeakH N A A'∧WeakH N B C):=by
 unfold dy
 refine propext ⟨fun hh=>⟨((weakH_app h).1 hh).1,((weakH_app rfl).1 ((weakH_app h).1 hh).2).2⟩,fun hh=>(weakH_app h).2 ⟨hh.1,(weakH_app rfl).2 ⟨?_,hh.2⟩⟩⟩
 have:=weakH_rows (N:=N) (e:=e) (sz:=sz) (R:=R) (B:=[])
 simpa using this
end
section
variable {A B C : AH} {e : TypeId} {sz N : Nat} {R : List (List FV)} {o p q r o' p' q' r' : Option AO}
theorem dy_g0:(dy (o::A) e sz R B)[0]?=some o:=(rfl)
theorem dy_g1:(dy (o::p::A) e sz R B)[1]?=some p:=(rfl)
theorem dy_g2:(dy (o::p::q::A) e sz R B)[2]?=some q:=(rfl)
theorem dy_g3:(dy (o::p::q::r::A) e sz R B)[3]?=some r:=(rfl)
theorem dy_s0:(dy (o::A) e sz R B).set 0 o'=dy (o'::A) e sz R B:=(rfl)
theorem dy_s1:(dy (o::p::A) e sz R B).set 1 o'=dy (o::o'::A) e sz R B:=(rfl)
theorem dy_s2:(dy (o::p::q::A) e sz R B).set 2 o'=dy (o::p::o'::A) e sz R B:=(rfl)
theorem dy_s3:(dy (o::p::q::r::A) e sz R B).set 3 o'=dy (o::p::q::o'::A) e sz R B:=(rfl)
theorem weakH_dy1:WeakH N (dy [o] e sz R B) (dy [o'] e sz R C)=(WeakH N [o] [o']∧WeakH N B C):=weakH_dyB rfl
theorem weakH_dy2:WeakH N (dy [o,p] e sz R B) (dy [o',p'] e sz R C)=(WeakH N [o,p] [o',p']∧WeakH N B C):=weakH_dyB rfl
theorem weakH_dy3:WeakH N (dy [o,p,q] e sz R B) (dy [o',p',q'] e sz R C)=(WeakH N [o,p,q] [o',p',q']∧WeakH N B C):=weakH_dyB rfl
theorem weakH_dy4:WeakH N (dy [o,p,q,r] e sz R B) (dy [o',p',q',r'] e sz R C)=(WeakH N [o,p,q,r] [o',p',q',r']∧WeakH N B C):=weakH_dyB rfl
end
abbrev nilV:FV:=.v (.slice none 0 0)
attribute [go_sem] dy_len dy_app dy_g0 dy_g1 dy_g2 dy_g3 dy_s0 dy_s1 dy_s2 dy_s3 weakH_dy1 weakH_dy2 weakH_dy3 weakH_dy4
end Go.Proofs.YtgjnbcfencallaaDoor
set_option linter.unusedVariables false
set_option linter.unusedSimpArgs false
namespace Go.Proofs.YtgjnbcfencallaaDoor
open Go Go.RowKit
def setI (l:List Int):Nat:=l.foldl (fun s v=>s|||bit v.toNat) 0
section
variable {l : List Int} {n x : Nat}
theorem setI_snoc {v:Int}:setI (l++[v])=setI l|||bit v.toNat:=by simp [setI]
theorem setI_take (h:x<l.length):setI (l.take (x+1))=setI (l.take x)|||bit (l.getD x 0).toNat:=by
 rw [List.take_add_one,List.getElem?_eq_getElem h,lget_lt l 0 h];exact setI_snoc
theorem setI_bit:∀{l:List Int} {u:Nat},(setI l).testBit u=l.any fun v=>decide (v.toNat=u):=by
 intro l u
 suffices h:∀(l:List Int) (s:Nat),(l.foldl (fun s v=>s|||bit v.toNat) s).testBit u=(s.testBit u||l.any fun v=>decide (v.toNat=u)) by
  have:=h l 0
  rw [Nat.zero_testBit,Bool.false_or] at this
  exact this
 intro l
 induction l with
 | nil=>intro s;simp
 | cons v l ih =>
  intro s
  rw [List.foldl_cons,ih,Nat.testBit_or,bit_bit,List.any_cons,Bool.or_assoc]
theorem setI_lt (hn:n≤8) (hx:x≤l.length) (h:∀j,j<x→prevI l j<l.getD j 0∧l.getD j 0<(n:Int)):setI (l.take x)<256:=by
 induction x with
 | zero=>simp [setI]
 | succ x ih =>
  rw [setI_take (by omega)]
  have h2:=(ris_nn h).2 x (by omega)
  have h3:=(h x (by omega)).2
  exact or_lt (ih (by omega) fun j hj=>h j (by omega)) (bit_lt (by omega))
end
def readS (n:Nat) (l:List Int):Nat:=if risB n l=true then setI l else 0
theorem readS_lt {n:Nat} {l:List Int} (hn:n≤8):readS n l<256:=by
 unfold readS
 split
 ·rename_i h
  have:=setI_lt (x:=l.length) hn (Nat.le_refl _) (risB_iff.1 h)
  rwa [List.take_length] at this
 ·decide
set_option maxRecDepth 100000 in
set_option maxHeartbeats 4000000 in
theorem read_w (l:List Int) {n:Nat} (hn:n≤8) (hw:∀x∈l,-9223372036854775808≤x∧x≤9223372036854775807) (hl:l.length≤140737488355328) :
  Good Tryd.prog 37 [ints l,I (n:Int)] (.tup [U (readS n l),Bo (risB n l)]):=by
 refine good_of Tryd.func37 rfl (by kernel_rfl) fun X hO hrd=>?_;rw [Tryd.ntmps37,Tryd.results37];simp only [ast0,List.map_cons,List.map_nil,List.length_cons,List.length_nil,Nat.reduceAdd,Nat.reduceSub,List.replicate_succ,List.replicate_zero,List.cons_append,List.nil_append]
 (repeat (with_reducible first|refine W_seq fun K hK=>?_|refine J_block ?_|refine J_region ?_ |(refine Kont.go (by assumption) ?_)|(simp (config:={ maxSteps:=3000000 }) (disch:=omega) only [go_sem,Int.reduceNeg,List.length_map])))
 have hz:FV.v (.int .u64 0)=U (setI (l.take 0)):=rfl
 rw [hz]
 refine W_loop [4,5,6,7,9,12,13,14,15,16,17,18,19,20,21,22,23,24,25,26,27,28,29] (fun x:Nat=>[(6,.f (U (setI (l.take x)))),(7,.f (I (prevI l x))),(12,.f (I x))]) (fun x:Nat=>[]) (fun x:Nat=>x≤l.length∧∀j,j<x→prevI l j<l.getD j 0∧l.getD j 0<(n:Int)) (fun x:Nat=>l.length-x) (0) (⟨Nat.zero_le _,fun j h=>by omega⟩) (by refine weak_of ?_ ?_<;>simp (disch:=omega) only [go_sem]<;>first|rfl|exact ⟨rfl,rfl⟩|exact Or.inl rfl|exact ⟨Or.inl rfl,Or.inl rfl⟩|trivial|assumption|omega|(symm;assumption)|((repeat' apply And.intro)<;>first|rfl|omega|trivial|exact .inl rfl|exact .inr ⟨rfl,rfl⟩|exact .inr rfl|(right;symm;assumption)|(symm;assumption)|assumption)) ?_
 rintro x ⟨hx,hp⟩
 simp only [go_sem]
 (repeat (with_reducible first|refine W_seq fun K hK=>?_|refine J_region ?_ |refine J_c ?_|(refine Kont.go (by assumption) ?_)|(simp (config:={ maxSteps:=3000000 }) (disch:=omega) only [go_sem])))
 refine Jc_if (fun hxl=>?_) (fun hxl=>?_)<;>try simp only [decide_eq_true_eq,decide_eq_false_iff_not] at hxl
 ·have g1:=map_get I l hxl
  have g2:=prevI_next (l:=l) (x:=x)
  have g3:l.getD x 0=l[x]:=lget_lt l 0 hxl
  have hno:¬(prevI l x<l[x]∧l[x]<(n:Int))→risB n l=false:=fun hh=>by
   cases hb:risB n l with
   | false=>rfl
   | true=>exact absurd (risB_iff.1 hb x hxl) (by rw [g3];exact hh)
  by_cases c1:l[x]≤prevI l x
  ·have e:risB n l=false:=hno fun h=>by omega
   have e2:readS n l=0:=by unfold readS;rw [e];rfl
   (repeat (with_reducible first|refine W_seq fun K hK=>?_|refine J_block ?_|refine J_skip ?_|refine J_ret ?_|refine J_region ?_ |refine J_c ?_|refine Jc_true ?_|(refine Kont.go (by assumption) ?_)|(simp (config:={ maxSteps:=3000000 }) (disch:=omega) only [go_sem,↓reduceIte,g1,c1])))
   rw [e,e2]
   exact ⟨_,rfl,FrzL.fs [_,_]⟩
  ·by_cases c2:(n:Int)≤l[x]
   ·have e:risB n l=false:=hno fun h=>by omega
    have e2:readS n l=0:=by unfold readS;rw [e];rfl
    (repeat (with_reducible first|refine W_seq fun K hK=>?_|refine J_block ?_|refine J_skip ?_|refine J_ret ?_|refine J_region ?_ |refine J_c ?_|refine Jc_true ?_|(refine Kont.go (by assumption) ?_)|(simp (config:={ maxSteps:=3000000 }) (disch:=omega) only [go_sem,↓reduceIte,g1,c1,c2])))
    rw [e,e2]
    exact ⟨_,rfl,FrzL.fs [_,_]⟩
   ·have hnn:=(ris_nn hp).1
    obtain ⟨v,hv⟩:=Int.eq_ofNat_of_zero_le (show 0≤l[x] by omega)
    have hs:=setI_lt hn hx hp
    have hv8:v<8:=by omega
    have hb:=bit_lt hv8
    have hset:=setI_take hxl
    rw [g3] at g2 hset
    rw [hv] at g1 g2 c1 c2 hset
    have et:((v:Nat):Int).toNat=v:=by omega
    rw [et] at hset
    have ho:=u_or hs hb
    have hsh:=u_shl hv8
    (repeat (with_reducible first|refine W_seq fun K hK=>?_|refine J_block ?_|refine J_skip ?_|refine J_region ?_ |refine J_c ?_|refine Jc_false ?_|(refine Kont.go (by assumption) ?_)|(simp (config:={ maxSteps:=3000000 }) (disch:=omega) only [go_sem,↓reduceIte,g1,c1,c2,hsh,ho,true_and])))
    refine ⟨x+1,⟨by omega,upto_next (p:=fun j=>prevI l j<l.getD j 0∧l.getD j 0<(n:Int)) hp ⟨by rw [g3];omega,by rw [g3];omega⟩⟩,by omega,weak_of ?_ ?_⟩<;>(try simp (disch:=omega) only [go_sem,g2,hset])<;>(try first|done|omega|rfl|exact ⟨rfl,rfl⟩|trivial)
 ·have he:x=l.length:=by omega
  subst he
  have e:risB n l=true:=risB_iff.2 hp
  have e2:readS n l=setI (l.take l.length):=by unfold readS;rw [e,List.take_length];rfl
  (repeat (with_reducible first|refine W_seq fun K hK=>?_|refine J_exit ?_|refine J_ret ?_|refine J_region ?_ |(refine Kont.go (by assumption) ?_)|(simp (config:={ maxSteps:=3000000 }) (disch:=omega) only [go_sem,↓reduceIte])))
  rw [e,e2]
  exact ⟨_,rfl,FrzL.fs [_,_]⟩
theorem nilR {H:AH}:ownR H (.f nilV) (.f nilV):=⟨rfl,.v _⟩
def nodeB (L:List (List Int)) (v:Nat):Bool:=risB L.length (L.getD v [])&&!(readS L.length (L.getD v [])).testBit v
def listsB (L:List (List Int)):Bool:=decide (1≤L.length∧L.length≤8)&&(List.range L.length).all (nodeB L)
def setAt (L:List (List Int)) (v:Nat):Nat:=readS L.length (L.getD v [])
def setsOf (L:List (List Int)):List Nat:=(List.range L.length).map (setAt L)
def OkIss (L:List (List Int)):Prop:=L.length≤140737488355328∧∀l∈L,l.length≤140737488355328∧∀x∈l,-9223372036854775808≤x∧x≤9223372036854775807
theorem listsB_iff {L:List (List Int)}:listsB L=true↔(1≤L.length∧L.length≤8)∧∀v,v<L.length→nodeB L v=true:=by
 simp [listsB]
def rdR (L:List (List Int)):RV:=if listsB L=true then .own 56 1 ((setsOf L).map U) else .f nilV
set_option maxRecDepth 100000 in
set_option maxHeartbeats 4000000 in
theorem reads_w (L:List (List Int)) (hL:OkIss L):GoodOT Tryd.prog 34 [.fz 1 (L.map ints)] (rdR L) [Bo (listsB L)]:=by
 obtain ⟨hLl,hLr⟩:=hL
 have bad:listsB L=false→rdR L=.f nilV:=fun h=>by unfold rdR;rw [h];rfl
 have z2:∀z n,List.replicate n (AV.f z)=(fillL n 0 (fun i=>U (setAt L i)) z).map .f:=fun z n=>by rw [fill_zero,List.map_replicate]
 refine goodOT_of Tryd.func34 rfl (by kernel_rfl) fun X hO hrd=>?_;rw [Tryd.ntmps34,Tryd.results34];simp only [ast0,List.map_cons,List.map_nil,List.length_cons,List.length_nil,Nat.reduceAdd,Nat.reduceSub,List.replicate_succ,List.replicate_zero,List.cons_append,List.nil_append]
 by_cases h1:1≤L.length∧L.length≤8
 case neg =>
  have hb:listsB L=false:=by
   cases h:listsB L with
   | false=>rfl
   | true=>exact absurd (listsB_iff.1 h).1 h1
  by_cases h2:(L.length:Int)<1
  ·(repeat (with_reducible first|refine W_seq fun K hK=>?_|refine J_ret ?_|refine J_region ?_ |refine J_c ?_|refine Jc_true ?_|(refine Kont.go (by assumption) ?_)|(simp (config:={ maxSteps:=3000000 }) (disch:=omega) only [go_sem,List.length_map,h2])))
   rw [hb,bad hb]
   refine ⟨_,⟨rfl,rfl⟩,by simp,nilR,fun x hx=>by rcases List.mem_singleton.1 hx with rfl;exact .v _⟩
  ·have h3:(8:Int)<(L.length:Int):=by omega
   (repeat (with_reducible first|refine W_seq fun K hK=>?_|refine J_ret ?_|refine J_region ?_ |refine J_c ?_|refine Jc_true ?_|(refine Kont.go (by assumption) ?_)|(simp (config:={ maxSteps:=3000000 }) (disch:=omega) only [go_sem,List.length_map,h2,h3])))
   rw [hb,bad hb]
   refine ⟨_,⟨rfl,rfl⟩,by simp,nilR,fun x hx=>by rcases List.mem_singleton.1 hx with rfl;exact .v _⟩
 obtain ⟨hn1,hn8⟩:=h1
 have h2:¬(L.length:Int)<1:=by omega
 have h3:¬(8:Int)<(L.length:Int):=by omega
 (repeat (first|(with_reducible first|refine W_seq fun K hK=>?_|refine J_block ?_|refine J_skip ?_|refine J_region ?_ |refine J_c ?_|refine Jc_false ?_|(refine Kont.go (by assumption) ?_)|(simp (config:={ maxSteps:=3000000 }) (disch:=omega) only [go_sem,List.length_map,h2,h3,z2]))|refine And.intro (by omega) ?_))
 obtain ⟨n,hn⟩:∃n,n=L.length:=⟨_,rfl⟩
 refine W_loop [2,3,6,7,8,9,22,23,24,25,26,27,28,29,30,31,32,33,34,35,36,37,38,39,40,41,42,43,44] (fun x:Nat=>[(22,.f (I x))]) (fun x:Nat=>[some ⟨56,1,(fillL L.length x (fun i=>U (setAt L i)) (U 0)).map .f⟩]) (fun x:Nat=>x≤L.length∧∀j,j<x→nodeB L j=true) (fun x:Nat=>L.length-x) (0) (⟨Nat.zero_le _,fun j h=>by omega⟩) (by refine weak_of ?_ ?_<;>simp (disch:=omega) only [go_sem]<;>first|rfl|exact ⟨rfl,rfl⟩|exact Or.inl rfl|exact ⟨Or.inl rfl,Or.inl rfl⟩|trivial|assumption|omega|(symm;assumption)|((repeat' apply And.intro)<;>first|rfl|omega|trivial|exact .inl rfl|exact .inr ⟨rfl,rfl⟩|exact .inr rfl|(right;symm;assumption)|(symm;assumption)|assumption)) ?_
 rintro x ⟨hx,hp⟩
 simp only [go_sem]
 (repeat (with_reducible first|refine W_seq fun K hK=>?_|refine J_region ?_ |refine J_c ?_|(refine Kont.go (by assumption) ?_)|(simp (config:={ maxSteps:=3000000 }) (disch:=omega) only [go_sem])))
 refine Jc_if (fun hxl=>?_) (fun hxl=>?_)<;>try simp only [decide_eq_true_eq,decide_eq_false_iff_not] at hxl
 ·have g1:=map_get ints L hxl
  have g3:L.getD x []=L[x]:=lget_lt L [] hxl
  have hr:=read_w (n:=L.length) L[x] hn8 (hLr _ (List.getElem_mem hxl)).2 (hLr _ (List.getElem_mem hxl)).1
  have hlt:=readS_lt (n:=L.length) (l:=L[x]) hn8
  have hh:=has_w (v:=x) hlt (by omega)
  have hns:nodeB L x=(risB L.length L[x]&&!(readS L.length L[x]).testBit x):=by unfold nodeB;rw [g3]
  have hbad:nodeB L x=false→listsB L=false:=fun h=>by
   cases hb:listsB L with
   | false=>rfl
   | true=>have:=(listsB_iff.1 hb).2 x hxl;rw [h] at this;cases this
  obtain ⟨s,hs⟩:∃s,s=readS L.length L[x]:=⟨_,rfl⟩
  rw [←hs] at hr hlt hh hns
  (repeat (with_reducible first|refine W_seq fun K hK=>?_|refine J_block ?_|refine J_skip ?_|refine J_region ?_ |(refine Kont.go (by assumption) ?_)|(simp (config:={ maxSteps:=3000000 }) (disch:=omega) only [go_sem,↓reduceIte,g1])))
  refine call_f hr rfl ?_
  cases hb1:risB L.length L[x] with
  | false =>
   have hb:=hbad (by rw [hns,hb1];rfl)
   (repeat (with_reducible first|refine W_seq fun K hK=>?_|refine J_ret ?_|refine J_region ?_ |refine J_c ?_|refine Jc_true ?_|(refine Kont.go (by assumption) ?_)|(simp (config:={ maxSteps:=3000000 }) (disch:=omega) only [go_sem])))
   rw [hb,bad hb]
   refine ⟨_,⟨rfl,rfl⟩,by simp,nilR,fun x hx=>by rcases List.mem_singleton.1 hx with rfl;exact .v _⟩
  | true =>
   cases hb2:s.testBit x with
   | true =>
    have hb:=hbad (by rw [hns,hb1,hb2];rfl)
    rw [hb2] at hh
    (repeat (with_reducible first|refine W_seq fun K hK=>?_|refine J_region ?_ |(refine Kont.go (by assumption) ?_)|(simp (config:={ maxSteps:=3000000 }) (disch:=omega) only [go_sem])))
    refine call_f hh rfl ?_
    (repeat (with_reducible first|refine W_seq fun K hK=>?_|refine J_ret ?_|refine J_region ?_ |refine J_c ?_|refine Jc_true ?_|(refine Kont.go (by assumption) ?_)|(simp (config:={ maxSteps:=3000000 }) (disch:=omega) only [go_sem])))
    rw [hb,bad hb]
    refine ⟨_,⟨rfl,rfl⟩,by simp,nilR,fun x hx=>by rcases List.mem_singleton.1 hx with rfl;exact .v _⟩
   | false =>
    have hok:nodeB L x=true:=by rw [hns,hb1,hb2];rfl
    rw [hb2] at hh
    have hfl:(fillL L.length x (fun i=>U (setAt L i)) (U 0)).length=L.length:=fill_len
    have hfs:=fillA_set (n:=L.length) (k:=x) (f:=fun i=>U (setAt L i)) (z:=U 0) (x:=U s) hxl (by show U (readS L.length (L.getD x []))=_;rw [g3,hs])
    have hfg:=fillA_get (n:=L.length) (k:=x) (f:=fun i=>U (setAt L i)) (z:=U 0) (j:=x) hxl
    (repeat (with_reducible first|refine W_seq fun K hK=>?_|refine J_region ?_ |(refine Kont.go (by assumption) ?_)|(simp (config:={ maxSteps:=3000000 }) (disch:=omega) only [go_sem])))
    refine call_f hh rfl ?_
    (repeat (first|(with_reducible first|refine J_skip ?_|refine J_region ?_ |refine J_c ?_|refine Jc_false ?_|(refine Kont.go (by assumption) ?_)|(simp (config:={ maxSteps:=3000000 }) (disch:=omega) only [go_sem,↓reduceIte,hfs,hfg]))|refine And.intro (by omega) ?_))
    refine ⟨x+1,⟨by omega,upto_next (p:=fun j=>nodeB L j=true) hp hok⟩,by omega,weak_of ?_ ?_⟩<;>(try simp (disch:=omega) only [go_sem])<;>(try first|done|omega|rfl|exact ⟨rfl,rfl⟩|trivial)
 ·have he:x=L.length:=by omega
  subst he
  have hb:listsB L=true:=listsB_iff.2 ⟨⟨hn1,hn8⟩,hp⟩
  have hr:rdR L=.own 56 1 ((setsOf L).map U):=by unfold rdR;rw [hb];rfl
  have hA:fillL L.length L.length (fun i=>U (setAt L i)) (U 0)=(setsOf L).map U:=by unfold setsOf;rw [fill_all,List.map_map];rfl
  rw [hA]
  (repeat (with_reducible first|refine W_seq fun K hK=>?_|refine J_exit ?_|refine J_ret ?_|refine J_region ?_ |(refine Kont.go (by assumption) ?_)|(simp (config:={ maxSteps:=3000000 }) (disch:=omega) only [go_sem,↓reduceIte])))
  rw [hb,hr]
  refine ⟨_,⟨rfl,rfl⟩,by simp,?_,fun x hx=>by rcases List.mem_singleton.1 hx with rfl;exact .v _⟩
  have hl:((setsOf L).map U).length=L.length:=by unfold setsOf;simp
  exact ⟨0,by rw [hl],rfl,fun x hx=>by obtain ⟨y,_,rfl⟩:=List.mem_map.1 hx;exact .v _⟩
end Go.Proofs.YtgjnbcfencallaaDoor
set_option linter.unusedVariables false
set_option linter.unusedSimpArgs false
namespace Go.Proofs.YtgjnbcfencallaaDoor
open Go Go.RowKit
theorem set_mem {l:List Int} {n v:Nat} (h:risB n l=true):(setI l).testBit v=decide ((v:Int)∈l):=by
 have hnn:=(ris_nn (x:=l.length) (risB_iff.1 h)).2
 rw [setI_bit]
 by_cases hm:(v:Int)∈l
 ·rw [decide_eq_true hm]
  exact List.any_eq_true.2 ⟨_,hm,decide_eq_true (by omega)⟩
 ·rw [decide_eq_false hm]
  rw [List.any_eq_false]
  intro x hx hd
  obtain ⟨j,hj,e⟩:=List.getElem_of_mem hx
  have h0:=hnn j hj
  rw [lget_lt l 0 hj,e] at h0
  have:=of_decide_eq_true hd
  exact hm (by rw [show (v:Int)=x by omega];exact hx)
set_option maxRecDepth 100000 in
set_option maxHeartbeats 4000000 in
theorem listsOK_w (L:List (List Int)) (hL:OkIss L):Good Tryd.prog 36 [.fz 1 (L.map ints)] (Bo (listsB L)):=by
 obtain ⟨hLl,hLr⟩:=hL
 refine good_of Tryd.func36 rfl (by kernel_rfl) fun X hO hrd=>?_;rw [Tryd.ntmps36,Tryd.results36];simp only [ast0,List.map_cons,List.map_nil,List.length_cons,List.length_nil,Nat.reduceAdd,Nat.reduceSub,List.replicate_succ,List.replicate_zero,List.cons_append,List.nil_append]
 by_cases h1:1≤L.length∧L.length≤8
 case neg =>
  have hb:listsB L=false:=by
   cases h:listsB L with
   | false=>rfl
   | true=>exact absurd (listsB_iff.1 h).1 h1
  rw [hb]
  by_cases h2:(L.length:Int)<1
  ·(repeat (with_reducible first|refine W_seq fun K hK=>?_|refine J_ret ?_|refine J_region ?_ |refine J_c ?_|refine Jc_true ?_|exact Frz.f _|(refine Kont.go (by assumption) ?_)|(simp (config:={ maxSteps:=3000000 }) (disch:=omega) only [go_sem,List.length_map,h2,true_and])))
  ·have h3:(8:Int)<(L.length:Int):=by omega
   (repeat (with_reducible first|refine W_seq fun K hK=>?_|refine J_ret ?_|refine J_region ?_ |refine J_c ?_|refine Jc_true ?_|exact Frz.f _|(refine Kont.go (by assumption) ?_)|(simp (config:={ maxSteps:=3000000 }) (disch:=omega) only [go_sem,List.length_map,h2,h3,true_and])))
 obtain ⟨hn1,hn8⟩:=h1
 have h2:¬(L.length:Int)<1:=by omega
 have h3:¬(8:Int)<(L.length:Int):=by omega
 (repeat (with_reducible first|refine W_seq fun K hK=>?_|refine J_block ?_|refine J_skip ?_|refine J_region ?_ |refine J_c ?_|refine Jc_false ?_|(refine Kont.go (by assumption) ?_)|(simp (config:={ maxSteps:=3000000 }) (disch:=omega) only [go_sem,List.length_map,h2,h3,true_and])))
 refine W_loop [2,3,4,5,14,15,16,17,18,19,20,21,22,23,24,25,26,27,28,29,30,31,32,33,34,35,36,37] (fun x:Nat=>[(3,.f (I x))]) (fun x:Nat=>[]) (fun x:Nat=>x≤L.length∧∀j,j<x→nodeB L j=true) (fun x:Nat=>L.length-x) (0) (⟨Nat.zero_le _,fun j h=>by omega⟩) (by refine weak_of ?_ ?_<;>simp (disch:=omega) only [go_sem]<;>first|rfl|exact ⟨rfl,rfl⟩|exact Or.inl rfl|exact ⟨Or.inl rfl,Or.inl rfl⟩|trivial|assumption|omega|(symm;assumption)|((repeat' apply And.intro)<;>first|rfl|omega|trivial|exact .inl rfl|exact .inr ⟨rfl,rfl⟩|exact .inr rfl|(right;symm;assumption)|(symm;assumption)|assumption)) ?_
 rintro x ⟨hx,hp⟩
 simp only [go_sem]
 (repeat (with_reducible first|refine W_seq fun K hK=>?_|refine J_region ?_ |refine J_c ?_|(refine Kont.go (by assumption) ?_)|(simp (config:={ maxSteps:=3000000 }) (disch:=omega) only [go_sem,List.length_map])))
 refine Jc_if (fun hxl=>?_) (fun hxl=>?_)<;>try simp only [decide_eq_true_eq,decide_eq_false_iff_not] at hxl
 ·have g1:=map_get ints L hxl
  have g3:L.getD x []=L[x]:=lget_lt L [] hxl
  have hlr:=hLr _ (List.getElem_mem hxl)
  have hr:=rising_w (n:=L.length) L[x] (by omega) hlr.2 hlr.1
  have hin:=rin_w (x:Int) L[x] (by omega) hlr.1
  have hns:nodeB L x=(risB L.length L[x]&&!(readS L.length L[x]).testBit x):=by unfold nodeB;rw [g3]
  have hbad:nodeB L x=false→listsB L=false:=fun h=>by
   cases hb:listsB L with
   | false=>rfl
   | true=>have:=(listsB_iff.1 hb).2 x hxl;rw [h] at this;cases this
  (repeat (with_reducible first|refine W_seq fun K hK=>?_|refine J_block ?_|refine J_skip ?_|refine J_region ?_ |(refine Kont.go (by assumption) ?_)|(simp (config:={ maxSteps:=3000000 }) (disch:=omega) only [go_sem,↓reduceIte,g1,List.length_map,true_and])))
  refine call_f hr rfl ?_
  (repeat (with_reducible first|refine W_seq fun K hK=>?_|refine J_region ?_ |(refine Kont.go (by assumption) ?_)|(simp (config:={ maxSteps:=3000000 }) (disch:=omega) only [go_sem,↓reduceIte,g1,true_and])))
  refine call_f hin rfl ?_
  cases hb1:risB L.length L[x] with
  | false =>
   have hb:=hbad (by rw [hns,hb1];rfl)
   (repeat (with_reducible first|refine W_seq fun K hK=>?_|refine J_ret ?_|refine J_region ?_ |refine J_c ?_|refine Jc_true ?_|(refine Kont.go (by assumption) ?_)|(simp (config:={ maxSteps:=3000000 }) (disch:=omega) only [go_sem])))
   rw [hb];exact Frz.f _
  | true =>
   have hsm:=set_mem (v:=x) hb1
   have hrs:readS L.length L[x]=setI L[x]:=by unfold readS;rw [if_pos hb1]
   rw [hrs,hsm,hb1] at hns
   cases hb2:decide ((x:Int)∈L[x]) with
   | true =>
    have hb:=hbad (by rw [hns,hb2];rfl)
    (repeat (with_reducible first|refine W_seq fun K hK=>?_|refine J_ret ?_|refine J_region ?_ |refine J_c ?_|refine Jc_true ?_|(refine Kont.go (by assumption) ?_)|(simp (config:={ maxSteps:=3000000 }) (disch:=omega) only [go_sem])))
    rw [hb];exact Frz.f _
   | false =>
    have hok:nodeB L x=true:=by rw [hns,hb2];rfl
    (repeat (with_reducible first|refine W_seq fun K hK=>?_|refine J_skip ?_|refine J_region ?_ |refine J_c ?_|refine Jc_false ?_|(refine Kont.go (by assumption) ?_)|(simp (config:={ maxSteps:=3000000 }) (disch:=omega) only [go_sem])))
    refine ⟨x+1,⟨by omega,upto_next (p:=fun j=>nodeB L j=true) hp hok⟩,by omega,weak_of ?_ ?_⟩<;>(try simp (disch:=omega) only [go_sem])<;>(try first|done|omega|rfl|exact ⟨rfl,rfl⟩|trivial)
 ·have he:x=L.length:=by omega
  subst he
  have hb:listsB L=true:=listsB_iff.2 ⟨⟨hn1,hn8⟩,hp⟩
  (repeat (with_reducible first|refine W_seq fun K hK=>?_|refine J_exit ?_|refine J_ret ?_|refine J_region ?_ |(refine Kont.go (by assumption) ?_)|(simp (config:={ maxSteps:=3000000 }) (disch:=omega) only [go_sem,↓reduceIte])))
  rw [hb];exact Frz.f _
end Go.Proofs.YtgjnbcfencallaaDoor
