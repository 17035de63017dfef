/- Clones of slices that hold nothing; closures of a list; merging: walked. Conditions: none. -/
import Derived.Test.YtgjnbcfencallaaDoorZB18
set_option linter.unusedVariables false
set_option linter.unusedSimpArgs false
namespace Go.Proofs.YtgjnbcfencallaaDoor
open Go Go.RowKit
theorem J_asFz {X:Cx} {P:Program} {c:Code} {Q:Exit→AS→Prop} {t:List AV} {H:AH} {j sz cap:Nat} {a:Option Addr} (hj:t[j]?=some (.f (.v (.slice a 0 cap)))) (hm:cap≤maxLen) (h:J X P c Q ⟨t.set j (.f (.fz sz [])),H⟩):J X P c Q ⟨t,H⟩:=fun hk b w ⟨F,loc,R⟩=>h hk b w ⟨F,loc,by
 refine ⟨R.hF,R.hG,R.hN,R.below,R.defers,by show (t.set j _).length=_;rw [List.length_set];exact R.len,fun i x hi=>?_,R.obj,R.new,R.nF,R.inj⟩
 by_cases e:i=j
 ·subst e
  have hi:(t.set i (.f (.fz sz [])))[i]?=some x:=hi
  rw [List.getElem?_set_self (glt hj)] at hi
  cases hi
  have:=R.tmps i _ hj
  generalize b.tmps.getD i undef=u at this ⊢
  cases this with|f _ _ h=>cases h;exact .f _ _ (.fz0 _ _ _ hm)
 ·have hi:(t.set j (.f (.fz sz [])))[i]?=some x:=hi
  rw [List.getElem?_set_ne (Ne.symm e)] at hi
  exact R.tmps i x hi⟩
theorem callU_O {P:Program} {f:FuncId} {zs:List FV} {r:RV} (hg:GoodO P f zs r) {X:Cx} {w:World} {F:Nat→Prop} {loc:Nat→Nat × Nat} {t:List AV} {H:AH} {a:Act} {ys:Array Value} (R:RelF X F loc ⟨t,H⟩ a w) (hys:RepFL w F zs ys) :
  Calls P f ys w fun e w'=>∃y F' loc',e=.returned y∧RelF X F' loc' ⟨t,H++r.hp⟩ a w'∧Rep w' F' loc' (H++r.hp).length (r.av H.length) y:=by
 refine (hg.2 w F ys R.tabW R.hF hys).mono ?_
 rintro e w' ⟨v,rfl,hb,hr⟩
 have R':=R.step hb (fun b h=>h) (fun b h=>beyond_step_le hb b (R.hF b h)) (fun b h=>.inl h)
 obtain ⟨loc',h1,h2⟩:=R'.result rfl hr R.below.size R.hF (fun b h=>R.live_lt (.inr h))
 exact ⟨v,F,loc',rfl,h1,h2⟩
set_option maxRecDepth 100000 in
theorem cloneN_w (cap:Nat):GoodO Tryd.prog 59 [.v (.slice none 0 cap)] (.f (.v (.slice none 0 0))):=by
 refine goodO_of Tryd.func59 rfl (by kernel_rfl) fun X hO hrd=>?_;rw [Tryd.ntmps59,Tryd.results59];simp only [ast0,List.map_cons,List.map_nil,List.length_cons,List.length_nil,Nat.reduceAdd,Nat.reduceSub,List.replicate_succ,List.replicate_zero,List.cons_append,List.nil_append]
 (repeat (with_reducible first|refine W_seq fun K hK=>?_|refine J_region ?_ |(refine Kont.go (by assumption) ?_)|(simp (config:={ maxSteps:=3000000 }) (disch:=omega) only [go_sem])))
 refine ⟨.slice none 0 cap,.slice none 0 0,true,rfl,rfl,fun w=>by kernel_rfl,?_⟩
 (repeat (with_reducible first|refine W_seq fun K hK=>?_|refine J_ret ?_|refine J_region ?_ |refine J_c ?_|refine Jc_true ?_|(refine Kont.go (by assumption) ?_)|(simp (config:={ maxSteps:=3000000 }) (disch:=omega) only [go_sem])))
 exact ⟨rfl,.v _⟩
set_option maxRecDepth 100000 in
theorem cloneE_w (a:Addr) (cap:Nat) (hm:cap≤maxLen):GoodO Tryd.prog 59 [.v (.slice (some a) 0 cap)] (.own 3 1 []):=by
 refine goodO_of Tryd.func59 rfl (by kernel_rfl) fun X hO hrd=>?_;rw [Tryd.ntmps59,Tryd.results59];simp only [ast0,List.map_cons,List.map_nil,List.length_cons,List.length_nil,Nat.reduceAdd,Nat.reduceSub,List.replicate_succ,List.replicate_zero,List.cons_append,List.nil_append]
 (repeat (with_reducible first|refine W_seq fun K hK=>?_|refine J_region ?_ |(refine Kont.go (by assumption) ?_)|(simp (config:={ maxSteps:=3000000 }) (disch:=omega) only [go_sem])))
 refine ⟨.slice (some a) 0 cap,.slice none 0 0,false,rfl,rfl,fun w=>by kernel_rfl,?_⟩
 (repeat (with_reducible first|refine W_seq fun K hK=>?_|refine J_skip ?_|refine J_c ?_|refine Jc_false ?_|(refine Kont.go (by assumption) ?_)|(simp (config:={ maxSteps:=3000000 }) (disch:=omega) only [go_sem])))
 refine J_asFz (j:=0) (sz:=1) rfl hm ?_
 simp only [go_sem]
 (repeat (first|(with_reducible first|refine J_ret ?_|refine J_region ?_ |refine aApp_old ?_|(refine Kont.go (by assumption) ?_)|(simp (config:={ maxSteps:=3000000 }) (disch:=omega) only [go_sem]))|refine And.intro (by omega) ?_))
 exact ⟨1,rfl,rfl,fun x hx=>by cases hx⟩
theorem clone_e (H:AH):CallU Tryd.prog 59 [.f (.fz 1 [])] H (fun u G=>(u=.f (.v (.slice none 0 0))∧G=H)∨(u=.own H.length 1 0 0∧G=H++[some ⟨3,1,[]⟩])):=by
 refine ⟨(cloneN_w 0).1,fun X w F loc t a ys R hys=>?_⟩
 obtain ⟨hl,hr⟩:=hys
 have h1:ys.size=1:=hl.symm
 have h0:=hr 0 _ rfl
 obtain ⟨u,rfl⟩:=Array.size_eq_one_iff.1 h1
 replace h0:Rep w F loc H.length (.f (.fz 1 [])) u:=h0
 obtain ⟨ad,cap,hm,rfl⟩:∃ad cap,cap≤maxLen∧u=.slice ad 0 cap:=by
  cases h0 with|f _ _ h =>
   generalize he:([]:List FV)=es at h
   cases h with
   | fz0 _ a cap hm=>exact ⟨a,cap,hm,rfl⟩
   | fz _ _ b off cap _ _ hm=>subst he;exact ⟨_,cap,hm,rfl⟩
 have hy:RepFL w F [.v (.slice ad 0 cap)] #[.slice ad 0 cap]:=⟨rfl,fun j x hj=>by
  match j,hj with
  | 0,hj=>cases hj;exact .v _
  | j+1,hj=>simp at hj⟩
 cases ad with
 | none =>
  refine (callU_O (cloneN_w cap) R hy).mono ?_
  rintro e w' ⟨y,F',loc',he,hR,hrep⟩
  exact ⟨y,F',loc',_,_,.inl ⟨rfl,rfl⟩,he,by simpa [RV.hp] using hR,by simpa [RV.hp,RV.av] using hrep⟩
 | some ad =>
  refine (callU_O (cloneE_w ad cap hm) R hy).mono ?_
  rintro e w' ⟨y,F',loc',he,hR,hrep⟩
  exact ⟨y,F',loc',_,_,.inr ⟨rfl,rfl⟩,he,hR,hrep⟩
set_option maxRecDepth 100000 in
theorem inA_w (A:List Int) (hA:A.length≤140737488355328) (v:Int):Good Tryd.prog 62 [I v,.fp (ints A) 0] (Bo (decide (v∈A))):=by
 have hc:=contZ_w (k:=v) hA
 refine good_of Tryd.func62 rfl (by kernel_rfl) fun X hO hrd=>?_;rw [Tryd.ntmps62,Tryd.results62];simp only [ast0,List.map_cons,List.map_nil,List.length_cons,List.length_nil,Nat.reduceAdd,Nat.reduceSub,List.replicate_succ,List.replicate_zero,List.cons_append,List.nil_append]
 (repeat (with_reducible first|refine W_seq fun K hK=>?_|refine J_region ?_ |(refine Kont.go (by assumption) ?_)|(simp (config:={ maxSteps:=3000000 }) (disch:=omega) only [go_sem,↓reduceIte])))
 (first|refine call_f (hc) rfl ?_|refine callQ_f (hc) rfl ?_|refine callHK_f (hc) rfl ?_|refine callH_f (hc) rfl ?_)
 (repeat (with_reducible first|refine J_ret ?_|exact Frz.f _|(refine Kont.go (by assumption) ?_)|(simp (config:={ maxSteps:=3000000 }) (disch:=omega) only [go_sem])))
set_option maxRecDepth 100000 in
theorem delete0_w {g:FuncId} {b:List FV}:Good Tryd.prog 61 [.v (.slice none 0 0),.fn g [] b] (.v (.slice none 0 0)):=by
 have hc:=indexFuncZ_w (l:=[]) (g:=g) (b:=b) (p:=fun _=>false) (by simp) (fun v hv=>by cases hv)
 rw [show frsI (fun i=>(fun _=>false) ([].getD i (0:Int))) ([]:List Int).length=-1 from frsI_none (fun j h=>rfl)] at hc
 refine good_of Tryd.func61 rfl (by kernel_rfl) fun X hO hrd=>?_;rw [Tryd.ntmps61,Tryd.results61];simp only [ast0,List.map_cons,List.map_nil,List.length_cons,List.length_nil,Nat.reduceAdd,Nat.reduceSub,List.replicate_succ,List.replicate_zero,List.cons_append,List.nil_append]
 (repeat (with_reducible first|refine W_seq fun K hK=>?_|refine J_region ?_ |(refine Kont.go (by assumption) ?_)|(simp (config:={ maxSteps:=3000000 }) (disch:=omega) only [go_sem])))
 refine call_ff (vs:=[_,_]) hc (FrzL.cons (.nil _) (FrzL.cons (.f _) (FrzL.nil _))) ?_
 (repeat (with_reducible first|refine W_seq fun K hK=>?_|refine J_ret ?_|refine J_region ?_ |refine J_c ?_|refine Jc_true ?_|exact Frz.f _|(refine Kont.go (by assumption) ?_)|(simp (config:={ maxSteps:=3000000 }) (disch:=omega) only [go_sem,Int.reduceNeg])))
def knT (x w:List Int) (v:Nat):Bool:=decide ((v:Int)∈x)||decide ((v:Int)∈w)
def knI (n:Nat) (x w:List Int):List Int:=((List.range n).filter (knT x w)).map fun v:Nat=>(v:Int)
theorem knI_next {n:Nat} {x w:List Int}:knI (n+1) x w=knI n x w++if knT x w n=true then [(n:Int)] else []:=by
 unfold knI
 rw [List.range_succ,List.filter_append,List.map_append]
 congr 1
 cases e:knT x w n<;>simp [e]
theorem knI_len {n:Nat} {x w:List Int}:(knI n x w).length≤n:=by
 unfold knI
 rw [List.length_map]
 exact Nat.le_trans (List.length_filter_le _ _) (by simp)
set_option maxRecDepth 100000 in
set_option maxHeartbeats 8000000 in
theorem merged_w (x w:List Int) (hx:OkNs x) (hw:OkNs w) (n:Nat) (hn:n≤8):GoodO Tryd.prog 65 [ints x,ints w,I (n:Int)] (rvZ (knI n x w)):=by
 obtain ⟨R,hR⟩:∃R,R=rvZ (knI n x w):=⟨_,rfl⟩
 have hend:∀{H:AH} {r:Nat},H[r]?=some (ob 3 1 ((knI n x w).map I))→ownR H (sl r 1 ((knI n x w).map I)) R:=fun h=>by rw [hR];exact rvZ_end h
 rw [←hR]
 refine goodO_of Tryd.func65 rfl (by kernel_rfl) fun X hO hrd=>?_;rw [Tryd.ntmps65,Tryd.results65];simp only [ast0,List.map_cons,List.map_nil,List.length_cons,List.length_nil,Nat.reduceAdd,Nat.reduceSub,List.replicate_succ,List.replicate_zero,List.cons_append,List.nil_append]
 (repeat (with_reducible first|refine W_seq fun K hK=>?_|((fail_if_success refine J_region (id:=2) ?_);refine J_region ?_) |(refine Kont.go (by assumption) ?_)|(simp (config:={ maxSteps:=3000000 }) (disch:=omega) only [go_sem])))
 refine J_reserve ?_
 have h0:AV.f (.v (.slice none 0 0))=sl 0 1 ((knI 0 x w).map I):=rfl
 (repeat (with_reducible first|refine J_block ?_|refine J_region ?_ |(refine Kont.go (by assumption) ?_)|(simp (config:={ maxSteps:=3000000 }) (disch:=omega) only [go_sem])))
 refine W_loop [7,8,9,10,11,12,13,14,15,16,17,18,19,20,21,22,23,24,25,26,27,28,29] (fun k:Nat=>[(7,sl 0 1 ((knI k x w).map I)),(8,.f (I k))]) (fun k:Nat=>[ob 3 1 ((knI k x w).map I)]) (fun k:Nat=>k≤n) (fun k:Nat=>n-k) (0) (Nat.zero_le _) (by refine weak_of ?_ ?_<;>simp (disch:=omega) only [go_sem]<;>first|rfl|exact ⟨rfl,rfl⟩|exact Or.inl rfl|exact ⟨Or.inl rfl,Or.inl rfl⟩|trivial|assumption|omega|(symm;assumption)|((repeat' apply And.intro)<;>first|rfl|omega|trivial|exact .inl rfl|exact .inr ⟨rfl,rfl⟩|exact .inr rfl|(right;symm;assumption)|(symm;assumption)|assumption)) ?_
 rintro k hk
 simp only [go_sem]
 (repeat (with_reducible first|refine W_seq fun K hK=>?_|refine J_region ?_ |refine J_c ?_|(refine Kont.go (by assumption) ?_)|(simp (config:={ maxSteps:=3000000 }) (disch:=omega) only [go_sem])))
 refine Jc_if (fun hkn=>?_) (fun hkn=>?_)<;>try simp only [decide_eq_true_eq,decide_eq_false_iff_not] at hkn
 ·have c1:=rin_w (k:Int) x (by omega) hx.1
  have c2:=rin_w (k:Int) w (by omega) hw.1
  have hnx:=knI_next (n:=k) (x:=x) (w:=w)
  have hkl:=knI_len (n:=k) (x:=x) (w:=w)
  have hap:((knI k x w).length+1)*8≤140737488355328:=by omega
  (repeat (with_reducible first|refine W_seq fun K hK=>?_|refine J_block ?_|refine J_skip ?_|refine J_region ?_ |(refine Kont.go (by assumption) ?_)|(simp (config:={ maxSteps:=3000000 }) (disch:=omega) only [go_sem])))
  (first|refine call_f (c1) rfl ?_|refine callQ_f (c1) rfl ?_|refine callHK_f (c1) rfl ?_|refine callH_f (c1) rfl ?_)
  (repeat (with_reducible first|refine W_seq fun K hK=>?_|refine J_region ?_ |(refine Kont.go (by assumption) ?_)|(simp (config:={ maxSteps:=3000000 }) (disch:=omega) only [go_sem])))
  (first|refine call_f (c2) rfl ?_|refine callQ_f (c2) rfl ?_|refine callHK_f (c2) rfl ?_|refine callH_f (c2) rfl ?_)
  by_cases hT:knT x w k=true
  ·have hsn:(knI k x w).map I++[I (k:Int)]=(knI (k+1) x w).map I:=by rw [hnx,if_pos hT];exact Is_snoc
   by_cases a:(k:Int)∈x
   ·rw [decide_eq_true a]
    (repeat (first|(with_reducible first|refine W_seq fun K hK=>?_|refine J_region ?_ |refine aApp_sl ?_|refine J_c ?_|refine Jc_true ?_|(refine Kont.go (by assumption) ?_)|(simp (config:={ maxSteps:=3000000 }) (disch:=omega) only [go_sem,Nat.reduceEqDiff,↓reduceIte,Nat.reduceLeDiff,hap,hsn,List.length_map]))|refine And.intro (by omega) ?_))
    refine ⟨k+1,by omega,by omega,weak_of ?_ ?_⟩<;>(try simp (disch:=omega) only [go_sem])<;>(try first|done|omega|rfl|exact ⟨rfl,rfl⟩|trivial)
   ·have b:(k:Int)∈w:=by
     rcases Bool.or_eq_true_iff.1 hT with h|h
     ·exact absurd (of_decide_eq_true h) a
     ·exact of_decide_eq_true h
    rw [decide_eq_false a,decide_eq_true b]
    (repeat (first|(with_reducible first|refine W_seq fun K hK=>?_|refine J_region ?_ |refine aApp_sl ?_|refine J_c ?_|refine Jc_true ?_|(refine Kont.go (by assumption) ?_)|(simp (config:={ maxSteps:=3000000 }) (disch:=omega) only [go_sem,Nat.reduceEqDiff,↓reduceIte,Nat.reduceLeDiff,hap,hsn,List.length_map]))|refine And.intro (by omega) ?_))
    refine ⟨k+1,by omega,by omega,weak_of ?_ ?_⟩<;>(try simp (disch:=omega) only [go_sem])<;>(try first|done|omega|rfl|exact ⟨rfl,rfl⟩|trivial)
  ·rw [if_neg hT,List.append_nil] at hnx
   have a:¬(k:Int)∈x:=fun h=>hT (Bool.or_eq_true_iff.2 (.inl (decide_eq_true h)))
   have b:¬(k:Int)∈w:=fun h=>hT (Bool.or_eq_true_iff.2 (.inr (decide_eq_true h)))
   rw [decide_eq_false a,decide_eq_false b]
   (repeat (with_reducible first|refine W_seq fun K hK=>?_|refine J_skip ?_|refine J_region ?_ |refine J_c ?_|refine Jc_false ?_|(refine Kont.go (by assumption) ?_)|(simp (config:={ maxSteps:=3000000 }) (disch:=omega) only [go_sem])))
   refine ⟨k+1,by omega,by omega,weak_of ?_ ?_⟩<;>(try simp (disch:=omega) only [go_sem,hnx])<;>(try first|done|omega|rfl|exact ⟨rfl,rfl⟩|trivial)
 ·have he:k=n:=by omega
  subst he
  (repeat (with_reducible first|refine W_seq fun K hK=>?_|refine J_exit ?_|refine J_ret ?_|refine J_region ?_ |(refine Kont.go (by assumption) ?_)|(simp (config:={ maxSteps:=3000000 }) (disch:=omega) only [go_sem,↓reduceIte])))
  exact hend rfl
end Go.Proofs.YtgjnbcfencallaaDoor
set_option linter.unusedVariables false
set_option linter.unusedSimpArgs false
namespace Go.Proofs.YtgjnbcfencallaaDoor
open Go Go.RowKit
theorem sortedZ_ext:∀{a b:List Int},a.Pairwise (·< ·)→b.Pairwise (·< ·)→(∀v,v∈a↔v∈b)→a=b:=by
 intro a
 induction a with
 | nil=>intro b _ _ h;cases b with
  | nil=>rfl
  | cons y b=>exact absurd ((h y).2 (by simp)) (by simp)
 | cons x a ih =>
  intro b ha hb h
  cases b with
  | nil=>exact absurd ((h x).1 (by simp)) (by simp)
  | cons y b =>
   obtain ⟨ha1,ha2⟩:=List.pairwise_cons.1 ha
   obtain ⟨hb1,hb2⟩:=List.pairwise_cons.1 hb
   have e:x=y:=by
    rcases List.mem_cons.1 ((h x).1 (by simp)) with e|hx
    ·exact e
    ·rcases List.mem_cons.1 ((h y).2 (by simp)) with e|hy
     ·exact e.symm
     ·have:=ha1 y hy;have:=hb1 x hx;omega
   subst e
   rw [ih ha2 hb2 fun v=>⟨fun hv=>?_,fun hv=>?_⟩]
   ·rcases List.mem_cons.1 ((h v).1 (by simp [hv])) with e|h'
    ·subst e;have:=ha1 v hv;omega
    ·exact h'
   ·rcases List.mem_cons.1 ((h v).2 (by simp [hv])) with e|h'
    ·subst e;have:=hb1 v hv;omega
    ·exact h'
theorem knI_lt {n:Nat} {x w:List Int}:(knI n x w).Pairwise (·< ·):=by
 unfold knI
 rw [List.pairwise_map]
 exact (List.Pairwise.filter _ List.pairwise_lt_range).imp fun h=>by omega
theorem knI_mem {n:Nat} {x w:List Int} {v:Int}:v∈knI n x w↔(0≤v∧v<(n:Int))∧(v∈x∨v∈w):=by
 unfold knI
 rw [List.mem_map]
 constructor
 ·rintro ⟨a,ha,rfl⟩
  obtain ⟨h1,h2⟩:=List.mem_filter.1 ha
  have h1:=List.mem_range.1 h1
  refine ⟨by omega,?_⟩
  rcases Bool.or_eq_true_iff.1 h2 with h|h
  ·exact .inl (of_decide_eq_true h)
  ·exact .inr (of_decide_eq_true h)
 ·rintro ⟨h1,h2⟩
  obtain ⟨a,rfl⟩:∃a:Nat,v=(a:Int):=⟨v.toNat,by omega⟩
  refine ⟨a,List.mem_filter.2 ⟨List.mem_range.2 (by omega),?_⟩,rfl⟩
  exact Bool.or_eq_true_iff.2 (h2.imp (fun h=>decide_eq_true h) fun h=>decide_eq_true h)
def ruE (L:List (List Int)) (x y z w:List Int):Int:=setsE L [x,y,z,w]
def ruA (L:List (List Int)) (x w:List Int):List Int:=(abvL (cutI L x []) w).map Int.ofNat
def ruP (L:List (List Int)) (x w:List Int) (v:Int):Bool:=decide (v∈ruA L x w)
def ruF (L:List (List Int)) (x z w:List Int):List Int:=kepT (ruP L x w) z
def ruB (L:List (List Int)) (k:Int) (x y z w:List Int):Bool:=if ruE L x y z w≠0 then false else
 if k=1 then aprB (cutI L x []) y z (knI L.length x w) else if k=2 then aprB (cutI L x z) y z (knI L.length x w) else if k=3 then aprB (cutI L (x++ruF L x z w) []) y z (knI L.length x w) else false
def ruC (L:List (List Int)) (k:Int) (x y z w:List Int):Int:=if ruE L x y z w≠0 then ruE L x y z w else if k=1 then 0 else if k=2 then 0 else if k=3 then 0 else 15
structure RuOk (L : List (List Int)) (x y z w : List Int) : Prop where
  ord : ordE L = 0
  rx : risB L.length x = true
  ry : risB L.length y = true
  rz : risB L.length z = true
  rw' : risB L.length w = true
  ap : apOk L.length [y, z, knI L.length x w] = true
  srt : srtI (x ++ w) = knI L.length x w
theorem ru_ok {L:List (List Int)} {x y z w:List Int} (h:ruE L x y z w=0):RuOk L x y z w:=by
 obtain ⟨h0,ha⟩:=sets_ok h
 obtain ⟨h1,h2⟩:=Bool.and_eq_true_iff.1 ha
 have h2:=of_decide_eq_true h2
 have hall:=List.all_eq_true.1 h1
 have rx:=hall x (by simp)
 have ry:=hall y (by simp)
 have rz:=hall z (by simp)
 have rw':=hall w (by simp)
 have e:[x,y,z,w].flatten=x++(y++(z++w)):=by simp
 rw [e,List.nodup_append,List.nodup_append,List.nodup_append] at h2
 obtain ⟨nx,⟨ny,⟨nz,nw,dzw⟩,dy⟩,dx⟩:=h2
 have hxw:(x++w).Nodup:=List.nodup_append.2 ⟨nx,nw,fun a ha b hb=>dx a ha b (by simp [hb])⟩
 have hxr:=(ris_pw.1 rx).2
 have hwr:=(ris_pw.1 rw').2
 have hkn:risB L.length (knI L.length x w)=true:=ris_pw.2 ⟨knI_lt,fun v hv=>(knI_mem.1 hv).1⟩
 refine ⟨h0,rx,ry,rz,rw',?_,?_⟩
 ·unfold apOk
  refine Bool.and_eq_true_iff.2 ⟨by simp [ry,rz,hkn],decide_eq_true ?_⟩
  have e:[y,z,knI L.length x w].flatten=y++(z++knI L.length x w):=by simp
  rw [e,List.nodup_append,List.nodup_append]
  refine ⟨ny,⟨nz,knI_lt.imp fun h=>by omega,fun a ha b hb=>?_⟩,fun a ha b hb=>?_⟩
  ·rcases (knI_mem.1 hb).2 with h|h
   ·exact fun e=>dx b h a (by simp [ha]) e.symm
   ·exact dzw a ha b h
  ·rcases List.mem_append.1 hb with hb|hb
   ·exact dy a ha b (by simp [hb])
   ·rcases (knI_mem.1 hb).2 with h|h
    ·exact fun e=>dx b h a (by simp [ha]) e.symm
    ·exact dy a ha b (by simp [h])
 ·have hsn:(srtI (x++w)).Nodup:=(srtI_nodup _).2 hxw
  refine sortedZ_ext ?_ knI_lt fun v=>?_
  ·have h1:=List.pairwise_iff_getElem.1 (srtI_le (x++w))
   have h2:=List.pairwise_iff_getElem.1 hsn
   exact List.pairwise_iff_getElem.2 fun i j hi hj hij=>by
    have a:=h1 i j hi hj hij
    have b:=h2 i j hi hj hij
    omega
  ·have hm:v∈srtI (x++w)↔v∈x++w:=(List.mergeSort_perm (x++w) _).mem_iff
   rw [hm,knI_mem,List.mem_append]
   exact ⟨fun h=>⟨h.elim (hxr v) (hwr v),h⟩,fun h=>h.2⟩
theorem kn_ok {n:Nat} {x w:List Int} (hn:n≤8):OkNs (knI n x w):=by
 have:=knI_len (n:=n) (x:=x) (w:=w)
 exact ⟨by omega,fun v hv=>by have:=(knI_mem.1 hv).1;omega⟩
theorem ruF_ok {L:List (List Int)} {x z w:List Int} (hz:OkNs z):OkNs (ruF L x z w):=⟨Nat.le_trans kepT_len hz.1,fun v hv=>hz.2 v (List.mem_filter.1 hv).1⟩
theorem okApp {x z:List Int} {n:Nat} (hx:OkNs x) (hz:OkNs z) (h:x.length+z.length≤16):OkNs (x++z):=⟨by rw [List.length_append];omega,fun v hv=>(List.mem_append.1 hv).elim (hx.2 v) (hz.2 v)⟩
theorem ru_above {L:List (List Int)} {x w:List Int} (h0:ordE L=0) (hw:risB L.length w=true) {v:Int} (hv:0≤v∧v<(L.length:Int)):anO (setsOf (cutI L x [])) L.length (setI w) v.toNat=ruP L x w v:=by
 have hco:ordE (cutI L x [])=0:=cut_ord h0
 have e:abvL (cutI L x []) w=els (abv (setsOf (cutI L x [])) L.length (setI w)):=by
  unfold abvL
  rw [if_pos ⟨hco,by rw [cutI_len];exact hw⟩,cutI_len]
 have hn8:=(GP.of (ord_ok h0).1).n8
 unfold ruP ruA
 rw [Bool.eq_iff_iff,decide_eq_true_eq,e,List.mem_map]
 constructor
 ·intro h
  exact ⟨v.toNat,els_mem.2 ⟨by omega,by rw [abv_bit,h,decide_eq_true (by omega)];rfl⟩,by simp;omega⟩
 ·rintro ⟨a,ha,rfl⟩
  have ha:=(els_mem.1 ha).2
  rw [abv_bit,Bool.and_eq_true] at ha
  exact ha.2
theorem isOne {L:List (List Int)} (h0:ordE L=0) {x w:List Int} (hw:risB L.length w=true) {v:Int} (hv:0≤v∧v<(L.length:Int)) :
  Good Tryd.prog 41 [.fz 1 ((cutI L x []).map ints),I v,ints w] (Bo (ruP L x w v)):=by
 obtain ⟨hb,o,ho⟩:=ord_ok (L:=cutI L x []) (cut_ord h0)
 have hg:=GP.of hb
 obtain ⟨rk,_,hrk⟩:=ord_rank hg.pa ho
 have hn8:=(GP.of (ord_ok h0).1).n8
 rw [cutI_len] at hg
 have h:=aboveOne_w hg hrk (s:=setI w) (a:=v.toNat) (by omega) (fun u hu=>setI_mem hw hu)
 rw [ru_above h0 hw hv,←ris_Is hn8 hw,Int.toNat_of_nonneg hv.1] at h
 rw [gvs_of hb]
 exact h
end Go.Proofs.YtgjnbcfencallaaDoor
set_option linter.unusedVariables false
set_option linter.unusedSimpArgs false
namespace Go.Proofs.YtgjnbcfencallaaDoor
open Go Go.RowKit
theorem sets4 {x y z w:List Int} (hx:OkNs x) (hy:OkNs y) (hz:OkNs z) (hw:OkNs w):∀l∈[x,y,z,w],OkNs l:=fun l hl=>by
 simp only [List.mem_cons,List.not_mem_nil,or_false] at hl
 rcases hl with rfl|rfl|rfl|rfl<;>assumption
set_option maxRecDepth 100000 in
set_option maxHeartbeats 8000000 in
theorem rrule_w (L:List (List Int)) (hL:OkIss L) (k:Int) (hk:-9223372036854775808≤k∧k≤9223372036854775807) (x y z w:List Int) (hx:OkNs x) (hy:OkNs y) (hz:OkNs z) (hw:OkNs w) :
  Good Tryd.prog 29 [.fz 1 (L.map ints),I k,ints x,ints y,ints z,ints w] (Pr (ruB L k x y z w) (ruC L k x y z w)):=by
 have hs:Good Tryd.prog 64 [.fz 1 (L.map ints),.fz 1 [ints x,ints y,ints z,ints w]] (I (ruE L x y z w)):=setsOK_w L [x,y,z,w] hL (by simp) (sets4 hx hy hz hw)
 by_cases h0:ruE L x y z w=0
 case neg =>
  rw [show ruB L k x y z w=false by unfold ruB;rw [if_pos h0],show ruC L k x y z w=ruE L x y z w by unfold ruC;rw [if_pos h0]]
  refine good_of Tryd.func29 rfl (by kernel_rfl) fun X hO hrd=>?_;rw [Tryd.ntmps29,Tryd.results29];simp only [ast0,List.map_cons,List.map_nil,List.length_cons,List.length_nil,Nat.reduceAdd,Nat.reduceSub,List.replicate_succ,List.replicate_zero,List.cons_append,List.nil_append]
  (repeat (first|(with_reducible first|refine W_seq fun K hK=>?_|refine J_region ?_ |(refine Kont.go (by assumption) ?_)|(simp (config:={ maxSteps:=3000000 }) (disch:=omega) only [go_sem,↓reduceIte,Nat.reduceAdd]))|refine And.intro (by omega) ?_))
  refine call_fl hs (.v _) (FrzL.cons (.f _) (FrzL.cons (Frz.own0 (ds:=[ints x,ints y,ints z,ints w]) rfl rfl) (FrzL.nil _))) ?_
  (repeat (with_reducible first|refine W_seq fun K hK=>?_|refine J_ret ?_|refine J_region ?_ |refine J_c ?_|refine Jc_true ?_|(refine Kont.go (by assumption) ?_)|(simp (config:={ maxSteps:=3000000 }) (disch:=omega) only [go_sem,h0])))
  exact ⟨_,rfl,FrzL.fs [_,_]⟩
 obtain ⟨ho,rx,ry,rz,rw',hap,_⟩:=ru_ok h0
 have hn8:=(GP.of (ord_ok ho).1).n8
 have hr8:=cut_rows8 ho
 have hzl:=ris_len8 hn8 rz
 have hxl:=ris_len8 hn8 rx
 have hzr:=(ris_pw.1 rz).2
 have hB:ruB L k x y z w=if k=1 then aprB (cutI L x []) y z (knI L.length x w) else if k=2 then aprB (cutI L x z) y z (knI L.length x w) else if k=3 then aprB (cutI L (x++ruF L x z w) []) y z (knI L.length x w) else false:=by unfold ruB;rw [if_neg (by omega)]
 have hC:ruC L k x y z w=if k=1 then 0 else if k=2 then 0 else if k=3 then 0 else 15:=by unfold ruC;rw [if_neg (by omega)]
 obtain ⟨b,hb⟩:∃b,b=ruB L k x y z w:=⟨_,rfl⟩
 obtain ⟨c,hc⟩:∃c,c=ruC L k x y z w:=⟨_,rfl⟩
 rw [←hb] at hB
 rw [←hc] at hC
 rw [←hb,←hc]
 have hkn:=kn_ok (x:=x) (w:=w) hn8
 have hme:=Good.ofO (merged_w x w hx hw L.length hn8)
 have hc1:=rcut_w L x [] hL hn8 hx ok_nil hr8
 have hq:∀A B,Good Tryd.prog 16 [.fz 1 ((cutI L A B).map ints),ints y,ints z,ints (knI L.length x w)] (.tup [Bo (aprB (cutI L A B) y z (knI L.length x w)),I 0]):=fun A B=>by
  have:=rApart_w (cutI L A B) (cutI_ok hL) y z (knI L.length x w) hy hz hkn
  rwa [apr_zero ho hap] at this
 have ho1:OkIss (cutI L x []):=cutI_ok hL
 have hl1:(cutI L x []).length≤8:=by rw [cutI_len];exact hn8
 have hr1:=cut_rows8 (cut_ord (A:=x) (B:=[]) ho)
 obtain ⟨K,hK⟩:∃K,K=knI L.length x w:=⟨_,rfl⟩
 rw [←hK] at hme hB
 simp only [←hK] at hq
 refine good_of Tryd.func29 rfl (by kernel_rfl) fun X hO hrd=>?_;rw [Tryd.ntmps29,Tryd.results29];simp only [ast0,List.map_cons,List.map_nil,List.length_cons,List.length_nil,Nat.reduceAdd,Nat.reduceSub,List.replicate_succ,List.replicate_zero,List.cons_append,List.nil_append]
 (repeat (first|(with_reducible first|refine W_seq fun K hK=>?_|refine J_region ?_ |(refine Kont.go (by assumption) ?_)|(simp (config:={ maxSteps:=3000000 }) (disch:=omega) only [go_sem,↓reduceIte,Nat.reduceAdd]))|refine And.intro (by omega) ?_))
 refine call_fl hs (.v _) (FrzL.cons (.f _) (FrzL.cons (Frz.own0 (ds:=[ints x,ints y,ints z,ints w]) rfl rfl) (FrzL.nil _))) ?_
 (repeat (with_reducible first|refine W_seq fun K hK=>?_|refine J_skip ?_|refine J_region ?_ |refine J_c ?_|refine Jc_false ?_|(refine Kont.go (by assumption) ?_)|(simp (config:={ maxSteps:=3000000 }) (disch:=omega) only [go_sem,h0,List.length_map])))
 (first|refine call_f (hme) rfl ?_|refine callQ_f (hme) rfl ?_|refine callHK_f (hme) rfl ?_|refine callH_f (hme) rfl ?_)
 (repeat (with_reducible first|refine W_seq fun K hK=>?_|refine J_region ?_ |(refine Kont.go (by assumption) ?_)|(simp (config:={ maxSteps:=3000000 }) (disch:=omega) only [go_sem])))
 refine call_ff (vs:=[_,_,_]) hc1 (FrzL.cons (.f _) (FrzL.cons (.f _) (FrzL.cons (.nil _) (FrzL.nil _)))) ?_
 (repeat (with_reducible first|refine W_seq fun K hK=>?_|refine J_block ?_|refine J_region ?_ |refine J_c ?_|(refine Kont.go (by assumption) ?_)|(simp (config:={ maxSteps:=3000000 }) (disch:=omega) only [go_sem])))
 refine Jc_if (fun k1=>?_) (fun k1=>?_)<;>try simp only [decide_eq_true_eq,decide_eq_false_iff_not] at k1
 ·have hp:=hq x []
  rw [if_pos k1] at hB hC
  (repeat (with_reducible first|refine W_seq fun K hK=>?_|refine J_skip ?_|refine J_region ?_ |(refine Kont.go (by assumption) ?_)|(simp (config:={ maxSteps:=3000000 }) (disch:=omega) only [go_sem])))
  (first|refine call_f (hp) rfl ?_|refine callQ_f (hp) rfl ?_|refine callHK_f (hp) rfl ?_|refine callH_f (hp) rfl ?_)
  (repeat (with_reducible first|refine J_ret ?_|(refine Kont.go (by assumption) ?_)|(simp (config:={ maxSteps:=3000000 }) (disch:=omega) only [go_sem])))
  rw [hB,hC]
  exact ⟨_,rfl,FrzL.fs [_,_]⟩
 ·rw [if_neg k1] at hB hC
  (repeat (with_reducible first|refine W_seq fun K hK=>?_|refine J_region ?_ |refine J_c ?_|(refine Kont.go (by assumption) ?_)|(simp (config:={ maxSteps:=3000000 }) (disch:=omega) only [go_sem])))
  refine Jc_if (fun k2=>?_) (fun k2=>?_)<;>try simp only [decide_eq_true_eq,decide_eq_false_iff_not] at k2
  ·have hp:=hq x z
   rw [if_pos k2] at hB hC
   have hc2:=rcut_w (cutI L x []) [] z ho1 hl1 ok_nil hz hr1
   rw [cutI_cut,List.append_nil,List.nil_append] at hc2
   (repeat (with_reducible first|refine J_region ?_ |(simp (config:={ maxSteps:=3000000 }) (disch:=omega) only [go_sem])))
   refine call_ff (vs:=[_,_,_]) hc2 (FrzL.cons (.f _) (FrzL.cons (.nil _) (FrzL.cons (.f _) (FrzL.nil _)))) ?_
   (repeat (with_reducible first|refine W_seq fun K hK=>?_|refine J_region ?_ |(refine Kont.go (by assumption) ?_)|(simp (config:={ maxSteps:=3000000 }) (disch:=omega) only [go_sem])))
   (first|refine call_f (hp) rfl ?_|refine callQ_f (hp) rfl ?_|refine callHK_f (hp) rfl ?_|refine callH_f (hp) rfl ?_)
   (repeat (with_reducible first|refine J_ret ?_|(refine Kont.go (by assumption) ?_)|(simp (config:={ maxSteps:=3000000 }) (disch:=omega) only [go_sem])))
   rw [hB,hC]
   exact ⟨_,rfl,FrzL.fs [_,_]⟩
  ·rw [if_neg k2] at hB hC
   (repeat (with_reducible first|refine W_seq fun K hK=>?_|refine J_region ?_ |refine J_c ?_|(refine Kont.go (by assumption) ?_)|(simp (config:={ maxSteps:=3000000 }) (disch:=omega) only [go_sem])))
   refine Jc_if (fun k3=>?_) (fun k3=>?_)<;>try simp only [decide_eq_true_eq,decide_eq_false_iff_not] at k3
   ·have hp:=hq (x++ruF L x z w) []
    rw [if_pos k3] at hB hC
    have hc2:=rcut_w (cutI L x []) (ruF L x z w) [] ho1 hl1 (ruF_ok hz) ok_nil hr1
    rw [cutI_cut,List.append_nil] at hc2
    have hFe:ruF L x z w=kepT (ruP L x w) z:=rfl
    obtain ⟨F,hF⟩:∃F,F=ruF L x z w:=⟨_,rfl⟩
    rw [←hF] at hp hB hc2 hFe
    refine J_drop [23,25] (by refine weak_of ?_ ?_<;>simp (disch:=omega) only [go_sem]<;>first|rfl|exact ⟨rfl,rfl⟩|exact Or.inl rfl|exact ⟨Or.inl rfl,Or.inl rfl⟩|trivial|assumption|omega|(symm;assumption)|((repeat' apply And.intro)<;>first|rfl|omega|trivial|exact .inr ⟨rfl,rfl⟩|exact .inr rfl|(right;symm;assumption)|(symm;assumption)|assumption)) ?_;simp only [go_sem]
    (repeat (with_reducible first|refine W_seq fun K hK=>?_|((fail_if_success refine J_region (id:=13) ?_);refine J_region ?_) |(refine Kont.go (by assumption) ?_)|(simp (config:={ maxSteps:=3000000 }) (disch:=omega) only [go_sem])))
    refine J_reserve ?_
    have hz0:AV.f (.v (.slice none 0 0))=sl 0 1 ((kepT (ruP L x w) (z.take 0)).map I):=rfl
    (repeat (with_reducible first|refine J_block ?_|refine J_region ?_ |(refine Kont.go (by assumption) ?_)|(simp (config:={ maxSteps:=3000000 }) (disch:=omega) only [go_sem])))
    refine W_loop [17,18,19,48,49,50,51,52,53,54,55,56,57,58,59,60,61,62,63,64,65,66,67,68,69] (fun i:Nat=>[(17,sl 0 1 ((kepT (ruP L x w) (z.take i)).map I)),(18,.f (I i))]) (fun i:Nat=>[ob 3 1 ((kepT (ruP L x w) (z.take i)).map I)]) (fun i:Nat=>i≤z.length) (fun i:Nat=>z.length-i) (0) (Nat.zero_le _) (by refine weak_of ?_ ?_<;>simp (disch:=omega) only [go_sem]<;>first|rfl|exact ⟨rfl,rfl⟩|exact Or.inl rfl|exact ⟨Or.inl rfl,Or.inl rfl⟩|trivial|assumption|omega|(symm;assumption)|((repeat' apply And.intro)<;>first|rfl|omega|trivial|exact .inl rfl|exact .inr ⟨rfl,rfl⟩|exact .inr rfl|(right;symm;assumption)|(symm;assumption)|assumption)) ?_
    rintro i hi
    simp only [go_sem]
    (repeat (with_reducible first|refine W_seq fun K hK=>?_|refine J_region ?_ |refine J_c ?_|(refine Kont.go (by assumption) ?_)|(simp (config:={ maxSteps:=3000000 }) (disch:=omega) only [go_sem,List.length_map])))
    refine Jc_if (fun hil=>?_) (fun hil=>?_)<;>try simp only [decide_eq_true_eq,decide_eq_false_iff_not] at hil
    ·have gi:=map_get I z hil
     have hone:=isOne (x:=x) ho rw' (hzr _ (List.getElem_mem hil))
     have hkx:=kepT_next (p:=ruP L x w) hil
     have hkl:(kepT (ruP L x w) (z.take i)).length≤i:=Nat.le_trans kepT_len (by rw [List.length_take];omega)
     have hal:((kepT (ruP L x w) (z.take i)).length+1)*8≤140737488355328:=by omega
     (repeat (with_reducible first|refine W_seq fun K hK=>?_|refine J_block ?_|refine J_skip ?_|refine J_region ?_ |(refine Kont.go (by assumption) ?_)|(simp (config:={ maxSteps:=3000000 }) (disch:=omega) only [go_sem,↓reduceIte,gi])))
     (first|refine call_f (hone) rfl ?_|refine callQ_f (hone) rfl ?_|refine callHK_f (hone) rfl ?_|refine callH_f (hone) rfl ?_)
     cases hpv:ruP L x w z[i] with
     | true =>
      rw [if_pos hpv,List.append_nil] at hkx
      (repeat (with_reducible first|refine W_seq fun K hK=>?_|refine J_skip ?_|refine J_region ?_ |refine J_c ?_|refine Jc_false ?_|(refine Kont.go (by assumption) ?_)|(simp (config:={ maxSteps:=3000000 }) (disch:=omega) only [go_sem])))
      refine ⟨i+1,by omega,by omega,weak_of ?_ ?_⟩<;>(try simp (disch:=omega) only [go_sem,hkx])<;>(try first|done|omega|rfl|exact ⟨rfl,rfl⟩|trivial)
     | false =>
      rw [if_neg (by rw [hpv];decide)] at hkx
      have hsn:(kepT (ruP L x w) (z.take i)).map I++[I z[i]]=(kepT (ruP L x w) (z.take (i+1))).map I:=by rw [hkx];exact Is_snoc
      (repeat (first|(with_reducible first|refine W_seq fun K hK=>?_|refine J_region ?_ |refine aApp_sl ?_|refine J_c ?_|refine Jc_true ?_|(refine Kont.go (by assumption) ?_)|(simp (config:={ maxSteps:=3000000 }) (disch:=omega) only [go_sem,Nat.reduceEqDiff,↓reduceIte,Nat.reduceLeDiff,gi,hal,hsn,List.length_map]))|refine And.intro (by omega) ?_))
      refine ⟨i+1,by omega,by omega,weak_of ?_ ?_⟩<;>(try simp (disch:=omega) only [go_sem])<;>(try first|done|omega|rfl|exact ⟨rfl,rfl⟩|trivial)
    ·have he:i=z.length:=by omega
     rw [he,List.take_length,←hFe]
     by_cases hf:F=[]
     ·have e1:sl 0 1 (F.map I)=.f (.v (.slice none 0 0)):=by rw [hf];rfl
      have e2:ints F=.fz 1 []:=by rw [hf];rfl
      rw [e2] at hc2
      rw [e1]
      (repeat (with_reducible first|refine J_exit ?_|refine J_region ?_ |(refine Kont.go (by assumption) ?_)|(simp (config:={ maxSteps:=3000000 }) (disch:=omega) only [go_sem,↓reduceIte])))
      refine call_ff (vs:=[_,_,_]) hc2 (FrzL.cons (.f _) (FrzL.cons (.nil _) (FrzL.cons (.nil _) (FrzL.nil _)))) ?_
      (repeat (with_reducible first|refine W_seq fun K hK=>?_|refine J_region ?_ |(refine Kont.go (by assumption) ?_)|(simp (config:={ maxSteps:=3000000 }) (disch:=omega) only [go_sem])))
      (first|refine call_f (hp) rfl ?_|refine callQ_f (hp) rfl ?_|refine callHK_f (hp) rfl ?_|refine callH_f (hp) rfl ?_)
      (repeat (with_reducible first|refine J_ret ?_|(refine Kont.go (by assumption) ?_)|(simp (config:={ maxSteps:=3000000 }) (disch:=omega) only [go_sem])))
      rw [hB,hC]
      exact ⟨_,rfl,FrzL.fs [_,_]⟩
     ·have hne:F.map I≠[]:=fun h=>hf (List.map_eq_nil_iff.1 h)
      have e1:sl 0 1 (F.map I)=.own 0 1 0 F.length:=by rw [sl_pos hne,List.length_map]
      have e2:ob 3 1 (F.map I)=some ⟨3,1,(F.map I).map .f⟩:=ob_pos hne
      rw [e1,e2]
      (repeat (with_reducible first|refine J_exit ?_|refine J_region ?_ |(refine Kont.go (by assumption) ?_)|(simp (config:={ maxSteps:=3000000 }) (disch:=omega) only [go_sem,↓reduceIte])))
      refine call_u (callU_fz (q:=0) hc2 rfl (FrzL.cons (.f _) (FrzL.cons (Frz.own0 rfl (by rw [List.length_map])) (FrzL.cons (.nil _) (FrzL.nil _))))) ?_
      (repeat (with_reducible first|refine W_seq fun K hK=>?_|refine J_region ?_ |(refine Kont.go (by assumption) ?_)|(simp (config:={ maxSteps:=3000000 }) (disch:=omega) only [go_sem])))
      (first|refine call_f (hp) rfl ?_|refine callQ_f (hp) rfl ?_|refine callHK_f (hp) rfl ?_|refine callH_f (hp) rfl ?_)
      (repeat (with_reducible first|refine J_ret ?_|(refine Kont.go (by assumption) ?_)|(simp (config:={ maxSteps:=3000000 }) (disch:=omega) only [go_sem])))
      rw [hB,hC]
      exact ⟨_,rfl,FrzL.fs [_,_]⟩
   ·rw [if_neg k3] at hB hC
    (repeat (with_reducible first|refine W_seq fun K hK=>?_|refine J_ret ?_|refine J_region ?_ |(refine Kont.go (by assumption) ?_)|(simp (config:={ maxSteps:=3000000 }) (disch:=omega) only [go_sem])))
    rw [hB,hC]
    exact ⟨_,rfl,FrzL.fs [_,_]⟩
end Go.Proofs.YtgjnbcfencallaaDoor
