/- Go's library of slices, at whole numbers: Index, Contains, Clone, Values, Collect, Sorted: walked, as calls of the abstract machine. Conditions: what slices may hold. -/
import Derived.Test.YthehegidpamldaaGreatDoorZB15
import Derived.Test.YthehegidpamldaaGreatDoorZB08
import Derived.Test.YthehegidpamldaaGreatDoorZB19
import Derived.Shelf.Slices.In.SortNone
import Derived.Shelf.Slices.CompactI
import Derived.Test.YthehegidpamldaaGreatDoorZB18
import Derived.Test.YthehegidpamldaaGreatDoorZB14
set_option linter.unusedVariables false
set_option linter.unusedSimpArgs false
namespace Go.Proofs.YthehegidpamldaaGreatDoor
open Go Go.RowKit Go.Shelf
set_option maxRecDepth 100000 in
theorem indexZ_w {l:List Int} {k:Int} (hl:l.length≤140737488355328):Good Tryz.prog 83 [ints l,I k] (I (frsI (fun i=>decide (l.getD i 0=k)) l.length)):=by
 refine good_of Tryz.func83 rfl (by kernel_rfl) fun X hO hrd=>?_;rw [Tryz.ntmps83,Tryz.results83];simp only [ast0,List.map_cons,List.map_nil,List.length_cons,List.length_nil,Nat.reduceAdd,Nat.reduceSub,List.replicate_succ,List.replicate_zero,List.cons_append,List.nil_append]
 (repeat (with_reducible first|refine W_seq fun K hK=>?_|refine J_block ?_|refine J_region ?_ |(refine Kont.go (by assumption) ?_)|(simp (config:={ maxSteps:=3000000 }) (disch:=omega) only [go_sem,List.length_map])))
 refine W_loop [4,5,8,9,10,11,12,13,14,15,16,17,18] (fun x:Nat=>[(8,.f (I x))]) (fun x:Nat=>[]) (fun x:Nat=>x≤l.length∧∀j,j<x→decide (l.getD j 0=k)=false) (fun x:Nat=>l.length-x) (0) (⟨Nat.zero_le _,fun j h=>by omega⟩) (by refine weak_of ?_ ?_<;>simp (disch:=omega) only [go_sem]<;>first|rfl|exact ⟨rfl,rfl⟩|exact Or.inl rfl|exact ⟨Or.inl rfl,Or.inl rfl⟩|trivial|assumption|omega|(symm;assumption)|((repeat' apply And.intro)<;>first|rfl|omega|trivial|exact .inl rfl|exact .inr ⟨rfl,rfl⟩|exact .inr rfl|(right;symm;assumption)|(symm;assumption)|assumption)) ?_
 rintro i ⟨hi,hp⟩
 simp only [go_sem]
 (repeat (with_reducible first|refine W_seq fun K hK=>?_|refine J_region ?_ |refine J_c ?_|(refine Kont.go (by assumption) ?_)|(simp (config:={ maxSteps:=3000000 }) (disch:=omega) only [go_sem])))
 refine Jc_if (fun hlt=>?_) (fun hlt=>?_)<;>try simp only [decide_eq_true_eq,decide_eq_false_iff_not] at hlt
 ·have hx:=map_get I l hlt
  have g3:l.getD i 0=l[i]:=lget_lt l 0 hlt
  by_cases hb:l[i]=k
  ·have e:frsI (fun i=>decide (l.getD i 0=k)) l.length=i:=frsI_some hlt (decide_eq_true (by rw [g3];exact hb)) hp
   have hb':k=l[i]:=hb.symm
   (repeat (with_reducible first|refine W_seq fun K hK=>?_|refine J_block ?_|refine J_skip ?_|refine J_ret ?_|refine J_region ?_ |refine J_c ?_|refine Jc_true ?_|(refine Kont.go (by assumption) ?_)|(simp (config:={ maxSteps:=3000000 }) (disch:=omega) only [go_sem,↓reduceIte,hx,←hb',decide_true])))
   rw [e]
   exact Frz.f _
  ·have hb':¬k=l[i]:=fun h=>hb h.symm
   (repeat (with_reducible first|refine W_seq fun K hK=>?_|refine J_block ?_|refine J_skip ?_|refine J_region ?_ |refine J_c ?_|refine Jc_false ?_|(refine Kont.go (by assumption) ?_)|(simp (config:={ maxSteps:=3000000 }) (disch:=omega) only [go_sem,↓reduceIte,hx,hb'])))
   refine ⟨i+1,⟨by omega,upto_next (p:=fun j=>decide (l.getD j 0=k)=false) hp (decide_eq_false (by rw [g3];exact hb))⟩,by omega,weak_of ?_ ?_⟩<;>(try simp (disch:=omega) only [go_sem])<;>(try first|done|omega|rfl|exact ⟨rfl,rfl⟩|trivial)
 ·have he:i=l.length:=by omega
  have e:frsI (fun i=>decide (l.getD i 0=k)) l.length=-1:=frsI_none (he▸hp)
  (repeat (with_reducible first|refine W_seq fun K hK=>?_|refine J_exit ?_|refine J_ret ?_|refine J_region ?_ |(refine Kont.go (by assumption) ?_)|(simp (config:={ maxSteps:=3000000 }) (disch:=omega) only [go_sem,↓reduceIte,Int.reduceNeg])))
  rw [e]
  exact Frz.f _
set_option maxRecDepth 100000 in
theorem cloneZ_w (z:Int) (l:List Int) (hl:l.length≤1000):GoodO Tryz.prog 36 [ints (z::l)] (.own 3 1 ((z::l).map I)):=by
 have hi:ints (z::l)=.fz 1 (I z::l.map I):=rfl
 have hll:(l.map I).length=l.length:=List.length_map ..
 refine goodO_of Tryz.func36 rfl (by kernel_rfl) fun X hO hrd=>?_;rw [Tryz.ntmps36,Tryz.results36];simp only [ast0,List.map_cons,List.map_nil,List.length_cons,List.length_nil,Nat.reduceAdd,Nat.reduceSub,List.replicate_succ,List.replicate_zero,List.cons_append,List.nil_append]
 (repeat (first|(with_reducible first|refine W_seq fun K hK=>?_|refine J_skip ?_|refine J_ret ?_|refine J_region ?_ |refine aApp_old ?_|refine J_c ?_|refine Jc_false ?_|(refine Kont.go (by assumption) ?_)|(simp (config:={ maxSteps:=3000000 }) (disch:=omega) only [go_sem,hi,hll]))|refine And.intro (by omega) ?_))
 refine ⟨1,by simp,rfl,fun x hx=>?_⟩
 rcases List.mem_cons.1 hx with rfl|hx
 ·exact .v _
 ·obtain ⟨y,_,rfl⟩:=List.mem_map.1 hx
  exact .v _
end Go.Proofs.YthehegidpamldaaGreatDoor
set_option linter.unusedVariables false
set_option linter.unusedSimpArgs false
namespace Go.Proofs.YthehegidpamldaaGreatDoor
open Go Go.RowKit
theorem J_asFz {X:Cx} {P:Program} {c:Code} {Q:Exit→AS→Prop} {t:List AV} {H:AH} {j sz cap:Nat} {a:Option Addr} (hj:t[j]?=some (.f (.v (.slice a 0 cap)))) (hm:cap≤maxLen) (h:J X P c Q ⟨t.set j (.f (.fz sz [])),H⟩):J X P c Q ⟨t,H⟩:=fun hk b w ⟨F,loc,R⟩=>h hk b w ⟨F,loc,by
 refine ⟨R.hF,R.hG,R.hN,R.below,R.defers,by show (t.set j _).length=_;rw [List.length_set];exact R.len,fun i x hi=>?_,R.obj,R.new,R.nF,R.inj⟩
 by_cases e:i=j
 ·subst e
  have hi:(t.set i (.f (.fz sz [])))[i]?=some x:=hi
  rw [List.getElem?_set_self (glt hj)] at hi
  cases hi
  have:=R.tmps i _ hj
  generalize b.tmps.getD i undef=u at this ⊢
  cases this with|f _ _ h=>cases h;exact .f _ _ (.fz0 _ _ _ hm)
 ·have hi:(t.set j (.f (.fz sz [])))[i]?=some x:=hi
  rw [List.getElem?_set_ne (Ne.symm e)] at hi
  exact R.tmps i x hi⟩
set_option maxRecDepth 100000 in
theorem cloneN_w (cap:Nat):GoodO Tryz.prog 36 [.v (.slice none 0 cap)] (.f (.v (.slice none 0 0))):=by
 refine goodO_of Tryz.func36 rfl (by kernel_rfl) fun X hO hrd=>?_;rw [Tryz.ntmps36,Tryz.results36];simp only [ast0,List.map_cons,List.map_nil,List.length_cons,List.length_nil,Nat.reduceAdd,Nat.reduceSub,List.replicate_succ,List.replicate_zero,List.cons_append,List.nil_append]
 (repeat (with_reducible first|refine W_seq fun K hK=>?_|refine J_region ?_ |(refine Kont.go (by assumption) ?_)|(simp (config:={ maxSteps:=3000000 }) (disch:=omega) only [go_sem])))
 refine ⟨.slice none 0 cap,.slice none 0 0,true,rfl,rfl,fun w=>by kernel_rfl,?_⟩
 (repeat (with_reducible first|refine W_seq fun K hK=>?_|refine J_ret ?_|refine J_region ?_ |refine J_c ?_|refine Jc_true ?_|(refine Kont.go (by assumption) ?_)|(simp (config:={ maxSteps:=3000000 }) (disch:=omega) only [go_sem])))
 exact ⟨rfl,.v _⟩
set_option maxRecDepth 100000 in
theorem cloneE_w (a:Addr) (cap:Nat) (hm:cap≤maxLen):GoodO Tryz.prog 36 [.v (.slice (some a) 0 cap)] (.own 3 1 []):=by
 refine goodO_of Tryz.func36 rfl (by kernel_rfl) fun X hO hrd=>?_;rw [Tryz.ntmps36,Tryz.results36];simp only [ast0,List.map_cons,List.map_nil,List.length_cons,List.length_nil,Nat.reduceAdd,Nat.reduceSub,List.replicate_succ,List.replicate_zero,List.cons_append,List.nil_append]
 (repeat (with_reducible first|refine W_seq fun K hK=>?_|refine J_region ?_ |(refine Kont.go (by assumption) ?_)|(simp (config:={ maxSteps:=3000000 }) (disch:=omega) only [go_sem])))
 refine ⟨.slice (some a) 0 cap,.slice none 0 0,false,rfl,rfl,fun w=>by kernel_rfl,?_⟩
 (repeat (with_reducible first|refine W_seq fun K hK=>?_|refine J_skip ?_|refine J_c ?_|refine Jc_false ?_|(refine Kont.go (by assumption) ?_)|(simp (config:={ maxSteps:=3000000 }) (disch:=omega) only [go_sem])))
 refine J_asFz (j:=0) (sz:=1) rfl hm ?_
 simp only [go_sem]
 (repeat (first|(with_reducible first|refine J_ret ?_|refine J_region ?_ |refine aApp_old ?_|(refine Kont.go (by assumption) ?_)|(simp (config:={ maxSteps:=3000000 }) (disch:=omega) only [go_sem]))|refine And.intro (by omega) ?_))
 exact ⟨1,rfl,rfl,fun x hx=>by cases hx⟩
end Go.Proofs.YthehegidpamldaaGreatDoor
set_option linter.unusedVariables false
set_option linter.unusedSimpArgs false
namespace Go.Proofs.YthehegidpamldaaGreatDoor
open Go Go.RowKit
theorem J_cutZ {X:Cx} {P:Program} {K:AS→Prop} {Q Q':Exit→AS→Prop} {c r:Code} {γ:Type} {t:List AV} {H:AH} (hK:Kont K (fun s=>J X P r Q' s)) (ws:List Nat) (up:γ→List (Nat × AV)) (hp:γ→AH) (I:γ→Prop)
  (h1:J X P c (athen (fun s=>∃z,I z∧Weak s ⟨sets (up z) (msk ws t),hp z⟩) Q) ⟨t,H⟩) (h2:∀z,I z→J X P r Q' ⟨sets (up z) (msk ws t),hp z⟩):J X P c (athen K Q) ⟨t,H⟩:=J_mono h1 fun e s hs=>by
 cases e with
 | normal=>obtain ⟨z,hz,hw⟩:=hs;exact hK s (J_weak hw (h2 z hz))
 | _=>exact hs
theorem callU_O {P:Program} {f:FuncId} {zs:List FV} {r:RV} (hg:GoodO P f zs r) {X:Cx} {w:World} {F:Nat→Prop} {loc:Nat→Nat × Nat} {t:List AV} {H:AH} {a:Act} {ys:Array Value} (R:RelF X F loc ⟨t,H⟩ a w) (hys:RepFL w F zs ys) :
  Calls P f ys w fun e w'=>∃y F' loc',e=.returned y∧RelF X F' loc' ⟨t,H++r.hp⟩ a w'∧Rep w' F' loc' (H++r.hp).length (r.av H.length) y:=by
 refine (hg.2 w F ys R.tabW R.hF hys).mono ?_
 rintro e w' ⟨v,rfl,hb,hr⟩
 have R':=R.step hb (fun b h=>h) (fun b h=>beyond_step_le hb b (R.hF b h)) (fun b h=>.inl h)
 obtain ⟨loc',h1,h2⟩:=R'.result rfl hr R.below.size R.hF (fun b h=>R.live_lt (.inr h))
 exact ⟨v,F,loc',rfl,h1,h2⟩
theorem clone_e (H:AH):CallU Tryz.prog 36 [.f (.fz 1 [])] H (fun u G=>(u=.f (.v (.slice none 0 0))∧G=H)∨(u=.own H.length 1 0 0∧G=H++[some ⟨3,1,[]⟩])):=by
 refine ⟨(cloneN_w 0).1,fun X w F loc t a ys R hys=>?_⟩
 obtain ⟨hl,hr⟩:=hys
 have h1:ys.size=1:=hl.symm
 have h0:=hr 0 _ rfl
 obtain ⟨u,rfl⟩:=Array.size_eq_one_iff.1 h1
 replace h0:Rep w F loc H.length (.f (.fz 1 [])) u:=h0
 obtain ⟨ad,cap,hm,rfl⟩:∃ad cap,cap≤maxLen∧u=.slice ad 0 cap:=by
  cases h0 with|f _ _ h =>
   generalize he:([]:List FV)=es at h
   cases h with
   | fz0 _ a cap hm=>exact ⟨a,cap,hm,rfl⟩
   | fz _ _ b off cap _ _ hm=>subst he;exact ⟨_,cap,hm,rfl⟩
 have hy:RepFL w F [.v (.slice ad 0 cap)] #[.slice ad 0 cap]:=⟨rfl,fun j x hj=>by
  match j,hj with
  | 0,hj=>cases hj;exact .v _
  | j+1,hj=>simp at hj⟩
 cases ad with
 | none =>
  refine (callU_O (cloneN_w cap) R hy).mono ?_
  rintro e w' ⟨y,F',loc',he,hR,hrep⟩
  exact ⟨y,F',loc',_,_,.inl ⟨rfl,rfl⟩,he,by simpa [RV.hp] using hR,by simpa [RV.hp,RV.av] using hrep⟩
 | some ad =>
  refine (callU_O (cloneE_w ad cap hm) R hy).mono ?_
  rintro e w' ⟨y,F',loc',he,hR,hrep⟩
  exact ⟨y,F',loc',_,_,.inr ⟨rfl,rfl⟩,he,hR,hrep⟩
end Go.Proofs.YthehegidpamldaaGreatDoor
set_option linter.unusedVariables false
set_option linter.unusedSimpArgs false
namespace Go.Proofs.YthehegidpamldaaGreatDoor
open Go Go.RowKit
theorem J_mask {X:Cx} {P:Program} (ws:List Nat) {c:Code} {Q:Exit→AS→Prop} {t:List AV} {H:AH} (hw:Weak ⟨t,H⟩ ⟨msk ws t,H⟩) (hJ:J X P c Q ⟨msk ws t,H⟩):J X P c Q ⟨t,H⟩:=J_weak hw hJ
end Go.Proofs.YthehegidpamldaaGreatDoor
