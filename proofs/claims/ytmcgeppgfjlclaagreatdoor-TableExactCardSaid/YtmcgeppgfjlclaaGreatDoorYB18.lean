/- Lists that are sorted and lose what stands twice. Plain. Conditions: none. -/
import Derived.Test.YtmcgeppgfjlclaaGreatDoorYB11
import Derived.Lib.SlicesCompact
import Derived.Test.YtmcgeppgfjlclaaGreatDoorYB17
import Derived.Test.YtmcgeppgfjlclaaGreatDoorYB09
import Derived.Shelf.Spec.SlicesGrow
import Derived.Laws.AppendOwn
import Derived.Test.YtmcgeppgfjlclaaGreatDoorYB16
set_option linter.unusedVariables false
set_option linter.unusedSimpArgs false
namespace Go.Proofs.YtmcgeppgfjlclaaGreatDoor
open Go Go.RowKit
theorem sorted_extI:∀{l m:List Int},l.Pairwise (·< ·)→m.Pairwise (·< ·)→(∀x,x∈l↔x∈m)→l=m:=by
 intro l
 induction l with
 | nil =>
  intro m _ _ h
  cases m with
  | nil=>rfl
  | cons b m=>exact absurd ((h b).2 (by simp)) (by simp)
 | cons a l ih =>
  intro m hl hm h
  cases m with
  | nil=>exact absurd ((h a).1 (by simp)) (by simp)
  | cons b m =>
   obtain ⟨l1,l2⟩:=List.pairwise_cons.1 hl
   obtain ⟨m1,m2⟩:=List.pairwise_cons.1 hm
   have e:a=b:=by
    rcases List.mem_cons.1 ((h a).1 (by simp)) with e|h1
    ·exact e
    ·rcases List.mem_cons.1 ((h b).2 (by simp)) with e|h2
     ·exact e.symm
     ·have:=l1 b h2;have:=m1 a h1;omega
   subst e
   rw [ih l2 m2 fun x=>?_]
   refine ⟨fun hx=>?_,fun hx=>?_⟩
   ·rcases List.mem_cons.1 ((h x).1 (by simp [hx])) with e|h1
    ·have:=l1 x hx;omega
    ·exact h1
   ·rcases List.mem_cons.1 ((h x).2 (by simp [hx])) with e|h1
    ·have:=m1 x hx;omega
    ·exact h1
theorem comp_spec {zs:List Int} (hs:zs.Pairwise (·≤ ·)):∀m,m≤zs.length→(Lib.compactUpTo zs.toArray m).Pairwise (·< ·)∧∀x,x∈Lib.compactUpTo zs.toArray m↔x∈zs.take m:=by
 have hg:∀j (hj:j<zs.length),zs.toArray[j]! = zs[j]:=fun j hj=>by simp [hj]
 have hle:=List.pairwise_iff_getElem.1 hs
 intro m
 induction m with
 | zero=>intro _;exact ⟨List.Pairwise.nil,fun x=>by show x∈[]↔x∈[];exact Iff.rfl⟩
 | succ m ih =>
  intro hm
  obtain ⟨i1,i2⟩:=ih (by omega)
  have hml:m<zs.length:=by omega
  rw [Lib.compactUpTo_succ,hg m hml,List.take_add_one,List.getElem?_eq_getElem hml]
  by_cases hk:Lib.keeps zs.toArray m=true
  ·rw [if_pos hk]
   refine ⟨List.pairwise_append.2 ⟨i1,List.pairwise_singleton ..,fun x hx y hy=>?_⟩,fun x=>by rw [List.mem_append,List.mem_append,i2];simp⟩
   rw [List.mem_singleton.1 hy]
   obtain ⟨j,hj,e⟩:=List.getElem_of_mem ((i2 x).1 hx)
   rw [List.length_take] at hj
   rw [List.getElem_take] at e
   have hjm:j<m:=by omega
   have hk:=of_decide_eq_true hk
   rcases hk with hk|hk
   ·omega
   ·rw [hg m hml,hg (m-1) (by omega)] at hk
    have h1:zs[m-1]≤zs[m]:=hle (m-1) m (by omega) hml (by omega)
    have h2:zs[j]≤zs[m-1]:=by
     by_cases e:j=m-1
     ·subst e;omega
     ·exact hle j (m-1) (by omega) (by omega) (by omega)
    omega
  ·rw [if_neg hk,List.append_nil]
   refine ⟨i1,fun x=>?_⟩
   rw [i2,List.mem_append]
   refine ⟨.inl,fun h=>h.elim id fun h=>?_⟩
   have hx:x=zs[m]:=by simpa using h
   have hk:¬(m=0∨zs.toArray[m]!≠zs.toArray[m-1]!):=fun hh=>hk (decide_eq_true hh)
   have hm0:m≠0:=fun e=>hk (.inl e)
   have he:zs[m]=zs[m-1]:=by
    refine Classical.byContradiction fun hne=>hk (.inr ?_)
    rw [hg m hml,hg (m-1) (by omega)]
    exact hne
   rw [hx,he]
   have hl:m-1<(zs.take m).length:=by rw [List.length_take];omega
   have:=List.getElem_mem hl
   rwa [List.getElem_take] at this
def srtT (l:List Int):List Int:=l.mergeSort fun x y=>decide (x≤y)
theorem srtT_le (l:List Int):(srtT l).Pairwise (·≤ ·):=by
 have:=List.pairwise_mergeSort (le:=fun x y:Int=>decide (x≤y)) (fun a b c h1 h2=>by simp only [decide_eq_true_eq] at *;omega) (fun a b=>by simp only [Bool.or_eq_true,decide_eq_true_eq];omega) l
 exact this.imp fun h=>by simpa using h
theorem uni_sort {n:Nat} {la lb:List Nat} (ha:∀v∈la,v<n) (hb:∀v∈lb,v<n):Lib.compact (srtT (la.map Int.ofNat++lb.map Int.ofNat))=(uniT n la lb).map Int.ofNat:=by
 obtain ⟨zs,hz⟩:∃zs,zs=srtT (la.map Int.ofNat++lb.map Int.ofNat):=⟨_,rfl⟩
 have hm:∀x,x∈zs↔x∈la.map Int.ofNat++lb.map Int.ofNat:=fun x=>by rw [hz];exact List.mem_mergeSort
 have hs:zs.Pairwise (·≤ ·):=by rw [hz];exact srtT_le _
 rw [←hz]
 obtain ⟨c1,c2⟩:=comp_spec hs zs.length (Nat.le_refl _)
 refine sorted_extI c1 ?_ fun x=>?_
 ·rw [List.pairwise_map]
  exact List.Pairwise.imp (fun {a b} h=>by show (a:Int)<(b:Int);omega) (List.Pairwise.filter _ List.pairwise_lt_range)
 ·show x∈Lib.compactUpTo zs.toArray zs.length↔_
  rw [c2,List.take_length,hm,List.mem_append]
  constructor
  ·rintro (h|h)
   ·obtain ⟨v,hv,rfl⟩:=List.mem_map.1 h
    exact List.mem_map.2 ⟨v,mem_uniT.2 ⟨ha v hv,.inl hv⟩,rfl⟩
   ·obtain ⟨v,hv,rfl⟩:=List.mem_map.1 h
    exact List.mem_map.2 ⟨v,mem_uniT.2 ⟨hb v hv,.inr hv⟩,rfl⟩
  ·intro h
   obtain ⟨v,hv,rfl⟩:=List.mem_map.1 h
   exact (mem_uniT.1 hv).2.imp (fun h=>List.mem_map.2 ⟨v,h,rfl⟩) fun h=>List.mem_map.2 ⟨v,h,rfl⟩
end Go.Proofs.YtmcgeppgfjlclaaGreatDoor
set_option linter.unusedVariables false
set_option linter.unusedSimpArgs false
namespace Go.Proofs.YtmcgeppgfjlclaaGreatDoor
open Go Go.RowKit Go.Shelf
def grzRen:Go.Shelf.Ren:=⟨fun|4=>83|n=>n,fun|22=>22|25=>3|3=>3|4=>4|9=>9|20=>20|0=>0|n=>n,fun n=>n⟩
theorem grzLays:Lays8.n4 Tryz.prog grzRen where
 mixed:=by kernel_rfl
 f4 := ⟨"slices.Grow[[]int,int]", by kernel_rfl, Tryz.func83.trans (congrArg some (by kernel_rfl))⟩
 t0:=Tryz.underlying0
 a0:=Tryz.isAgg0
 z0:=Tryz.sizeOf0
 v0:=Tryz.zeroValue0
 t3:=Tryz.underlying3
 a3:=Tryz.isAgg3
 z3:=Tryz.sizeOf3
 v3:=Tryz.zeroValue3
 t4:=Tryz.underlying4
 a4:=Tryz.isAgg4
 z4:=Tryz.sizeOf4
 v4:=Tryz.zeroValue4
 t9:=Tryz.underlying9
 a9:=Tryz.isAgg9
 z9:=Tryz.sizeOf9
 v9:=Tryz.zeroValue9
 t20:=Tryz.underlying20
 a20:=Tryz.isAgg20
 z20:=Tryz.sizeOf20
 v20:=Tryz.zeroValue20
 t22:=Tryz.underlying22
 a22:=Tryz.isAgg22
 z22:=Tryz.sizeOf22
 v22:=Tryz.zeroValue22
noncomputable def inI:TypeInfo:=(Tryz.prog.info? 3).getD default
theorem inI_is:Tryz.prog.info? 3=some inI:=by kernel_rfl
set_option maxRecDepth 100000 in
theorem growZ_w {n:Nat} (h0:1≤n) (hn:n≤1000):GoodO Tryz.prog 83 [.v (.slice none 0 0),I (n:Int)] (.own 3 1 []):=by
 refine ⟨by kernel_rfl,fun w G ys hT hG hys=>?_⟩
 obtain ⟨hl,hr⟩:=hys
 have h1:ys.size=2:=hl.symm
 have r0:=hr 0 _ rfl
 have r1:=hr 1 _ rfl
 obtain ⟨u,v,rfl⟩:∃u v,ys=#[u,v]:=by
  match ys,h1 with
  | ⟨[u,v]⟩,_=>exact ⟨u,v,rfl⟩
 replace r0:RepF w G (.v (.slice none 0 0)) u:=r0
 replace r1:RepF w G (I (n:Int)) v:=r1
 cases r0
 cases r1
 have hz:inI.zero=some (.int .i64 0):=by kernel_rfl
 have hs:inI.size=1:=by kernel_rfl
 have hb:inI.bytes=8:=by kernel_rfl
 have key:=Any8.slices_Grow_grow grzLays inI _ inI_is hz (by rw [hs];decide) none 0 0 n [] w (by omega) (by omega) (by rw [hb];omega) (by omega) (by simp) (fun _=>rfl) (fun a h=>by cases h)
 refine Calls.mono key ?_
 rintro e w' ⟨rfl,rfl⟩
 obtain ⟨vs,hvs⟩:∃vs:Array Value,vs=(([]:List Value).toArray++Builtin.zeroCells (Value.int .i64 0).cells (0+n-0)++Builtin.zeroCells (Value.int .i64 0).cells (grownCap w (0+n) 0 (grzRen.t 25)-(0+n))):=⟨_,rfl⟩
 have hge:=grownCap_ge w (0+n) 0 (grzRen.t 25)
 have hle:=grownCap_le_maxLen w (0+n) 0 (grzRen.t 25) (by unfold maxLen;omega)
 obtain ⟨cap,hcap⟩:∃cap,cap=grownCap w (0+n) 0 (grzRen.t 25):=⟨_,rfl⟩
 rw [←hcap] at hge hle hvs ⊢
 have hsz:vs.size=cap*1:=by
  rw [hvs,Array.size_append,Array.size_append,size_zeroCells,size_zeroCells]
  have:(Value.int .i64 0).cells.size=1:=rfl
  rw [this]
  simp
  omega
 rw [←hvs]
 have hb1:Beyond (fun _=>False) w w.drew:=⟨rfl,rfl,rfl,Nat.le_refl _,fun _ _ _=>rfl⟩
 have hb2:=beyond_alloc w.drew (.cells vs (grzRen.t 25))
 refine ⟨_,rfl,hb1.trans ⟨hb2.os,hb2.tape,hb2.output,hb2.size,fun k hk hn=>hb2.block k hk id⟩,?_⟩
 have hh:(w.drew.alloc (.cells vs (grzRen.t 25))).heap[w.heap.size]?=some (.cells vs 3 (0,0)):=heap_alloc_new w.drew _
 exact RepR.own 3 1 [] w.heap.size cap (Nat.le_refl _) (by simp) hle (fun x hx=>by cases hx) (fun x hx=>by cases hx) vs hh hsz (fun j c hj=>by simp [flatF] at hj)
end Go.Proofs.YtmcgeppgfjlclaaGreatDoor
set_option linter.unusedVariables false
set_option linter.unusedSimpArgs false
namespace Go.Proofs.YtmcgeppgfjlclaaGreatDoor
open Go Go.RowKit
set_option maxRecDepth 100000 in
set_option maxHeartbeats 1000000 in
theorem grow0_calls (w:World):Calls Tryz.prog 83 #[.slice none 0 0,.int .i64 0] w fun e w'=>e=.returned (.slice none 0 0)∧w'=w:=by
 go_enter Tryz.func83,Tryz.ntmps83
 go_wp2
 go_ret
 exact ⟨rfl,rfl⟩
theorem grow0_w:Good Tryz.prog 83 [.v (.slice none 0 0),I 0] (.v (.slice none 0 0)):=by
 refine ⟨by kernel_rfl,fun w G ys hT hG hys=>?_⟩
 obtain ⟨hl,hr⟩:=hys
 have h1:ys.size=2:=hl.symm
 have r0:=hr 0 _ rfl
 have r1:=hr 1 _ rfl
 obtain ⟨u,v,rfl⟩:∃u v,ys=#[u,v]:=by
  match ys,h1 with
  | ⟨[u,v]⟩,_=>exact ⟨u,v,rfl⟩
 replace r0:RepF w G (.v (.slice none 0 0)) u:=r0
 replace r1:RepF w G (I 0) v:=r1
 cases r0
 cases r1
 refine (grow0_calls w).mono ?_
 rintro e w' ⟨rfl,rfl⟩
 exact ⟨_,rfl,Beyond.refl _ _,.v _⟩
set_option maxRecDepth 100000 in
set_option maxHeartbeats 4000000 in
theorem concatZ_w (R:List (List FV)) (hR:R.length≤1000) (h0:1≤R.flatten.length) (hn:R.flatten.length≤1000) (hf:∀x∈R.flatten,FlatF x) :
  GoodO Tryz.prog 49 [.fz 1 (R.map (FV.fz 1))] (.own 3 1 R.flatten):=by
 have hfl:∀i (hi:i<R.length),(R.take (i+1)).flatten=(R.take i).flatten++R[i]:=fun i hi=>by
  rw [List.take_add_one,List.getElem?_eq_getElem hi,List.flatten_append];simp
 have hle:∀i,(R.take i).flatten.length≤1000:=fun i=>by
  have:(R.take i).flatten.length≤R.flatten.length:=by
   conv=>rhs;rw [←List.take_append_drop i R,List.flatten_append,List.length_append]
   omega
  omega
 obtain ⟨Z,hZ⟩:∃Z,Z=R.flatten:=⟨_,rfl⟩
 have hg:=growZ_w (n:=R.flatten.length) h0 hn
 rw [←hZ] at hg hf h0 ⊢
 refine goodO_of Tryz.func49 rfl (by kernel_rfl) fun X hO hrd=>?_;rw [Tryz.ntmps49,Tryz.results49];simp only [ast0,List.map_cons,List.map_nil,List.length_cons,List.length_nil,Nat.reduceAdd,Nat.reduceSub,List.replicate_succ,List.replicate_zero,List.cons_append,List.nil_append]
 (repeat (with_reducible first|refine W_seq fun K hK=>?_|refine J_block ?_|refine J_region ?_ |(refine Kont.go (by assumption) ?_)|(simp (config:={ maxSteps:=3000000 }) (disch:=omega) only [go_sem,List.length_map])))
 refine W_loop [3,5,11,12,13,14,15,16,17,18,19,20,21,22] (fun i:Nat=>[(3,.f (I (((R.take i).flatten.length:Nat):Int))),(11,.f (I i))]) (fun i:Nat=>[]) (fun i:Nat=>i≤R.length) (fun i:Nat=>R.length-i) (0) (Nat.zero_le _) (by refine weak_of ?_ ?_<;>simp (disch:=omega) only [go_sem]<;>first|rfl|exact ⟨rfl,rfl⟩|exact Or.inl rfl|exact ⟨Or.inl rfl,Or.inl rfl⟩|trivial|assumption|omega|(symm;assumption)|((repeat' apply And.intro)<;>first|rfl|omega|trivial|exact .inl rfl|exact .inr ⟨rfl,rfl⟩|exact .inr rfl|(right;symm;assumption)|(symm;assumption)|assumption)) ?_
 rintro i hi
 simp only [go_sem]
 (repeat (with_reducible first|refine W_seq fun K hK=>?_|refine J_region ?_ |refine J_c ?_|(refine Kont.go (by assumption) ?_)|(simp (config:={ maxSteps:=3000000 }) (disch:=omega) only [go_sem])))
 refine Jc_if (fun hil=>?_) (fun hil=>?_)<;>try simp only [decide_eq_true_eq,decide_eq_false_iff_not] at hil
 ·have gi:=map_get (FV.fz 1) R hil
  have hnx:=hfl i hil
  have h1:=hle i
  have h2:=hle (i+1)
  have hlen:(R.take i).flatten.length+R[i].length=(R.take (i+1)).flatten.length:=by rw [hnx,List.length_append]
  have hsum:(((R.take i).flatten.length:Nat):Int)+((R[i].length:Nat):Int)=(((R.take (i+1)).flatten.length:Nat):Int):=by omega
  have hng:¬((((R.take i).flatten.length:Nat):Int)+((R[i].length:Nat):Int)<0):=by omega
  (repeat (with_reducible first|refine W_seq fun K hK=>?_|refine J_block ?_|refine J_skip ?_|refine J_region ?_ |refine J_c ?_|refine Jc_false ?_|(refine Kont.go (by assumption) ?_)|(simp (config:={ maxSteps:=3000000 }) (disch:=omega) only [go_sem,↓reduceIte,gi,hng])))
  refine ⟨i+1,by omega,by omega,weak_of ?_ ?_⟩<;>(try simp (disch:=omega) only [go_sem,hsum])<;>(try first|done|omega|rfl|exact ⟨rfl,rfl⟩|trivial)
 ·have he:i=R.length:=by omega
  rw [he,List.take_length,←hZ]
  (repeat (with_reducible first|refine W_seq fun K hK=>?_|refine J_exit ?_|refine J_region ?_ |(refine Kont.go (by assumption) ?_)|(simp (config:={ maxSteps:=3000000 }) (disch:=omega) only [go_sem,↓reduceIte])))
  refine call_o hg (FrzL.fs [_,_]) ?_
  (repeat (with_reducible first|refine W_seq fun K hK=>?_|refine J_block ?_|refine J_region ?_ |(refine Kont.go (by assumption) ?_)|(simp (config:={ maxSteps:=3000000 }) (disch:=omega) only [go_sem,List.length_map])))
  refine J_mask [24] (by refine weak_of ?_ ?_<;>simp (disch:=omega) only [go_sem]<;>first|rfl|exact ⟨rfl,rfl⟩|trivial|((repeat' apply And.intro)<;>first|rfl|omega|trivial|exact .inl rfl|exact .inr ⟨rfl,rfl⟩|exact .inr rfl)) ?_
  simp only [go_sem]
  have e0:([]:List AV)=(R.take 0).flatten.map AV.f:=rfl
  refine W_loop [6,8,27,28,29,30,31,32,33,34] (fun j:Nat=>[(6,.own 0 1 0 (R.take j).flatten.length),(27,.f (I j))]) (fun j:Nat=>[some ⟨3,1,(R.take j).flatten.map .f⟩]) (fun j:Nat=>j≤R.length) (fun j:Nat=>R.length-j) (0) (Nat.zero_le _) (by refine weak_of ?_ ?_<;>simp (disch:=omega) only [go_sem]<;>first|rfl|exact ⟨rfl,rfl⟩|exact Or.inl rfl|exact ⟨Or.inl rfl,Or.inl rfl⟩|trivial|assumption|omega|(symm;assumption)|((repeat' apply And.intro)<;>first|rfl|omega|trivial|exact .inl rfl|exact .inr ⟨rfl,rfl⟩|exact .inr rfl|(right;symm;assumption)|(symm;assumption)|assumption)) ?_
  rintro j hj
  simp only [go_sem]
  (repeat (with_reducible first|refine W_seq fun K hK=>?_|refine J_region ?_ |refine J_c ?_|(refine Kont.go (by assumption) ?_)|(simp (config:={ maxSteps:=3000000 }) (disch:=omega) only [go_sem])))
  refine Jc_if (fun hjl=>?_) (fun hjl=>?_)<;>try simp only [decide_eq_true_eq,decide_eq_false_iff_not] at hjl
  ·have gj:=map_get (FV.fz 1) R hjl
   have hnx:=hfl j hjl
   have h2:=hle (j+1)
   have hlen:(R.take j).flatten.length+R[j].length=(R.take (j+1)).flatten.length:=by rw [hnx,List.length_append]
   have htk:((R.take j).flatten.map AV.f).take (R.take j).flatten.length=(R.take j).flatten.map .f:=List.take_of_length_le (by rw [List.length_map];omega)
   have hap:(R.take j).flatten.map AV.f++R[j].map AV.f=(R.take (j+1)).flatten.map .f:=by rw [hnx,List.map_append]
   have hby:((R.take j).flatten.length+R[j].length)*8≤140737488355328:=by omega
   (repeat (first|(with_reducible first|refine W_seq fun K hK=>?_|refine J_block ?_|refine J_skip ?_|refine J_region ?_ |refine aApp_old ?_|(refine Kont.go (by assumption) ?_)|(simp (config:={ maxSteps:=3000000 }) (disch:=omega) only [go_sem,↓reduceIte,gj,htk,hap,hby,List.length_map]))|refine And.intro (by omega) ?_))
   refine ⟨j+1,by omega,by omega,weak_ren [1] ⟨by decide,by first|decide|(simp;done)⟩ ?_ ?_⟩<;>(try simp (disch:=omega) only [go_sem,hlen])<;>(try first|done|omega|rfl|exact ⟨rfl,rfl⟩|trivial)
  ·have he:j=R.length:=by omega
   rw [he,List.take_length,←hZ]
   (repeat (with_reducible first|refine W_seq fun K hK=>?_|refine J_exit ?_|refine J_ret ?_|refine J_region ?_ |(refine Kont.go (by assumption) ?_)|(simp (config:={ maxSteps:=3000000 }) (disch:=omega) only [go_sem,↓reduceIte])))
   exact ⟨0,rfl,rfl,hf⟩
set_option maxRecDepth 100000 in
set_option maxHeartbeats 4000000 in
theorem concat0_w (R:List (List FV)) (hR:R.length≤1000) (h0:∀r∈R,r=[]):Good Tryz.prog 49 [.fz 1 (R.map (FV.fz 1))] (.v (.slice none 0 0)):=by
 have hg:=grow0_w
 refine good_of Tryz.func49 rfl (by kernel_rfl) fun X hO hrd=>?_;rw [Tryz.ntmps49,Tryz.results49];simp only [ast0,List.map_cons,List.map_nil,List.length_cons,List.length_nil,Nat.reduceAdd,Nat.reduceSub,List.replicate_succ,List.replicate_zero,List.cons_append,List.nil_append]
 (repeat (with_reducible first|refine W_seq fun K hK=>?_|refine J_block ?_|refine J_region ?_ |(refine Kont.go (by assumption) ?_)|(simp (config:={ maxSteps:=3000000 }) (disch:=omega) only [go_sem,List.length_map])))
 refine W_loop [3,5,11,12,13,14,15,16,17,18,19,20,21,22] (fun i:Nat=>[(3,.f (I 0)),(11,.f (I i))]) (fun i:Nat=>[]) (fun i:Nat=>i≤R.length) (fun i:Nat=>R.length-i) (0) (Nat.zero_le _) (by refine weak_of ?_ ?_<;>simp (disch:=omega) only [go_sem]<;>first|rfl|exact ⟨rfl,rfl⟩|exact Or.inl rfl|exact ⟨Or.inl rfl,Or.inl rfl⟩|trivial|assumption|omega|(symm;assumption)|((repeat' apply And.intro)<;>first|rfl|omega|trivial|exact .inl rfl|exact .inr ⟨rfl,rfl⟩|exact .inr rfl|(right;symm;assumption)|(symm;assumption)|assumption)) ?_
 rintro i hi
 simp only [go_sem]
 (repeat (with_reducible first|refine W_seq fun K hK=>?_|refine J_region ?_ |refine J_c ?_|(refine Kont.go (by assumption) ?_)|(simp (config:={ maxSteps:=3000000 }) (disch:=omega) only [go_sem])))
 refine Jc_if (fun hil=>?_) (fun hil=>?_)<;>try simp only [decide_eq_true_eq,decide_eq_false_iff_not] at hil
 ·have gi:=map_get (FV.fz 1) R hil
  have hr:=h0 _ (List.getElem_mem hil)
  rw [hr] at gi
  (repeat (with_reducible first|refine W_seq fun K hK=>?_|refine J_block ?_|refine J_skip ?_|refine J_region ?_ |refine J_c ?_|refine Jc_false ?_|(refine Kont.go (by assumption) ?_)|(simp (config:={ maxSteps:=3000000 }) (disch:=omega) only [go_sem,↓reduceIte,Int.reduceAdd,gi,List.length_nil])))
  refine ⟨i+1,by omega,by omega,weak_of ?_ ?_⟩<;>(try simp (disch:=omega) only [go_sem])<;>(try first|done|omega|rfl|exact ⟨rfl,rfl⟩|trivial)
 ·have he:i=R.length:=by omega
  (repeat (with_reducible first|refine W_seq fun K hK=>?_|refine J_exit ?_|refine J_region ?_ |(refine Kont.go (by assumption) ?_)|(simp (config:={ maxSteps:=3000000 }) (disch:=omega) only [go_sem,↓reduceIte])))
  (first|refine call_f (hg) rfl ?_|refine callQ_f (hg) rfl ?_|refine callHK_f (hg) rfl ?_|refine callH_f (hg) rfl ?_)
  (repeat (with_reducible first|refine W_seq fun K hK=>?_|refine J_block ?_|refine J_region ?_ |(refine Kont.go (by assumption) ?_)|(simp (config:={ maxSteps:=3000000 }) (disch:=omega) only [go_sem,List.length_map])))
  refine J_mask [24] (by refine weak_of ?_ ?_<;>simp (disch:=omega) only [go_sem]<;>first|rfl|exact ⟨rfl,rfl⟩|exact Or.inl rfl|exact ⟨Or.inl rfl,Or.inl rfl⟩|trivial|assumption|omega|(symm;assumption)|((repeat' apply And.intro)<;>first|rfl|omega|trivial|exact .inr ⟨rfl,rfl⟩|exact .inr rfl|(right;symm;assumption)|(symm;assumption)|assumption)) ?_;simp only [go_sem]
  refine W_loop [6,8,27,28,29,30,31,32,33,34] (fun j:Nat=>[(6,.f (.v (.slice none 0 0))),(27,.f (I j))]) (fun j:Nat=>[]) (fun j:Nat=>j≤R.length) (fun j:Nat=>R.length-j) (0) (Nat.zero_le _) (by refine weak_of ?_ ?_<;>simp (disch:=omega) only [go_sem]<;>first|rfl|exact ⟨rfl,rfl⟩|exact Or.inl rfl|exact ⟨Or.inl rfl,Or.inl rfl⟩|trivial|assumption|omega|(symm;assumption)|((repeat' apply And.intro)<;>first|rfl|omega|trivial|exact .inl rfl|exact .inr ⟨rfl,rfl⟩|exact .inr rfl|(right;symm;assumption)|(symm;assumption)|assumption)) ?_
  rintro j hj
  simp only [go_sem]
  (repeat (with_reducible first|refine W_seq fun K hK=>?_|refine J_region ?_ |refine J_c ?_|(refine Kont.go (by assumption) ?_)|(simp (config:={ maxSteps:=3000000 }) (disch:=omega) only [go_sem])))
  refine Jc_if (fun hjl=>?_) (fun hjl=>?_)<;>try simp only [decide_eq_true_eq,decide_eq_false_iff_not] at hjl
  ·have gj:=map_get (FV.fz 1) R hjl
   have hr:=h0 _ (List.getElem_mem hjl)
   rw [hr] at gj
   (repeat (with_reducible first|refine W_seq fun K hK=>?_|refine J_block ?_|refine J_skip ?_|refine J_region ?_ |(refine Kont.go (by assumption) ?_)|(simp (config:={ maxSteps:=3000000 }) (disch:=omega) only [go_sem,↓reduceIte,gj])))
   refine aApp_nothing ⟨⟨rfl,rfl⟩,rfl,?_⟩
   (repeat (with_reducible first|refine J_region ?_ |(refine Kont.go (by assumption) ?_)|(simp (config:={ maxSteps:=3000000 }) (disch:=omega) only [go_sem])))
   refine ⟨j+1,by omega,by omega,weak_of ?_ ?_⟩<;>(try simp (disch:=omega) only [go_sem])<;>(try first|done|omega|rfl|exact ⟨rfl,rfl⟩|trivial)
  ·(repeat (with_reducible first|refine W_seq fun K hK=>?_|refine J_exit ?_|refine J_ret ?_|refine J_region ?_ |exact Frz.f _|(refine Kont.go (by assumption) ?_)|(simp (config:={ maxSteps:=3000000 }) (disch:=omega) only [go_sem,↓reduceIte])))
end Go.Proofs.YtmcgeppgfjlclaaGreatDoor
set_option linter.unusedVariables false
set_option linter.unusedSimpArgs false
namespace Go.Proofs.YtmcgeppgfjlclaaGreatDoor
open Go Go.RowKit
def tbA (r:Nat) (l P:List FV):AV:=if P=[] then .f (.agg [.fz 1 l,.v (.slice none 0 0)]) else .agg [.f (.fz 1 l),.own r 3 0 P.length]
theorem tbA_nil {r:Nat} {l:List FV}:tbA r l []=.f (.agg [.fz 1 l,.v (.slice none 0 0)]):=rfl
theorem tbA_pos {r:Nat} {l P:List FV} (h:P≠[]):tbA r l P=.agg [.f (.fz 1 l),.own r 3 0 P.length]:=if_neg h
theorem take_frs {l:List Rat} {x:Nat} {q:Rat} (h:l[x]?=some q):(l.take x).map fr++[fr q]=(l.take (x+1)).map fr:=by
 rw [List.take_add_one,h,List.map_append];rfl
theorem take_ne {l:List Rat} {x:Nat} (hx:x<l.length) (h0:0<x):(l.take x).map fr≠[]:=fun h=>by
 have:=congrArg List.length h
 rw [List.length_map,List.length_take,List.length_nil] at this
 omega
theorem sortT_u {H:AH} {q:Nat} {zs S:List Int} (hS:S=srtT zs) (hq:H[q]?=some (some ⟨3,1,(zs.map I).map .f⟩)) (hz:zs.length<4611686018427387904) :
  CallU Tryz.prog 50 [.own q 1 0 zs.length] H (fun u G=>u=.f (.v (.tuple #[]))∧G=H.set q (some ⟨3,1,(S.map I).map .f⟩)):=by
 subst hS;exact sort_u hq hz
theorem compactT_u {H:AH} {q:Nat} {zs U:List Int} (hU:Lib.compact zs=U) (hq:H[q]?=some (some ⟨3,1,(zs.map I).map .f⟩)) (hz:zs.length≤1000) :
  CallU Tryz.prog 51 [.own q 1 0 zs.length] H (fun u G=>u=.own q 1 0 U.length∧G=H.set q (some ⟨3,1,((U++List.replicate (zs.length-U.length) 0).map I).map .f⟩)):=by
 subst hU;exact compact_u hq hz
theorem proT_get {Z la lb:List Nat} {qa qb:List Rat} {x:Nat} (hx:x<cntS (szT Z) (uniT Z.length la lb)):(proT Z la lb qa qb)[x]?=some (qa.getD (idxS (szT Z) (asgS (szT Z) (uniT Z.length la lb) x) la) 0*qb.getD (idxS (szT Z) (asgS (szT Z) (uniT Z.length la lb) x) lb) 0):=tblS_get hx
set_option maxRecDepth 100000 in
set_option maxHeartbeats 8000000 in
theorem product_w {k:Nat} {Z la lb:List Nat} {xs ys:List FV} {qa qb:List Rat} (ha:TbOk k Z la xs qa) (hb:TbOk k Z lb ys qb) (h1:1≤k) (hk:k≤100000) :
  Good Tryz.prog 13 [.fz 1 (Ns Z),tabV la xs,tabV lb ys] (.tup [tabV (uniT Z.length la lb) ((proT Z la lb qa qb).map fr),I 0]):=by
 have hla8:=ha.ok.len
 have hlb8:=hb.ok.len
 have hca:=tcheck_w ha
 have hcb:=tcheck_w hb
 have hu:=ha.ok.uni (lb:=lb)
 have hpg:=fun x hx=>proT_get (Z:=Z) (la:=la) (lb:=lb) (qa:=qa) (qb:=qb) (x:=x) hx
 have hpl:=proT_len (Z:=Z) (la:=la) (lb:=lb) (qa:=qa) (qb:=qb)
 obtain ⟨u,hue⟩:∃u,u=uniT Z.length la lb:=⟨_,rfl⟩
 have hau:∀v∈la,v∈u:=fun v hv=>by rw [hue];exact mem_uniT.2 ⟨ha.ok.lt v hv,.inl hv⟩
 have hbu:∀v∈lb,v∈u:=fun v hv=>by rw [hue];exact mem_uniT.2 ⟨hb.ok.lt v hv,.inr hv⟩
 have hsrt:=uni_sort ha.ok.lt hb.ok.lt
 rw [←hue] at hu hsrt hpg hpl ⊢
 have hul:=hu.len
 have huc:=hu.cnt
 have huc1:=hu.cnt1
 have hcn:=tcount_w hu
 have hpa:=place_w (Ns Z) (Ns u) (Ns la)
 have hpb:=place_w (Ns Z) (Ns u) (Ns lb)
 obtain ⟨L,hL⟩:∃L,L=la.map Int.ofNat++lb.map Int.ofNat:=⟨_,rfl⟩
 rw [←hL] at hsrt
 have hLl:L.length≤16:=by rw [hL,List.length_append,List.length_map,List.length_map];omega
 have hRf:[Ns la,Ns lb].flatten=L.map I:=by rw [hL,List.map_append];show Ns la++(Ns lb++[])=_;rw [List.append_nil];unfold Ns;rw [List.map_map,List.map_map];rfl
 obtain ⟨p,hpe⟩:∃p,p=proT Z la lb qa qb:=⟨_,rfl⟩
 rw [←hpe] at hpg hpl ⊢
 obtain ⟨N,hN⟩:∃N,N=cntS (szT Z) u:=⟨_,rfl⟩
 rw [←hN] at hpl huc huc1 hcn hpg
 refine good_of Tryz.func13 rfl (by kernel_rfl) fun X hO hrd=>?_;rw [Tryz.ntmps13,Tryz.results13];simp only [ast0,List.map_cons,List.map_nil,List.length_cons,List.length_nil,Nat.reduceAdd,Nat.reduceSub,List.replicate_succ,List.replicate_zero,List.cons_append,List.nil_append]
 (repeat (with_reducible first|refine W_seq fun K hK=>?_|refine J_region ?_|(refine Kont.go (by assumption) ?_)|(simp (config:={ maxSteps:=3000000 }) (disch:=omega) only [go_sem,↓reduceIte,Nat.reduceAdd])))
 (first|refine call_f (hca) rfl ?_|refine callQ_f (hca) rfl ?_|refine callHK_f (hca) rfl ?_|refine callH_f (hca) rfl ?_)
 (repeat (with_reducible first|refine W_seq fun K hK=>?_|refine J_skip ?_|refine J_region ?_|refine J_c ?_|refine Jc_false ?_|(refine Kont.go (by assumption) ?_)|(simp (config:={ maxSteps:=3000000 }) (disch:=omega) only [go_sem,↓reduceIte,Nat.reduceAdd])))
 (first|refine call_f (hcb) rfl ?_|refine callQ_f (hcb) rfl ?_|refine callHK_f (hcb) rfl ?_|refine callH_f (hcb) rfl ?_)
 (repeat (first|(with_reducible first|refine W_seq fun K hK=>?_|refine J_skip ?_|refine J_region ?_|refine J_c ?_|refine Jc_false ?_|(refine Kont.go (by assumption) ?_)|(simp (config:={ maxSteps:=3000000 }) (disch:=omega) only [go_sem,↓reduceIte,Nat.reduceAdd]))|refine And.intro (by omega) ?_))
 by_cases hL0:L=[]
 ·have hRe:∀r∈[Ns la,Ns lb],r=[]:=fun r hr=>by
   have h0:Ns la++(Ns lb++[])=[]:=by have:=hRf;rw [hL0] at this;exact this
   have h1:=List.append_eq_nil_iff.1 h0
   have h2:=List.append_eq_nil_iff.1 h1.2
   rcases List.mem_cons.1 hr with e|hr
   ·rw [e];exact h1.1
   ·rw [List.mem_singleton.1 hr];exact h2.1
  have hco:=concat0_w [Ns la,Ns lb] (by simp) hRe
  have hu0:u=[]:=by
   have h0:Lib.compact (srtT L)=[]:=by rw [hL0];unfold srtT;rw [List.mergeSort_nil];rfl
   rw [h0] at hsrt
   exact List.map_eq_nil_iff.1 hsrt.symm
  refine call_fl hco (.v _) (FrzL.cons (Frz.own0 (ds:=[.fz 1 (Ns la),.fz 1 (Ns lb)]) rfl rfl) (FrzL.nil _)) ?_
  (repeat (with_reducible first|refine W_seq fun K hK=>?_|refine J_region ?_|(refine Kont.go (by assumption) ?_)|(simp (config:={ maxSteps:=3000000 }) (disch:=omega) only [go_sem])))
  (first|refine call_f (sort0_w) rfl ?_|refine callQ_f (sort0_w) rfl ?_|refine callHK_f (sort0_w) rfl ?_|refine callH_f (sort0_w) rfl ?_)
  (repeat (with_reducible first|refine W_seq fun K hK=>?_|refine J_region ?_|(refine Kont.go (by assumption) ?_)|(simp (config:={ maxSteps:=3000000 }) (disch:=omega) only [go_sem])))
  (first|refine call_f (compact0_w) rfl ?_|refine callQ_f (compact0_w) rfl ?_|refine callHK_f (compact0_w) rfl ?_|refine callH_f (compact0_w) rfl ?_)
  (repeat (with_reducible first|refine W_seq fun K hK=>?_|(refine Kont.go (by assumption) ?_)|(simp (config:={ maxSteps:=3000000 }) (disch:=omega) only [go_sem])))
  refine J_reserve ?_
  simp only [go_sem]
  refine J_freeze (j:=10) (r:=4) (sz:=1) (e:=3) (l:=Ns u) (by rw [hu0];rfl) (by rw [hu0];rfl) ?_
  simp only [go_sem,Nat.reduceEqDiff]
  (repeat (with_reducible first|refine J_drawn mixed (by kernel_rfl) ?_|(simp (config:={ maxSteps:=3000000 }) (disch:=omega) only [go_sem,↓reduceIte])))
  refine callQ_f hpa rfl ?_
  (skip)
  refine callQ_f hpb rfl ?_
  (repeat (with_reducible first|refine W_seq fun K hK=>?_|refine J_region ?_|(refine Kont.go (by assumption) ?_)|(simp (config:={ maxSteps:=3000000 }) (disch:=omega) only [go_sem,Nat.reduceEqDiff,↓reduceIte,Nat.reduceAdd,Nat.reduceLeDiff])))
  (first|refine call_f (hcn) rfl ?_|refine callQ_f (hcn) rfl ?_|refine callHK_f (hcn) rfl ?_|refine callH_f (hcn) rfl ?_)
  (repeat (with_reducible first|refine J_block ?_|(refine Kont.go (by assumption) ?_)|(simp (config:={ maxSteps:=3000000 }) (disch:=omega) only [go_sem])))
  refine J_reserve ?_
  simp only [go_sem]
  refine J_mask [33,50] (by refine weak_of ?_ ?_<;>simp (disch:=omega) only [go_sem,Nat.reduceAdd]<;>first|rfl|exact ⟨rfl,rfl⟩|exact Or.inl rfl|exact ⟨Or.inl rfl,Or.inl rfl⟩|trivial|assumption|omega|(symm;assumption)|((repeat' apply And.intro)<;>first|rfl|omega|trivial|exact .inr ⟨rfl,rfl⟩|exact .inr rfl|(right;symm;assumption)|(symm;assumption)|assumption)) ?_;simp only [go_sem]
  have h00:AV.f (.agg [.fz 1 (Ns u),.v (.slice none 0 0)])=tbA 6 (Ns u) ((p.take 0).map fr):=rfl
  rw [h00]
  refine W_loop [14,54,55,56,57,58,59,60,61,62,63,64,65,66,67,68,69,70,71,72,73,74,75,76,77] (fun x:Nat=>[(54,.f (I x))]) (fun x:Nat=>[oT (tabV la xs),oT (tabV lb ys),oT tab0,none,none,some ⟨27,2,[tbA 6 (Ns u) ((p.take x).map fr)]⟩,ob 50 3 ((p.take x).map fr)]) (fun x:Nat=>x≤N) (fun x:Nat=>N-x) (0) (Nat.zero_le _) (by refine weak_of ?_ ?_<;>simp (disch:=omega) only [go_sem,Nat.reduceAdd]<;>first|rfl|exact ⟨rfl,rfl⟩|exact Or.inl rfl|exact ⟨Or.inl rfl,Or.inl rfl⟩|trivial|assumption|omega|(symm;assumption)|((repeat' apply And.intro)<;>first|rfl|omega|trivial|exact .inl rfl|exact .inr ⟨rfl,rfl⟩|exact .inr rfl|(right;symm;assumption)|(symm;assumption)|assumption)) ?_
  rintro x hx
  simp only [go_sem]
  (repeat (with_reducible first|refine W_seq fun K hK=>?_|refine J_region ?_|refine J_c ?_|(refine Kont.go (by assumption) ?_)|(simp (config:={ maxSteps:=3000000 }) (disch:=omega) only [go_sem])))
  refine Jc_if (fun hxN=>?_) (fun hxN=>?_)<;>try simp only [decide_eq_true_eq,decide_eq_false_iff_not] at hxN
  ·have hxu:x<cntS (szT Z) u:=by omega
   have ia:=idxS_lt (S:=szT Z) (a:=asgS (szT Z) u x) (l:=la) fun v hv=>asgS_lt hu.nd hu.pos hxu (hau v hv)
   have ib:=idxS_lt (S:=szT Z) (a:=asgS (szT Z) u x) (l:=lb) fun v hv=>asgS_lt hu.nd hu.pos hxu (hbu v hv)
   have c1:=place1_w hu ha.ok hau hxu
   have c2:=place1_w hu hb.ok hbu hxu
   have hpx:=hpg x hxN
   obtain ⟨i,hi⟩:∃i,i=idxS (szT Z) (asgS (szT Z) u x) la:=⟨_,rfl⟩
   obtain ⟨j,hj⟩:∃j,j=idxS (szT Z) (asgS (szT Z) u x) lb:=⟨_,rfl⟩
   rw [←hi] at ia c1 hpx
   rw [←hj] at ib c2 hpx
   rw [←ha.len] at ia
   rw [←hb.len] at ib
   obtain ⟨g,n,d,x1,f1⟩:=ha.fr.at3 ia
   obtain ⟨g2,n2,d2,x2,f2⟩:=hb.fr.at3 ib
   rw [lget_lt qa 0 ia,lget_lt qb 0 ib] at hpx
   have hmu:=mul_w f1 f2 (by omega) (by omega)
   have htk:=take_frs hpx
   have hxl:=ha.fr.len
   have hyl:=hb.fr.len
   by_cases x0:x=0
   ·subst x0
    have e1:ob 50 3 ((p.take 0).map fr)=none:=rfl
    have e2:(p.take (0+1)).map fr=[fr (qa[i]*qb[j])]:=htk.symm
    have e3:ob 50 3 [fr (qa[i]*qb[j])]=some ⟨50,3,[.f (fr (qa[i]*qb[j]))]⟩:=rfl
    have e4:tbA 6 (Ns u) [fr (qa[i]*qb[j])]=.agg [.f (.fz 1 (Ns u)),.own 6 3 0 1]:=rfl
    rw [←h00,e1]
    (repeat (with_reducible first|refine W_seq fun K hK=>?_|refine J_block ?_|refine J_skip ?_|refine J_region ?_|refine J_orders (id:=15) [18] (.one 0 (.one 1 (.one 2 (.one 3 (.one 4 (.one 5 (.one 6 (.one 7 (.one 8 (.one 9 (.one 10 (.one 11 (.one 12 (.one 13 (.one 14 (.one 15 (.one 16 (.one 17 (.one 18 (.one 19 (.one 20 .leaf))))))))))))))))))))) mixed (by kernel_rfl) ?_ |(refine Kont.go (by assumption) ?_)|(simp (config:={ maxSteps:=3000000 }) (disch:=omega) only [go_sem,Nat.reduceEqDiff,↓reduceIte,Nat.reduceAdd,Nat.reduceLeDiff])))
    refine callQ_f c1 rfl ?_
    (repeat (with_reducible first|(simp (config:={ maxSteps:=3000000 }) (disch:=omega) only [go_sem,↓reduceIte,Nat.reduceAdd,x1])))
    refine callQ_f c2 rfl ?_
    (repeat (first|(with_reducible first|refine J_region ?_|(refine Kont.go (by assumption) ?_)|(simp (config:={ maxSteps:=3000000 }) (disch:=omega) only [go_sem,↓reduceIte,Nat.reduceAdd,Nat.reduceLeDiff,Int.reduceAdd,x2]))|refine callQ_f (mul_w (by assumption) (by assumption) (by omega) (by omega)) rfl ?_|refine And.intro (by omega) ?_))
    refine ⟨0+1,by omega,by omega,weak_ren [0,1,2,3,4,5,8] ⟨by decide,by first|decide|(simp;done)⟩ ?_ ?_⟩<;>(try simp (disch:=omega) only [go_sem,Nat.reduceAdd,e2,e3,e4])<;>(try first|done|omega|rfl|exact ⟨rfl,rfl⟩|trivial)
   ·have hne:=take_ne (l:=p) (x:=x) (by omega) (by omega)
    have hln:((p.take x).map fr).length=x:=by rw [List.length_map,List.length_take];omega
    have hne1:(p.take (x+1)).map fr≠[]:=by rw [←htk];simp
    have hln1:((p.take (x+1)).map fr).length=x+1:=by rw [←htk,List.length_append,hln];rfl
    obtain ⟨T,hT⟩:∃T,T=(p.take x).map fr:=⟨_,rfl⟩
    rw [←hT] at hne hln htk ⊢
    have e1:ob 50 3 T=some ⟨50,3,T.map .f⟩:=ob_pos hne
    have e2:tbA 6 (Ns u) T=.agg [.f (.fz 1 (Ns u)),.own 6 3 0 x]:=by rw [tbA_pos hne,hln]
    have e3:ob 50 3 ((p.take (x+1)).map fr)=some ⟨50,3,T.map .f++[.f (fr (qa[i]*qb[j]))]⟩:=by rw [ob_pos hne1,←htk,List.map_append];rfl
    have e4:tbA 6 (Ns u) ((p.take (x+1)).map fr)=.agg [.f (.fz 1 (Ns u)),.own 6 3 0 (x+1)]:=by rw [tbA_pos hne1,hln1]
    have e5:(T.map AV.f).take x=T.map .f:=List.take_of_length_le (by rw [List.length_map];omega)
    have e6:(x+1)*40≤140737488355328:=by omega
    rw [e1,e2]
    (repeat (with_reducible first|refine W_seq fun K hK=>?_|refine J_block ?_|refine J_skip ?_|refine J_region ?_|refine J_orders (id:=15) [18] (.one 0 (.one 1 (.one 2 (.one 3 (.one 4 (.one 5 (.one 6 (.one 7 (.one 8 (.one 9 (.one 10 (.one 11 (.one 12 (.one 13 (.one 14 (.one 15 (.one 16 (.one 17 (.one 18 (.one 19 (.one 20 .leaf))))))))))))))))))))) mixed (by kernel_rfl) ?_ |(refine Kont.go (by assumption) ?_)|(simp (config:={ maxSteps:=3000000 }) (disch:=omega) only [go_sem,Nat.reduceEqDiff,↓reduceIte,Nat.reduceAdd,Nat.reduceLeDiff])))
    refine callQ_f c1 rfl ?_
    (repeat (with_reducible first|(simp (config:={ maxSteps:=3000000 }) (disch:=omega) only [go_sem,↓reduceIte,Nat.reduceAdd,x1])))
    refine callQ_f c2 rfl ?_
    (repeat (first|(with_reducible first|refine J_region ?_|(refine Kont.go (by assumption) ?_)|(simp (config:={ maxSteps:=3000000 }) (disch:=omega) only [go_sem,↓reduceIte,Nat.reduceAdd,Nat.reduceLeDiff,x2,hln,e5,e6]))|refine callQ_f (mul_w (by assumption) (by assumption) (by omega) (by omega)) rfl ?_|refine And.intro (by omega) ?_))
    refine ⟨x+1,by omega,by omega,weak_ren [0,1,2,3,4,5,8] ⟨by decide,by first|decide|(simp;done)⟩ ?_ ?_⟩<;>(try simp (disch:=omega) only [go_sem,Nat.reduceAdd,e3,e4,map_ren_f,List.map_append,List.map_cons,List.map_nil])<;>(try first|done|omega|rfl|exact ⟨rfl,rfl⟩|trivial)
  ·have he:x=N:=by omega
   subst he
   have hne:p.map fr≠[]:=fun h=>by have:=congrArg List.length h;rw [List.length_map,List.length_nil] at this;omega
   rw [List.take_of_length_le (by omega)]
   have e1:ob 50 3 (p.map fr)=some ⟨50,3,(p.map fr).map .f⟩:=ob_pos hne
   have e2:tbA 6 (Ns u) (p.map fr)=.agg [.f (.fz 1 (Ns u)),.own 6 3 0 (p.map fr).length]:=tbA_pos hne
   rw [e1,e2]
   (repeat (with_reducible first|refine W_seq fun K hK=>?_|refine J_exit ?_|refine J_ret ?_|refine J_region ?_|(refine Kont.go (by assumption) ?_)|(simp (config:={ maxSteps:=3000000 }) (disch:=omega) only [go_sem,↓reduceIte,Nat.reduceAdd])))
   exact ⟨_,rfl,FrzL.cons (Frz.aggL (FrzL.cons (.f _) (FrzL.cons (Frz.own0 rfl (by rw [List.length_map])) (FrzL.nil _)))) (FrzL.cons (.f _) (FrzL.nil _))⟩
 ·have hLm:L.map I≠[]:=fun h=>hL0 (List.map_eq_nil_iff.1 h)
  have hco:=concatZ_w [Ns la,Ns lb] (by simp) (by rw [hRf,List.length_map];exact List.length_pos_iff.2 hL0) (by rw [hRf,List.length_map];omega) (fun x hx=>by rw [hRf] at hx;obtain ⟨z,_,rfl⟩:=List.mem_map.1 hx;exact .v _)
  rw [hRf] at hco
  have hsl:(srtT L).length=L.length:=List.length_mergeSort L
  obtain ⟨S,hS⟩:∃S,S=srtT L:=⟨_,rfl⟩
  rw [←hS] at hsrt hsl
  have hcl:=compact_len S
  rw [hsrt] at hcl
  obtain ⟨U,hU⟩:∃U,U=u.map Int.ofNat:=⟨_,rfl⟩
  rw [←hU] at hsrt hcl
  have hkd:U.length≤((U++List.replicate (S.length-U.length) 0).map I).length:=by rw [List.length_map,List.length_append];omega
  have hfz:((U++List.replicate (S.length-U.length) 0).map I).take U.length=Ns u:=by
   rw [List.map_append,List.take_append_of_le_length (by rw [List.length_map];exact Nat.le_refl _),List.take_of_length_le (by rw [List.length_map];exact Nat.le_refl _),hU]
   unfold Ns;rw [List.map_map];rfl
  refine call_o hco (FrzL.cons (Frz.own0 (ds:=[.fz 1 (Ns la),.fz 1 (Ns lb)]) rfl rfl) (FrzL.nil _)) ?_
  (repeat (with_reducible first|refine W_seq fun K hK=>?_|refine J_region ?_|(refine Kont.go (by assumption) ?_)|(simp (config:={ maxSteps:=3000000 }) (disch:=omega) only [go_sem,Nat.reduceAdd,List.length_map])))
  refine call_u (sortT_u hS rfl (by omega)) ?_
  (repeat (with_reducible first|refine W_seq fun K hK=>?_|refine J_region ?_|(refine Kont.go (by assumption) ?_)|(simp (config:={ maxSteps:=3000000 }) (disch:=omega) only [go_sem,←hsl])))
  refine call_u (compactT_u hsrt rfl (by omega)) ?_
  (repeat (with_reducible first|refine W_seq fun K hK=>?_|(refine Kont.go (by assumption) ?_)|(simp (config:={ maxSteps:=3000000 }) (disch:=omega) only [go_sem])))
  refine J_freezeP (j:=10) (r:=4) rfl hkd rfl ?_
  simp only [go_sem,Nat.reduceEqDiff,hfz]
  (repeat (with_reducible first|refine J_drawn mixed (by kernel_rfl) ?_|(simp (config:={ maxSteps:=3000000 }) (disch:=omega) only [go_sem,↓reduceIte])))
  refine callQ_f hpa rfl ?_
  (skip)
  refine callQ_f hpb rfl ?_
  (repeat (with_reducible first|refine W_seq fun K hK=>?_|refine J_region ?_|(refine Kont.go (by assumption) ?_)|(simp (config:={ maxSteps:=3000000 }) (disch:=omega) only [go_sem,Nat.reduceEqDiff,↓reduceIte,Nat.reduceAdd,Nat.reduceLeDiff])))
  (first|refine call_f (hcn) rfl ?_|refine callQ_f (hcn) rfl ?_|refine callHK_f (hcn) rfl ?_|refine callH_f (hcn) rfl ?_)
  (repeat (with_reducible first|refine J_block ?_|(refine Kont.go (by assumption) ?_)|(simp (config:={ maxSteps:=3000000 }) (disch:=omega) only [go_sem])))
  refine J_reserve ?_
  simp only [go_sem]
  refine J_mask [33,50] (by refine weak_of ?_ ?_<;>simp (disch:=omega) only [go_sem,Nat.reduceAdd]<;>first|rfl|exact ⟨rfl,rfl⟩|exact Or.inl rfl|exact ⟨Or.inl rfl,Or.inl rfl⟩|trivial|assumption|omega|(symm;assumption)|((repeat' apply And.intro)<;>first|rfl|omega|trivial|exact .inr ⟨rfl,rfl⟩|exact .inr rfl|(right;symm;assumption)|(symm;assumption)|assumption)) ?_;simp only [go_sem]
  have h00:AV.f (.agg [.fz 1 (Ns u),.v (.slice none 0 0)])=tbA 6 (Ns u) ((p.take 0).map fr):=rfl
  rw [h00]
  refine W_loop [14,54,55,56,57,58,59,60,61,62,63,64,65,66,67,68,69,70,71,72,73,74,75,76,77] (fun x:Nat=>[(54,.f (I x))]) (fun x:Nat=>[oT (tabV la xs),oT (tabV lb ys),oT tab0,none,none,some ⟨27,2,[tbA 6 (Ns u) ((p.take x).map fr)]⟩,ob 50 3 ((p.take x).map fr)]) (fun x:Nat=>x≤N) (fun x:Nat=>N-x) (0) (Nat.zero_le _) (by refine weak_of ?_ ?_<;>simp (disch:=omega) only [go_sem,Nat.reduceAdd]<;>first|rfl|exact ⟨rfl,rfl⟩|exact Or.inl rfl|exact ⟨Or.inl rfl,Or.inl rfl⟩|trivial|assumption|omega|(symm;assumption)|((repeat' apply And.intro)<;>first|rfl|omega|trivial|exact .inl rfl|exact .inr ⟨rfl,rfl⟩|exact .inr rfl|(right;symm;assumption)|(symm;assumption)|assumption)) ?_
  rintro x hx
  simp only [go_sem]
  (repeat (with_reducible first|refine W_seq fun K hK=>?_|refine J_region ?_|refine J_c ?_|(refine Kont.go (by assumption) ?_)|(simp (config:={ maxSteps:=3000000 }) (disch:=omega) only [go_sem])))
  refine Jc_if (fun hxN=>?_) (fun hxN=>?_)<;>try simp only [decide_eq_true_eq,decide_eq_false_iff_not] at hxN
  ·have hxu:x<cntS (szT Z) u:=by omega
   have ia:=idxS_lt (S:=szT Z) (a:=asgS (szT Z) u x) (l:=la) fun v hv=>asgS_lt hu.nd hu.pos hxu (hau v hv)
   have ib:=idxS_lt (S:=szT Z) (a:=asgS (szT Z) u x) (l:=lb) fun v hv=>asgS_lt hu.nd hu.pos hxu (hbu v hv)
   have c1:=place1_w hu ha.ok hau hxu
   have c2:=place1_w hu hb.ok hbu hxu
   have hpx:=hpg x hxN
   obtain ⟨i,hi⟩:∃i,i=idxS (szT Z) (asgS (szT Z) u x) la:=⟨_,rfl⟩
   obtain ⟨j,hj⟩:∃j,j=idxS (szT Z) (asgS (szT Z) u x) lb:=⟨_,rfl⟩
   rw [←hi] at ia c1 hpx
   rw [←hj] at ib c2 hpx
   rw [←ha.len] at ia
   rw [←hb.len] at ib
   obtain ⟨g,n,d,x1,f1⟩:=ha.fr.at3 ia
   obtain ⟨g2,n2,d2,x2,f2⟩:=hb.fr.at3 ib
   rw [lget_lt qa 0 ia,lget_lt qb 0 ib] at hpx
   have hmu:=mul_w f1 f2 (by omega) (by omega)
   have htk:=take_frs hpx
   have hxl:=ha.fr.len
   have hyl:=hb.fr.len
   by_cases x0:x=0
   ·subst x0
    have e1:ob 50 3 ((p.take 0).map fr)=none:=rfl
    have e2:(p.take (0+1)).map fr=[fr (qa[i]*qb[j])]:=htk.symm
    have e3:ob 50 3 [fr (qa[i]*qb[j])]=some ⟨50,3,[.f (fr (qa[i]*qb[j]))]⟩:=rfl
    have e4:tbA 6 (Ns u) [fr (qa[i]*qb[j])]=.agg [.f (.fz 1 (Ns u)),.own 6 3 0 1]:=rfl
    rw [←h00,e1]
    (repeat (with_reducible first|refine W_seq fun K hK=>?_|refine J_block ?_|refine J_skip ?_|refine J_region ?_|refine J_orders (id:=15) [18] (.one 0 (.one 1 (.one 2 (.one 3 (.one 4 (.one 5 (.one 6 (.one 7 (.one 8 (.one 9 (.one 10 (.one 11 (.one 12 (.one 13 (.one 14 (.one 15 (.one 16 (.one 17 (.one 18 (.one 19 (.one 20 .leaf))))))))))))))))))))) mixed (by kernel_rfl) ?_ |(refine Kont.go (by assumption) ?_)|(simp (config:={ maxSteps:=3000000 }) (disch:=omega) only [go_sem,Nat.reduceEqDiff,↓reduceIte,Nat.reduceAdd,Nat.reduceLeDiff])))
    refine callQ_f c1 rfl ?_
    (repeat (with_reducible first|(simp (config:={ maxSteps:=3000000 }) (disch:=omega) only [go_sem,↓reduceIte,Nat.reduceAdd,x1])))
    refine callQ_f c2 rfl ?_
    (repeat (first|(with_reducible first|refine J_region ?_|(refine Kont.go (by assumption) ?_)|(simp (config:={ maxSteps:=3000000 }) (disch:=omega) only [go_sem,↓reduceIte,Nat.reduceAdd,Nat.reduceLeDiff,Int.reduceAdd,x2]))|refine callQ_f (mul_w (by assumption) (by assumption) (by omega) (by omega)) rfl ?_|refine And.intro (by omega) ?_))
    refine ⟨0+1,by omega,by omega,weak_ren [0,1,2,3,4,5,8] ⟨by decide,by first|decide|(simp;done)⟩ ?_ ?_⟩<;>(try simp (disch:=omega) only [go_sem,Nat.reduceAdd,e2,e3,e4])<;>(try first|done|omega|rfl|exact ⟨rfl,rfl⟩|trivial)
   ·have hne:=take_ne (l:=p) (x:=x) (by omega) (by omega)
    have hln:((p.take x).map fr).length=x:=by rw [List.length_map,List.length_take];omega
    have hne1:(p.take (x+1)).map fr≠[]:=by rw [←htk];simp
    have hln1:((p.take (x+1)).map fr).length=x+1:=by rw [←htk,List.length_append,hln];rfl
    obtain ⟨T,hT⟩:∃T,T=(p.take x).map fr:=⟨_,rfl⟩
    rw [←hT] at hne hln htk ⊢
    have e1:ob 50 3 T=some ⟨50,3,T.map .f⟩:=ob_pos hne
    have e2:tbA 6 (Ns u) T=.agg [.f (.fz 1 (Ns u)),.own 6 3 0 x]:=by rw [tbA_pos hne,hln]
    have e3:ob 50 3 ((p.take (x+1)).map fr)=some ⟨50,3,T.map .f++[.f (fr (qa[i]*qb[j]))]⟩:=by rw [ob_pos hne1,←htk,List.map_append];rfl
    have e4:tbA 6 (Ns u) ((p.take (x+1)).map fr)=.agg [.f (.fz 1 (Ns u)),.own 6 3 0 (x+1)]:=by rw [tbA_pos hne1,hln1]
    have e5:(T.map AV.f).take x=T.map .f:=List.take_of_length_le (by rw [List.length_map];omega)
    have e6:(x+1)*40≤140737488355328:=by omega
    rw [e1,e2]
    (repeat (with_reducible first|refine W_seq fun K hK=>?_|refine J_block ?_|refine J_skip ?_|refine J_region ?_|refine J_orders (id:=15) [18] (.one 0 (.one 1 (.one 2 (.one 3 (.one 4 (.one 5 (.one 6 (.one 7 (.one 8 (.one 9 (.one 10 (.one 11 (.one 12 (.one 13 (.one 14 (.one 15 (.one 16 (.one 17 (.one 18 (.one 19 (.one 20 .leaf))))))))))))))))))))) mixed (by kernel_rfl) ?_ |(refine Kont.go (by assumption) ?_)|(simp (config:={ maxSteps:=3000000 }) (disch:=omega) only [go_sem,Nat.reduceEqDiff,↓reduceIte,Nat.reduceAdd,Nat.reduceLeDiff])))
    refine callQ_f c1 rfl ?_
    (repeat (with_reducible first|(simp (config:={ maxSteps:=3000000 }) (disch:=omega) only [go_sem,↓reduceIte,Nat.reduceAdd,x1])))
    refine callQ_f c2 rfl ?_
    (repeat (first|(with_reducible first|refine J_region ?_|(refine Kont.go (by assumption) ?_)|(simp (config:={ maxSteps:=3000000 }) (disch:=omega) only [go_sem,↓reduceIte,Nat.reduceAdd,Nat.reduceLeDiff,x2,hln,e5,e6]))|refine callQ_f (mul_w (by assumption) (by assumption) (by omega) (by omega)) rfl ?_|refine And.intro (by omega) ?_))
    refine ⟨x+1,by omega,by omega,weak_ren [0,1,2,3,4,5,8] ⟨by decide,by first|decide|(simp;done)⟩ ?_ ?_⟩<;>(try simp (disch:=omega) only [go_sem,Nat.reduceAdd,e3,e4,map_ren_f,List.map_append,List.map_cons,List.map_nil])<;>(try first|done|omega|rfl|exact ⟨rfl,rfl⟩|trivial)
  ·have he:x=N:=by omega
   subst he
   have hne:p.map fr≠[]:=fun h=>by have:=congrArg List.length h;rw [List.length_map,List.length_nil] at this;omega
   rw [List.take_of_length_le (by omega)]
   have e1:ob 50 3 (p.map fr)=some ⟨50,3,(p.map fr).map .f⟩:=ob_pos hne
   have e2:tbA 6 (Ns u) (p.map fr)=.agg [.f (.fz 1 (Ns u)),.own 6 3 0 (p.map fr).length]:=tbA_pos hne
   rw [e1,e2]
   (repeat (with_reducible first|refine W_seq fun K hK=>?_|refine J_exit ?_|refine J_ret ?_|refine J_region ?_|(refine Kont.go (by assumption) ?_)|(simp (config:={ maxSteps:=3000000 }) (disch:=omega) only [go_sem,↓reduceIte,Nat.reduceAdd])))
   exact ⟨_,rfl,FrzL.cons (Frz.aggL (FrzL.cons (.f _) (FrzL.cons (Frz.own0 rfl (by rw [List.length_map])) (FrzL.nil _)))) (FrzL.cons (.f _) (FrzL.nil _))⟩
end Go.Proofs.YtmcgeppgfjlclaaGreatDoor
