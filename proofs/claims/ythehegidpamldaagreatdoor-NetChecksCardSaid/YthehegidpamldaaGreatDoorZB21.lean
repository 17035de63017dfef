/- Lists that are sorted and lose what stands twice. Plain. Conditions: none. -/
import Derived.Test.YthehegidpamldaaGreatDoorZB14
import Derived.Lib.SlicesCompact
import Derived.Test.YthehegidpamldaaGreatDoorZB20
import Derived.Test.YthehegidpamldaaGreatDoorZB13
import Derived.Test.YthehegidpamldaaGreatDoorZB09
import Derived.Test.YthehegidpamldaaGreatDoorZB08
import Derived.Shelf.Sort.Plain
import Derived.Test.YthehegidpamldaaGreatDoorZB15
import Derived.Test.YthehegidpamldaaGreatDoorZB17
import Derived.Shelf.Slices.In.SortNone
import Derived.Shelf.Slices.CompactI
import Derived.Test.YthehegidpamldaaGreatDoorZB16
set_option linter.unusedVariables false
set_option linter.unusedSimpArgs false
namespace Go.Proofs.YthehegidpamldaaGreatDoor
open Go Go.RowKit
theorem sorted_extI:∀{l m:List Int},l.Pairwise (·< ·)→m.Pairwise (·< ·)→(∀x,x∈l↔x∈m)→l=m:=by
 intro l
 induction l with
 | nil =>
  intro m _ _ h
  cases m with
  | nil=>rfl
  | cons b m=>exact absurd ((h b).2 (by simp)) (by simp)
 | cons a l ih =>
  intro m hl hm h
  cases m with
  | nil=>exact absurd ((h a).1 (by simp)) (by simp)
  | cons b m =>
   obtain ⟨l1,l2⟩:=List.pairwise_cons.1 hl
   obtain ⟨m1,m2⟩:=List.pairwise_cons.1 hm
   have e:a=b:=by
    rcases List.mem_cons.1 ((h a).1 (by simp)) with e|h1
    ·exact e
    ·rcases List.mem_cons.1 ((h b).2 (by simp)) with e|h2
     ·exact e.symm
     ·have:=l1 b h2;have:=m1 a h1;omega
   subst e
   rw [ih l2 m2 fun x=>?_]
   refine ⟨fun hx=>?_,fun hx=>?_⟩
   ·rcases List.mem_cons.1 ((h x).1 (by simp [hx])) with e|h1
    ·have:=l1 x hx;omega
    ·exact h1
   ·rcases List.mem_cons.1 ((h x).2 (by simp [hx])) with e|h1
    ·have:=m1 x hx;omega
    ·exact h1
def srtT (l:List Int):List Int:=l.mergeSort fun x y=>decide (x≤y)
theorem srtT_le (l:List Int):(srtT l).Pairwise (·≤ ·):=by
 have:=List.pairwise_mergeSort (le:=fun x y:Int=>decide (x≤y)) (fun a b c h1 h2=>by simp only [decide_eq_true_eq] at *;omega) (fun a b=>by simp only [Bool.or_eq_true,decide_eq_true_eq];omega) l
 exact this.imp fun h=>by simpa using h
end Go.Proofs.YthehegidpamldaaGreatDoor
set_option linter.unusedVariables false
set_option linter.unusedSimpArgs false
namespace Go.Proofs.YthehegidpamldaaGreatDoor
open Go Go.RowKit
def famT (n:Nat) (pa:List Nat) (v:Nat):List Nat:=uniT n pa [v]
def rowG (Z pa:List Nat) (v:Nat) (qs:List Rat) (a:Nat→Nat):Rat:=qs.getD (idxS (szT Z) a (pa++[v])) 0
def givQ (Z pa:List Nat) (v:Nat) (qs:List Rat):List Rat:=tblS (szT Z) (famT Z.length pa v) (rowG Z pa v qs)
structure VarG (V : List VarD) (P : List (List Int)) (M : List (List Rat)) (v : Nat) : Prop where
  ok : OkT (szN V) (paN P v)
  get : (P.map ints)[v]? = some (.fz 1 (Ns (paN P v)))
  out : v ∉ paN P v
  ml : v < M.length
  len : (M.getD v []).length = cntS (szT (szN V)) (paN P v) * szT (szN V) v
  ch : ∀ j, j < cntS (szT (szN V)) (paN P v) → chancesB (rwQ (M.getD v []) (szT (szN V) v) j) = true
section
variable {V : List VarD} {P : List (List Int)} {M : List (List Rat)} {v : Nat}
theorem netE_zero (h:netE (ordE P) V P M=0):(P.length=V.length∧M.length=V.length)∧ordE P=0∧namesE (V.map Prod.fst)=0∧fe (varsE V) V.length=0∧fe (rowsE V P M) V.length=0:=by
 unfold netE at h
 split at h
 ·rename_i h1
  split at h
  ·rename_i h2
   split at h
   ·rename_i h3
    split at h
    ·rename_i h4
     exact ⟨h1,h2,h3,h4,h⟩
    ·contradiction
   ·contradiction
  ·contradiction
 ·exact absurd h (by decide)
theorem netG (h:netE (ordE P) V P M=0) (hv:v<V.length):VarG V P M v:=by
 obtain ⟨⟨hP,hM⟩,hE,_,hF,hR⟩:=netE_zero h
 obtain ⟨hT,hg⟩:=net_okT hE hP hF hv
 have hr:=fe_zero.1 hR v hv
 unfold rowsE rowQ at hr
 split at hr
 ·rename_i hl
  split at hr
  ·rename_i hc
   refine ⟨hT,hg,fun hm=>?_,by omega,hl,fun j hj=>List.all_eq_true.1 hc j (List.mem_range.2 hj)⟩
   obtain ⟨x,hx,e⟩:=List.mem_map.1 hm
   have hb:=ordE_lists hE
   obtain ⟨hr1,hr2,_⟩:=ok_node hb (v:=v) (by omega)
   obtain ⟨⟨_,h8⟩,_⟩:=listsB_iff.1 hb
   rw [lget_lt P [] (by omega)] at hx
   have h0:=(pwT.1 hr1).2 x hx
   have hI:I x∈Ns (els (setI P[v])):=by rw [←ris_els h8 hr1];exact List.mem_map.2 ⟨x,hx,rfl⟩
   obtain ⟨u,hu,eu⟩:=List.mem_map.1 hI
   have ex:x=(u:Int):=by injection eu with e1;injection e1 with _ e2;exact e2.symm
   have:u=v:=by omega
   subst this
   rw [(els_mem.1 hu).2] at hr2
   cases hr2
  ·exact absurd hr (by decide)
 ·exact absurd hr (by decide)
end
section
variable {Z pa : List Nat} {v n : Nat} {qs : List Rat} {a : Nat → Nat}
theorem mem_famT {u:Nat}:u∈famT n pa v↔u<n∧(u∈pa∨u=v):=by unfold famT;rw [mem_uniT];simp
theorem OkT.fam (h:OkT Z pa):OkT Z (famT Z.length pa v):=h.uni
theorem fam_sort (h:OkT Z pa) (hv:v<Z.length) (hn:v∉pa):srtT (pa.map Int.ofNat++[(v:Int)])=(famT Z.length pa v).map Int.ofNat:=by
 obtain ⟨zs,hz⟩:∃zs,zs=srtT (pa.map Int.ofNat++[(v:Int)]):=⟨_,rfl⟩
 have hm:∀x,x∈zs↔x∈pa.map Int.ofNat++[(v:Int)]:=fun x=>by rw [hz];exact List.mem_mergeSort
 have hs:zs.Pairwise (·≤ ·):=by rw [hz];exact srtT_le _
 have hnd:(pa.map Int.ofNat++[(v:Int)]).Nodup:=by
  rw [List.nodup_append]
  refine ⟨?_,by simp,fun x hx y hy e=>?_⟩
  ·unfold List.Nodup
   rw [List.pairwise_map]
   exact List.Pairwise.imp (fun {a b} hab e=>by have:a=b:=Int.ofNat.inj e;omega) h.ris
  ·obtain ⟨u,hu,rfl⟩:=List.mem_map.1 hx
   rw [List.mem_singleton] at hy
   subst hy
   exact hn (Int.ofNat.inj e▸hu)
 have hnz:zs.Nodup:=by rw [hz];exact (List.mergeSort_perm _ _).nodup_iff.2 hnd
 rw [←hz]
 refine sorted_extI ?_ ?_ fun x=>?_
 ·exact (List.Pairwise.and hs hnz).imp fun {a b} hab=>by have:=hab.2;have:=hab.1;omega
 ·rw [List.pairwise_map]
  exact List.Pairwise.imp (fun {a b} hab=>by show (a:Int)<(b:Int);omega) h.fam.ris
 ·rw [hm,List.mem_append,List.mem_map,List.mem_map,List.mem_singleton]
  constructor
  ·rintro (⟨u,hu,rfl⟩|rfl)
   ·exact ⟨u,mem_famT.2 ⟨h.lt u hu,.inl hu⟩,rfl⟩
   ·exact ⟨v,mem_famT.2 ⟨hv,.inr rfl⟩,rfl⟩
  ·rintro ⟨u,hu,rfl⟩
   rcases (mem_famT.1 hu).2 with h1|h1
   ·exact .inl ⟨u,h1,rfl⟩
   ·exact .inr (by rw [h1];rfl)
theorem row_lt (ha:∀u∈pa,a u<szT Z u) (hav:a v<szT Z v):idxS (szT Z) a (pa++[v])<cntS (szT Z) pa*szT Z v:=by
 have h1:=idxS_lt (S:=szT Z) (a:=a) (l:=pa++[v]) fun u hu=>(List.mem_append.1 hu).elim (ha u) fun h=>by rw [List.mem_singleton.1 h];exact hav
 rw [cntS_app] at h1
 have:cntS (szT Z) [v]=szT Z v:=Nat.mul_one _
 rwa [this] at h1
end
end Go.Proofs.YthehegidpamldaaGreatDoor
set_option linter.unusedVariables false
set_option linter.unusedSimpArgs false
namespace Go.Proofs.YthehegidpamldaaGreatDoor
open Go Go.RowKit
theorem oFss:Opens Tryz.prog 24 (fun l:List (List F3)=>.fz 1 (l.map fun r=>.fz 3 (r.map frF))) (fun l=>l.length≤140737488355328∧∀r∈l,OkFs r):=(oFs.slice Tryz.underlying24 (by kernel_rfl) (by decide) (by kernel_rfl)).map fun l h=>⟨Nat.le_trans (reach_8 h.1 (by decide +kernel)) (by decide),h.2⟩
end Go.Proofs.YthehegidpamldaaGreatDoor
set_option linter.unusedVariables false
set_option linter.unusedSimpArgs false
namespace Go.Proofs.YthehegidpamldaaGreatDoor
open Go Go.RowKit
theorem oStr:Opens Tryz.prog 9 St OkS:=(Opens.string Tryz.underlying9 (by kernel_rfl)).map fun s h=>h
theorem oTx:Opens Tryz.prog 61 txF OkTx:=(oStr.slice Tryz.underlying61 (by kernel_rfl) (by decide) (by kernel_rfl)).map fun l h=>⟨Nat.le_trans (reach_8 h.1 (by decide +kernel)) (by decide),h.2⟩
theorem oVar:Opens Tryz.prog 63 varF OkV:=Opens.struct2 Tryz.underlying63 (by kernel_rfl) oStr oTx ⟨rfl,rfl,rfl,rfl,by kernel_rfl,by kernel_rfl⟩ ⟨fun _=>rfl,fun _=>rfl⟩
theorem oVars:Opens Tryz.prog 22 (fun l:List VarD=>.fz 2 (l.map varF)) (fun l=>l.length≤140737488355328∧∀x∈l,OkV x):=(oVar.slice Tryz.underlying22 (by kernel_rfl) (by decide) (by kernel_rfl)).map fun l h=>⟨Nat.le_trans (reach_8 h.1 (by decide +kernel)) (by decide),h.2⟩
theorem oIssN:Opens Tryz.prog 23 (fun l:List (List Int)=>.fz 1 (l.map ints)) (fun l=>l.length≤140737488355328∧∀r∈l,OkIs r):=(oIs.slice Tryz.underlying23 (by kernel_rfl) (by decide) (by kernel_rfl)).map fun l h=>⟨Nat.le_trans (reach_8 h.1 (by decide +kernel)) (by decide),h.2⟩
theorem oNet:Opens Tryz.prog 26 netO OkNet:=Opens.struct3 Tryz.underlying26 (by kernel_rfl) oVars oIssN oFss ⟨rfl,rfl,rfl,rfl,rfl,rfl,by kernel_rfl,by kernel_rfl,by kernel_rfl⟩ ⟨fun _=>rfl,fun _=>rfl,fun _=>rfl⟩
def rwsN (R:List (List F3)):List (List Rat):=R.map fun r=>r.map rv3
theorem netOk_of {V:List VarD} {P:List (List Int)} {R:List (List F3)} (h:OkNet (V,P,R)) (hh:(decide (2048<hvK (V,P,R))||decide (800<hvC (V,P,R)))=false):NetOk 2048 V P (R.map rawF) (rwsN R):=by
 obtain ⟨h1,h2,h3⟩:=heavyNet_ok hh
 obtain ⟨_,hP,_⟩:=h
 refine ⟨by omega,fun x hx=>?_,fun x hx=>?_,fun x hx s hs=>?_,⟨hP.1,fun l hl=>hP.2 l hl⟩,⟨by simp [rwsN],fun i r hr=>?_⟩,by decide,by decide,fun r hr=>?_⟩
 ·have:=(h2 x hx).1;omega
 ·have:=(h2 x hx).2.1;omega
 ·have:=(h2 x hx).2.2 s hs;omega
 ·unfold rwsN at hr
  rw [List.getElem?_map] at hr
  cases he:R[i]? with
  | none=>rw [he] at hr;cases hr
  | some y =>
   rw [he] at hr;cases hr
   exact ⟨y.map frF,by rw [List.getElem?_map,he];rfl,fbN_frs (by decide) (h3 y (List.mem_of_getElem? he))⟩
 ·obtain ⟨y,hy,rfl⟩:=List.mem_map.1 hr
  have:=h3 y hy
  have:=fbN_len (l:=y)
  rw [List.length_map];omega
end Go.Proofs.YthehegidpamldaaGreatDoor
set_option linter.unusedVariables false
set_option linter.unusedSimpArgs false
namespace Go.Proofs.YthehegidpamldaaGreatDoor
open Go Go.RowKit Go.Shelf
def sortRen:Go.Shelf.Ren:=⟨fun|189=>37|125=>79|257=>78|128=>120|129=>121|294=>111|295=>112|296=>113|297=>114|298=>115|299=>116|216=>117|300=>118|301=>119|328=>142|329=>143|330=>144|331=>145|332=>146|215=>147|343=>166|n=>n,fun|28=>31|3=>3|46=>111|0=>0|51=>145|53=>147|4=>4|183=>138|182=>137|131=>128|5=>5|9=>9|218=>164|222=>168|228=>189|229=>190|n=>n,fun n=>n⟩
theorem sortLays:Lays.n189 Tryz.prog sortRen where
 mixed:=by kernel_rfl
 f125:=Tryz.func79.trans (congrArg some (by kernel_rfl))
 f128:=Tryz.func120.trans (congrArg some (by kernel_rfl))
 f129:=Tryz.func121.trans (congrArg some (by kernel_rfl))
 f189:=Tryz.func37.trans (congrArg some (by kernel_rfl))
 f215:=Tryz.func147.trans (congrArg some (by kernel_rfl))
 f216:=Tryz.func117.trans (congrArg some (by kernel_rfl))
 f257:=Tryz.func78.trans (congrArg some (by kernel_rfl))
 f294:=Tryz.func111.trans (congrArg some (by kernel_rfl))
 f295:=Tryz.func112.trans (congrArg some (by kernel_rfl))
 f296:=Tryz.func113.trans (congrArg some (by kernel_rfl))
 f297:=Tryz.func114.trans (congrArg some (by kernel_rfl))
 f298:=Tryz.func115.trans (congrArg some (by kernel_rfl))
 f299:=Tryz.func116.trans (congrArg some (by kernel_rfl))
 f300:=Tryz.func118.trans (congrArg some (by kernel_rfl))
 f301:=Tryz.func119.trans (congrArg some (by kernel_rfl))
 f328:=Tryz.func142.trans (congrArg some (by kernel_rfl))
 f329:=Tryz.func143.trans (congrArg some (by kernel_rfl))
 f330:=Tryz.func144.trans (congrArg some (by kernel_rfl))
 f331:=Tryz.func145.trans (congrArg some (by kernel_rfl))
 f332:=Tryz.func146.trans (congrArg some (by kernel_rfl))
 f343:=Tryz.func166.trans (congrArg some (by kernel_rfl))
 t0:=Tryz.underlying0
 a0:=Tryz.isAgg0
 z0:=Tryz.sizeOf0
 v0:=Tryz.zeroValue0
 t3:=Tryz.underlying3
 a3:=Tryz.isAgg3
 z3:=Tryz.sizeOf3
 v3:=Tryz.zeroValue3
 t4:=Tryz.underlying4
 a4:=Tryz.isAgg4
 z4:=Tryz.sizeOf4
 v4:=Tryz.zeroValue4
 t5:=Tryz.underlying5
 a5:=Tryz.isAgg5
 z5:=Tryz.sizeOf5
 v5:=Tryz.zeroValue5
 t9:=Tryz.underlying9
 a9:=Tryz.isAgg9
 z9:=Tryz.sizeOf9
 v9:=Tryz.zeroValue9
 t28:=Tryz.underlying31
 a28:=Tryz.isAgg31
 z28:=Tryz.sizeOf31
 v28:=Tryz.zeroValue31
 t46:=Tryz.underlying111
 a46:=Tryz.isAgg111
 z46:=Tryz.sizeOf111
 v46:=Tryz.zeroValue111
 t51:=Tryz.underlying145
 a51:=Tryz.isAgg145
 z51:=Tryz.sizeOf145
 v51:=Tryz.zeroValue145
 t53:=Tryz.underlying147
 a53:=Tryz.isAgg147
 z53:=Tryz.sizeOf147
 v53:=Tryz.zeroValue147
 t131:=Tryz.underlying128
 a131:=Tryz.isAgg128
 z131:=Tryz.sizeOf128
 v131:=Tryz.zeroValue128
 t182:=Tryz.underlying137
 a182:=Tryz.isAgg137
 z182:=Tryz.sizeOf137
 v182:=Tryz.zeroValue137
 t183:=Tryz.underlying138
 a183:=Tryz.isAgg138
 z183:=Tryz.sizeOf138
 v183:=Tryz.zeroValue138
 t218:=Tryz.underlying164
 a218:=Tryz.isAgg164
 z218:=Tryz.sizeOf164
 v218:=Tryz.zeroValue164
 t222:=Tryz.underlying168
 a222:=Tryz.isAgg168
 z222:=Tryz.sizeOf168
 v222:=Tryz.zeroValue168
 t228:=Tryz.underlying189
 a228:=Tryz.isAgg189
 z228:=Tryz.sizeOf189
 v228:=Tryz.zeroValue189
 t229:=Tryz.underlying190
 a229:=Tryz.isAgg190
 z229:=Tryz.sizeOf190
 v229:=Tryz.zeroValue190
theorem flatF_I (zs:List Int):flatF (zs.map I)=zs.map I:=by
 unfold flatF
 induction zs with
 | nil=>rfl
 | cons z zs ih=>rw [List.map_cons,List.flatMap_cons,ih];rfl
theorem own_cellsI {X:Cx} {w:World} {F:Nat→Prop} {loc:Nat→Nat × Nat} {t:List AV} {a:Act} {H:AH} {q:Nat} {zs:List Int} {ys:Array Value} (R:RelF X F loc ⟨t,H⟩ a w) (hq:H[q]?=some (some ⟨3,1,(zs.map I).map .f⟩))
  (hys:[AV.own q 1 0 zs.length].length=ys.size∧∀(j:Nat) x,[AV.own q 1 0 zs.length][j]?=some x→Rep w F loc H.length x (ys.getD j undef)) :
  ∃cap vs,ys=#[.slice (some ⟨(loc q).1,0,none⟩) zs.length cap]∧zs.length≤cap∧cap≤maxLen∧(loc q).2=cap∧q<H.length∧w.heap[(loc q).1]?=some (.cells vs 3 (0,0))∧vs.size=cap∧∀j,j<zs.length→vs[j]?=some (.int .i64 (zs.getD j 0)):=by
 obtain ⟨hyl,hyr⟩:=hys
 obtain ⟨y,rfl⟩:=Array.size_eq_one_iff.1 hyl.symm
 have h0:Rep w F loc H.length (.own q 1 0 zs.length) y:=hyr 0 _ rfl
 obtain ⟨hu,vs,hv,hvs,hc⟩:=R.obj q _ hq
 cases h0 with
 | own _ _ _ _ cap hr hk hm hs =>
  refine ⟨cap,vs,rfl,hk,hm,by omega,hr,hv,by rw [hvs,hs];omega,fun j hj=>?_⟩
  obtain ⟨u,h1,h2⟩:=hc j (.f (I zs[j])) (by
   show (flat ((zs.map I).map AV.f))[j]?=_
   rw [flat_f,flatF_I,List.getElem?_map,List.getElem?_map,List.getElem?_eq_getElem hj];rfl)
  rw [v_rep h2] at h1
  rw [h1,lget_lt zs 0 hj]
theorem holds_own {w:World} {blk:Nat} {vs:Array Value} {zs:List Int} (hv:w.heap[blk]?=some (.cells vs 3 (0,0))) (hcell:∀j,j<zs.length→vs[j]?=some (.int .i64 (zs.getD j 0))):Go.Sort.Holds (Value.int .i64) w blk 0 zs.toArray:=by
 intro j hj
 have hj':j<zs.length:=by simpa using hj
 refine ⟨?_,by simp [World.frozen?,hv]⟩
 have:=hcell j hj'
 simp only [World.cell?,hv,Nat.zero_add]
 simp only [Option.isSome_none,Bool.false_eq_true,if_false]
 rw [this,lget_lt zs 0 hj']
 simp [hj']
theorem put_rel {X:Cx} {w:World} {F:Nat→Prop} {loc:Nat→Nat × Nat} {t:List AV} {a:Act} {H:AH} {q n:Nat} {os:Array Obj} {zs ts:List Int} {vs:Array Value} (R:RelF X F loc ⟨t,H⟩ a w) (hq:H[q]?=some (some ⟨3,1,(zs.map I).map .f⟩)) (hr:q<H.length)
  (hv:w.heap[(loc q).1]?=some (.cells vs 3 (0,0))) (hvs:vs.size=(loc q).2) (htl:ts.length≤vs.size) :
  RelF X F loc ⟨t,H.set q (some ⟨3,1,(ts.map I).map .f⟩)⟩ a (Go.Sort.grow (Go.Sort.putRow (Value.int .i64) (Go.Sort.ahead w n) (loc q).1 0 ts.toArray) os):=by
 have hqn:=R.new q _ hq
 have hqF:=R.nF q _ hq
 have hblk:(loc q).1<w.heap.size:=(Array.getElem?_eq_some_iff.1 hv).1
 have hheap:(Go.Sort.grow (Go.Sort.putRow (Value.int .i64) (Go.Sort.ahead w n) (loc q).1 0 ts.toArray) os).heap[(loc q).1]?=some (.cells (Go.Sort.putCells (Value.int .i64) 0 ts.toArray vs) 3 (0,0)):=by
  rw [Go.Sort.heap_grow_old _ _ (by simpa [Go.Sort.putRow,Go.Sort.mapBlock,Go.Sort.ahead] using hblk)]
  simp [Go.Sort.putRow,Go.Sort.mapBlock,Go.Sort.ahead,Array.getElem?_modify,hv,Go.Sort.onCells]
 have hby:Beyond (fun b=>b=(loc q).1) w (Go.Sort.grow (Go.Sort.putRow (Value.int .i64) (Go.Sort.ahead w n) (loc q).1 0 ts.toArray) os):=⟨rfl,rfl,rfl,by simp [Go.Sort.grow,Go.Sort.putRow,Go.Sort.mapBlock,Go.Sort.ahead],fun k hk hne=>by
  have hne':¬(loc q).1=k:=fun e=>hne e.symm
  rw [Go.Sort.heap_grow_old _ _ (by simpa [Go.Sort.putRow,Go.Sort.mapBlock,Go.Sort.ahead] using hk)]
  simp [Go.Sort.putRow,Go.Sort.mapBlock,Go.Sort.ahead,Array.getElem?_modify,hne']⟩
 have hdead:∀(r:Nat) o,(H.set q none)[r]?=some (some o)→r≠q∧H[r]?=some (some o):=fun r o h=>by
  by_cases e:r=q
  ·subst e;rw [List.getElem?_set_self hr] at h;cases h
  ·rw [List.getElem?_set_ne (Ne.symm e)] at h;exact ⟨e,h⟩
 have R1:RelF X F loc ⟨t,H.set q none⟩ a w:=R.drop (by simp) fun r o h=>(hdead r o h).2
 have R2:=R1.stepO (F':=F) (O:=fun b=>b=(loc q).1) (fun b hb=>by rw [hb];exact hqn.symm) (fun b hf hb=>hqF (hb▸hf)) (fun r o h e=>(hdead r o h).1 (R.inj r q _ _ (hdead r o h).2 hq e)) hby (fun _ h=>h) (fun b hb=>Nat.lt_of_lt_of_le (R.hF b hb) hby.size) (fun b h=>.inl h)
 refine R2.revive hr hqn hqF (fun r o h e=>(hdead r o h).1 (R.inj r q _ _ (hdead r o h).2 hq e)) ⟨fun e he=>?_,_,hheap,by simp [Go.Sort.putCells];rw [hvs],fun j c hj=>?_⟩
 ·obtain ⟨x,hx,rfl⟩:=List.mem_map.1 he
  obtain ⟨z,_,rfl⟩:=List.mem_map.1 hx
  exact ⟨rfl,rfl⟩
 ·replace hj:(flat ((ts.map I).map AV.f))[j]?=some c:=hj
  rw [flat_f,flatF_I,List.getElem?_map,List.getElem?_map] at hj
  cases hz:ts[j]? with
  | none=>rw [hz] at hj;cases hj
  | some z =>
   rw [hz] at hj
   cases hj
   obtain ⟨hjl,hjz⟩:=List.getElem?_eq_some_iff.1 hz
   refine ⟨.int .i64 z,?_,.f _ _ (.v _)⟩
   have hjv:j<vs.size:=by omega
   simp [Go.Sort.putCells,hjl,hjv,hjz]
theorem sort_u {H:AH} {q:Nat} {zs:List Int} (hq:H[q]?=some (some ⟨3,1,(zs.map I).map .f⟩)) (hz:zs.length<4611686018427387904) :
  CallU Tryz.prog 37 [.own q 1 0 zs.length] H (fun u G=>u=.f (.v (.tuple #[]))∧G=H.set q (some ⟨3,1,((zs.mergeSort fun x y=>decide (x≤y)).map I).map .f⟩)):=by
 refine ⟨by kernel_rfl,fun X w F loc t a ys R hys=>?_⟩
 obtain ⟨cap,vs,rfl,hk,hm,hl2,hr,hv,hvs,hcell⟩:=own_cellsI R hq hys
 have hblk:(loc q).1<w.heap.size:=(Array.getElem?_eq_some_iff.1 hv).1
 refine (Any.slices_Sort_int sortLays (loc q).1 0 cap zs w (holds_own hv hcell) hblk hz).mono ?_
 rintro e w' ⟨rfl,n,os,rfl⟩
 exact ⟨_,F,loc,_,_,⟨rfl,rfl⟩,rfl,put_rel R hq hr hv (by omega) (by rw [List.length_mergeSort];omega),.f _ _ (.v _)⟩
end Go.Proofs.YthehegidpamldaaGreatDoor
set_option linter.unusedVariables false
set_option linter.unusedSimpArgs false
namespace Go.Proofs.YthehegidpamldaaGreatDoor
open Go Go.RowKit
section
variable {P : Program} {X : Cx} {w : World} {F : Nat → Prop} {loc : Nat → Nat × Nat} {s : AS} {a : Act}
end
end Go.Proofs.YthehegidpamldaaGreatDoor
set_option linter.unusedVariables false
set_option linter.unusedSimpArgs false
namespace Go.Proofs.YthehegidpamldaaGreatDoor
open Go Go.RowKit Go.Shelf
set_option maxRecDepth 100000 in
theorem indexZ_w {l:List Int} {k:Int} (hl:l.length≤140737488355328):Good Tryz.prog 83 [ints l,I k] (I (frsI (fun i=>decide (l.getD i 0=k)) l.length)):=by
 refine good_of Tryz.func83 rfl (by kernel_rfl) fun X hO hrd=>?_;rw [Tryz.ntmps83,Tryz.results83];simp only [ast0,List.map_cons,List.map_nil,List.length_cons,List.length_nil,Nat.reduceAdd,Nat.reduceSub,List.replicate_succ,List.replicate_zero,List.cons_append,List.nil_append]
 (repeat (with_reducible first|refine W_seq fun K hK=>?_|refine J_block ?_|refine J_region ?_ |(refine Kont.go (by assumption) ?_)|(simp (config:={ maxSteps:=3000000 }) (disch:=omega) only [go_sem,List.length_map])))
 refine W_loop [4,5,8,9,10,11,12,13,14,15,16,17,18] (fun x:Nat=>[(8,.f (I x))]) (fun x:Nat=>[]) (fun x:Nat=>x≤l.length∧∀j,j<x→decide (l.getD j 0=k)=false) (fun x:Nat=>l.length-x) (0) (⟨Nat.zero_le _,fun j h=>by omega⟩) (by refine weak_of ?_ ?_<;>simp (disch:=omega) only [go_sem]<;>first|rfl|exact ⟨rfl,rfl⟩|exact Or.inl rfl|exact ⟨Or.inl rfl,Or.inl rfl⟩|trivial|assumption|omega|(symm;assumption)|((repeat' apply And.intro)<;>first|rfl|omega|trivial|exact .inl rfl|exact .inr ⟨rfl,rfl⟩|exact .inr rfl|(right;symm;assumption)|(symm;assumption)|assumption)) ?_
 rintro i ⟨hi,hp⟩
 simp only [go_sem]
 (repeat (with_reducible first|refine W_seq fun K hK=>?_|refine J_region ?_ |refine J_c ?_|(refine Kont.go (by assumption) ?_)|(simp (config:={ maxSteps:=3000000 }) (disch:=omega) only [go_sem])))
 refine Jc_if (fun hlt=>?_) (fun hlt=>?_)<;>try simp only [decide_eq_true_eq,decide_eq_false_iff_not] at hlt
 ·have hx:=map_get I l hlt
  have g3:l.getD i 0=l[i]:=lget_lt l 0 hlt
  by_cases hb:l[i]=k
  ·have e:frsI (fun i=>decide (l.getD i 0=k)) l.length=i:=frsI_some hlt (decide_eq_true (by rw [g3];exact hb)) hp
   have hb':k=l[i]:=hb.symm
   (repeat (with_reducible first|refine W_seq fun K hK=>?_|refine J_block ?_|refine J_skip ?_|refine J_ret ?_|refine J_region ?_ |refine J_c ?_|refine Jc_true ?_|(refine Kont.go (by assumption) ?_)|(simp (config:={ maxSteps:=3000000 }) (disch:=omega) only [go_sem,↓reduceIte,hx,←hb',decide_true])))
   rw [e]
   exact Frz.f _
  ·have hb':¬k=l[i]:=fun h=>hb h.symm
   (repeat (with_reducible first|refine W_seq fun K hK=>?_|refine J_block ?_|refine J_skip ?_|refine J_region ?_ |refine J_c ?_|refine Jc_false ?_|(refine Kont.go (by assumption) ?_)|(simp (config:={ maxSteps:=3000000 }) (disch:=omega) only [go_sem,↓reduceIte,hx,hb'])))
   refine ⟨i+1,⟨by omega,upto_next (p:=fun j=>decide (l.getD j 0=k)=false) hp (decide_eq_false (by rw [g3];exact hb))⟩,by omega,weak_of ?_ ?_⟩<;>(try simp (disch:=omega) only [go_sem])<;>(try first|done|omega|rfl|exact ⟨rfl,rfl⟩|trivial)
 ·have he:i=l.length:=by omega
  have e:frsI (fun i=>decide (l.getD i 0=k)) l.length=-1:=frsI_none (he▸hp)
  (repeat (with_reducible first|refine W_seq fun K hK=>?_|refine J_exit ?_|refine J_ret ?_|refine J_region ?_ |(refine Kont.go (by assumption) ?_)|(simp (config:={ maxSteps:=3000000 }) (disch:=omega) only [go_sem,↓reduceIte,Int.reduceNeg])))
  rw [e]
  exact Frz.f _
set_option maxRecDepth 100000 in
theorem cloneZ_w (z:Int) (l:List Int) (hl:l.length≤1000):GoodO Tryz.prog 36 [ints (z::l)] (.own 3 1 ((z::l).map I)):=by
 have hi:ints (z::l)=.fz 1 (I z::l.map I):=rfl
 have hll:(l.map I).length=l.length:=List.length_map ..
 refine goodO_of Tryz.func36 rfl (by kernel_rfl) fun X hO hrd=>?_;rw [Tryz.ntmps36,Tryz.results36];simp only [ast0,List.map_cons,List.map_nil,List.length_cons,List.length_nil,Nat.reduceAdd,Nat.reduceSub,List.replicate_succ,List.replicate_zero,List.cons_append,List.nil_append]
 (repeat (first|(with_reducible first|refine W_seq fun K hK=>?_|refine J_skip ?_|refine J_ret ?_|refine J_region ?_ |refine aApp_old ?_|refine J_c ?_|refine Jc_false ?_|(refine Kont.go (by assumption) ?_)|(simp (config:={ maxSteps:=3000000 }) (disch:=omega) only [go_sem,hi,hll]))|refine And.intro (by omega) ?_))
 refine ⟨1,by simp,rfl,fun x hx=>?_⟩
 rcases List.mem_cons.1 hx with rfl|hx
 ·exact .v _
 ·obtain ⟨y,_,rfl⟩:=List.mem_map.1 hx
  exact .v _
end Go.Proofs.YthehegidpamldaaGreatDoor
set_option linter.unusedVariables false
set_option linter.unusedSimpArgs false
namespace Go.Proofs.YthehegidpamldaaGreatDoor
open Go Go.RowKit
theorem indexN_w {l:List Nat} {i:Nat} (hn:l.Nodup) (hl:l.length≤1000) (hi:i<l.length):Good Tryz.prog 83 [.fz 1 (Ns l),I ((l.getD i 0:Nat):Int)] (I (i:Int)):=by
 have hg:∀j,j<l.length→(l.map Int.ofNat).getD j 0=(l.getD j 0:Int):=fun j hj=>by
  rw [lget_lt _ 0 (by rw [List.length_map];exact hj),List.getElem_map,lget_lt l 0 hj];rfl
 have h:=indexZ_w (l:=l.map Int.ofNat) (k:=((l.getD i 0:Nat):Int)) (by rw [List.length_map];omega)
 have e:frsI (fun j=>decide ((l.map Int.ofNat).getD j 0=((l.getD i 0:Nat):Int))) (l.map Int.ofNat).length=(i:Int):=by
  rw [List.length_map]
  refine frsI_some hi (decide_eq_true (hg i hi)) fun j hj=>decide_eq_false fun e=>?_
  rw [hg j (by omega),lget_lt l 0 hi,lget_lt l 0 (show j<l.length by omega)] at e
  exact List.pairwise_iff_getElem.1 hn j i (by omega) hi hj (by omega)
 rw [e,ints_Ns] at h
 exact h
section
variable {Z pa l : List Nat} {a : Nat → Nat} {v : Nat}
theorem idx_take {i:Nat} (h:i<pa.length):idxS (szT Z) a (pa.take (i+1))=idxS (szT Z) a (pa.take i)*szT Z (pa.getD i 0)+a (pa.getD i 0):=by
 rw [List.take_add_one,List.getElem?_eq_getElem h,lget_lt pa 0 h];exact idxS_snoc
theorem idx_le (h:OkT Z pa) (ha:∀u∈pa,a u<szT Z u) (i:Nat):idxS (szT Z) a (pa.take i)<65536 :=
 Nat.lt_of_lt_of_le (idxS_lt fun u hu=>ha u (List.mem_of_mem_take hu)) (h.ztake i).cnt
theorem mulW {x y:Nat} (hx:x<65536) (hy:y≤4):IntKind.i64.wrap ((x:Int)*(y:Int))=((x*y:Nat):Int):=by
 have h:=Nat.mul_le_mul (Nat.le_of_lt hx) hy
 rw [IntKind.wrap_i64,←Int.natCast_mul];omega
theorem addW {x y z:Nat} (hx:x<65536) (hy:y≤4) (hz:z≤4):IntKind.i64.wrap (((x*y:Nat):Int)+(z:Int))=((x*y+z:Nat):Int):=by
 have h:=Nat.mul_le_mul (Nat.le_of_lt hx) hy
 rw [←Int.natCast_add,IntKind.wrap_i64];omega
end
set_option maxRecDepth 100000 in
set_option maxHeartbeats 8000000 in
theorem spot_w {V:List VarD} {PP RR:List FV} {pa l A:List Nat} {a:Nat→Nat} {v:Nat} (hV:V.length≤1000000) (hT:OkT (szN V) pa) (hL:OkT (szN V) l) (hv:v<V.length) (hp:PP[v]?=some (.fz 1 (Ns pa))) (hvl:v∈l) (hpl:∀u∈pa,u∈l) (hA:A.length=l.length) (hAa:∀i,i<l.length→A.getD i 0=a (l.getD i 0)) (ha:∀u∈l,a u<szT (szN V) u) :
  Good Tryz.prog 40 [netV V PP RR,I (v:Int),.fz 1 (Ns l),.fz 1 (Ns A)] (I ((idxS (szT (szN V)) a (pa++[v]):Nat):Int)):=by
 obtain ⟨Z,hZ⟩:∃Z,Z=szN V:=⟨_,rfl⟩
 have hsz:=sizes_w V PP RR hV
 have hZl:Z.length=V.length:=by rw [hZ,szN_len]
 rw [←hZ] at hT hL ha hsz ⊢
 have hlen:=hT.len
 have hLl:=hL.len
 have hix:∀u∈l,∃i,i<l.length∧Good Tryz.prog 83 [.fz 1 (Ns l),I (u:Int)] (I (i:Int))∧(Ns A)[i]?=some (I ((a u:Nat):Int)):=fun u hu=>by
  obtain ⟨i,hi,rfl⟩:=List.getElem_of_mem hu
  have h:=indexN_w hL.nd (by omega) hi
  rw [lget_lt l 0 hi] at h
  have hg:=Ns_get (l:=A) (i:=i) (by omega)
  rw [hAa i hi,lget_lt l 0 hi] at hg
  exact ⟨i,hi,h,hg⟩
 have hap:∀u∈pa,a u<szT Z u:=fun u hu=>ha u (hpl u hu)
 have hlast:idxS (szT Z) a (pa++[v])=idxS (szT Z) a pa*szT Z v+a v:=idxS_snoc
 rw [hlast]
 refine good_of Tryz.func40 rfl (by kernel_rfl) fun X hO hrd=>?_;rw [Tryz.ntmps40,Tryz.results40];simp only [ast0,List.map_cons,List.map_nil,List.length_cons,List.length_nil,Nat.reduceAdd,Nat.reduceSub,List.replicate_succ,List.replicate_zero,List.cons_append,List.nil_append]
 (repeat (with_reducible first|refine W_seq fun K hK=>?_|refine J_region ?_ |(refine Kont.go (by assumption) ?_)|(simp (config:={ maxSteps:=3000000 }) (disch:=omega) only [go_sem,↓reduceIte,Nat.reduceAdd])))
 (first|refine call_f (hsz) rfl ?_|refine callQ_f (hsz) rfl ?_|refine callHK_f (hsz) rfl ?_|refine callH_f (hsz) rfl ?_)
 (repeat (with_reducible first|refine W_seq fun K hK=>?_|refine J_block ?_|refine J_region ?_ |(refine Kont.go (by assumption) ?_)|(simp (config:={ maxSteps:=3000000 }) (disch:=omega) only [go_sem,↓reduceIte,hp,Ns_len])))
 refine W_loop [10,12,21,22,23,24,25,26,27,28,29,30,31,32,33,34,35,36,37,38] (fun x:Nat=>[(10,.f (I ((idxS (szT Z) a (pa.take x):Nat):Int))),(21,.f (I x))]) (fun x:Nat=>[oNt (V.map varF) PP RR]) (fun x:Nat=>x≤pa.length) (fun x:Nat=>pa.length-x) (0) (Nat.zero_le _) (by refine weak_of ?_ ?_<;>simp (disch:=omega) only [go_sem]<;>first|rfl|exact ⟨rfl,rfl⟩|exact Or.inl rfl|exact ⟨Or.inl rfl,Or.inl rfl⟩|trivial|assumption|omega|(symm;assumption)|((repeat' apply And.intro)<;>first|rfl|omega|trivial|exact .inl rfl|exact .inr ⟨rfl,rfl⟩|exact .inr rfl|(right;symm;assumption)|(symm;assumption)|assumption)) ?_
 rintro x hx
 simp only [go_sem]
 (repeat (with_reducible first|refine W_seq fun K hK=>?_|refine J_region ?_ |refine J_c ?_|(refine Kont.go (by assumption) ?_)|(simp (config:={ maxSteps:=3000000 }) (disch:=omega) only [go_sem])))
 refine Jc_if (fun hxl=>?_) (fun hxl=>?_)<;>try simp only [decide_eq_true_eq,decide_eq_false_iff_not] at hxl
 ·have hmem:pa.getD x 0∈pa:=by rw [lget_lt pa 0 hxl];exact List.getElem_mem _
  have g1:=Ns_get hxl
  have hk:=idx_le hT hap x
  have hnx:=idx_take (Z:=Z) (a:=a) hxl
  generalize pa.getD x 0=u at g1 hmem hnx
  obtain ⟨i,hi,hin,hAi⟩:=hix u (hpl u hmem)
  have hul:=hT.lt u hmem
  have g2:(Ns Z)[u]?=some (I ((szT Z u:Nat):Int)):=Ns_get hul
  have h4:=hT.sz4 hul
  have hau:=hap u hmem
  have hw1:=mulW hk h4
  have hw2:=addW hk h4 (show a u≤4 by omega)
  (repeat (with_reducible first|refine W_seq fun K hK=>?_|refine J_block ?_|refine J_skip ?_|refine J_region ?_ |refine J_drawn mixed (by kernel_rfl) ?_|(refine Kont.go (by assumption) ?_)|(simp (config:={ maxSteps:=3000000 }) (disch:=omega) only [go_sem,↓reduceIte,g1,g2,hw1])))
  (first|refine call_f (hin) rfl ?_|refine callQ_f (hin) rfl ?_|refine callHK_f (hin) rfl ?_|refine callH_f (hin) rfl ?_)
  (repeat (with_reducible first|refine J_region ?_ |(refine Kont.go (by assumption) ?_)|(simp (config:={ maxSteps:=3000000 }) (disch:=omega) only [go_sem,↓reduceIte,hAi,hw2])))
  refine ⟨x+1,by omega,by omega,weak_of ?_ ?_⟩<;>(try simp (disch:=omega) only [go_sem,hnx])<;>(try first|done|omega|rfl|exact ⟨rfl,rfl⟩|trivial)
 ·have he:x=pa.length:=by omega
  subst he
  rw [List.take_length]
  obtain ⟨i,hi,hin,hAi⟩:=hix v hvl
  have hvz:v<Z.length:=by omega
  have g2:(Ns Z)[v]?=some (I ((szT Z v:Nat):Int)):=Ns_get hvz
  have hk:=idx_le hT hap pa.length
  rw [List.take_length] at hk
  have h4:=hT.sz4 hvz
  have hav:=ha v hvl
  have hw1:=mulW hk h4
  have hw2:=addW hk h4 (show a v≤4 by omega)
  (repeat (with_reducible first|refine W_seq fun K hK=>?_|refine J_exit ?_|refine J_drawn mixed (by kernel_rfl) ?_|(refine Kont.go (by assumption) ?_)|(simp (config:={ maxSteps:=3000000 }) (disch:=omega) only [go_sem,↓reduceIte,g2,hw1])))
  (first|refine call_f (hin) rfl ?_|refine callQ_f (hin) rfl ?_|refine callHK_f (hin) rfl ?_|refine callH_f (hin) rfl ?_)
  (repeat (with_reducible first|refine J_ret ?_|exact Frz.f _|(refine Kont.go (by assumption) ?_)|(simp (config:={ maxSteps:=3000000 }) (disch:=omega) only [go_sem,↓reduceIte,hAi,hw2])))
set_option maxRecDepth 100000 in
set_option maxHeartbeats 8000000 in
theorem rowAt_w {V:List VarD} {PP RR xs:List FV} {pa A:List Nat} {a:Nat→Nat} {v:Nat} {g:Bool} {n d:ByteArray} (hT:OkT (szN V) pa) (hv:v<V.length) (hp:PP[v]?=some (.fz 1 (Ns pa))) (hr:RR[v]?=some (.fz 3 xs)) (hA:A.length=V.length) (hAa:∀u,u<V.length→A.getD u 0=a u) (ha:∀u∈pa,a u<szT (szN V) u) (hav:a v<szT (szN V) v) (hx:xs[idxS (szT (szN V)) a (pa++[v])]?=some (frR g n d)) :
  Good Tryz.prog 43 [netV V PP RR,I (v:Int),.fz 1 (Ns A)] (frR g n d):=by
 have hlen:=hT.len
 have hZl:(szN V).length=V.length:=szN_len
 have hAg:∀u,u<V.length→(Ns A)[u]?=some (I ((a u:Nat):Int)):=fun u hu=>by
  have hg:=Ns_get (l:=A) (i:=u) (by omega)
  rwa [hAa u hu] at hg
 have hVg:∀u,u<V.length→∃s:ByteArray,∃w:List FV,(V.map varF)[u]?=some (.agg [St s,.fz 1 w])∧w.length=szT (szN V) u:=fun u hu=>by
  refine ⟨V[u].1,V[u].2.map St,map_get varF V hu,?_⟩
  rw [List.length_map,szT_get hu]
 rw [idxS_snoc] at hx
 generalize hZ:szN V=Z at *
 refine good_of Tryz.func43 rfl (by kernel_rfl) fun X hO hrd=>?_;rw [Tryz.ntmps43,Tryz.results43];simp only [ast0,List.map_cons,List.map_nil,List.length_cons,List.length_nil,Nat.reduceAdd,Nat.reduceSub,List.replicate_succ,List.replicate_zero,List.cons_append,List.nil_append]
 (repeat (with_reducible first|refine W_seq fun K hK=>?_|refine J_block ?_|refine J_region ?_ |(refine Kont.go (by assumption) ?_)|(simp (config:={ maxSteps:=3000000 }) (disch:=omega) only [go_sem,Nat.reduceAdd])))
 refine W_loop [7,8,9,10,11,12,13,14,15,16,17,18,19,20,21,22,23,24,25,26,27,28,29,30,31,32,33,34,35,36,37,38,39,40,41] (fun x:Nat=>[(7,.f (I ((idxS (szT Z) a (pa.take x):Nat):Int))),(8,.f (I x))]) (fun x:Nat=>[oNt (V.map varF) PP RR,oF frN]) (fun x:Nat=>x≤pa.length) (fun x:Nat=>pa.length-x) (0) (Nat.zero_le _) (by refine weak_of ?_ ?_<;>simp (disch:=omega) only [go_sem,Nat.reduceAdd]<;>first|rfl|exact ⟨rfl,rfl⟩|exact Or.inl rfl|exact ⟨Or.inl rfl,Or.inl rfl⟩|trivial|assumption|omega|(symm;assumption)|((repeat' apply And.intro)<;>first|rfl|omega|trivial|exact .inl rfl|exact .inr ⟨rfl,rfl⟩|exact .inr rfl|(right;symm;assumption)|(symm;assumption)|assumption)) ?_
 rintro x hx'
 simp only [go_sem]
 (repeat (with_reducible first|refine W_seq fun K hK=>?_|refine J_region ?_ |refine J_c ?_|(refine Kont.go (by assumption) ?_)|(simp (config:={ maxSteps:=3000000 }) (disch:=omega) only [go_sem,↓reduceIte,hp,Ns_len])))
 refine Jc_if (fun hxl=>?_) (fun hxl=>?_)<;>try simp only [decide_eq_true_eq,decide_eq_false_iff_not] at hxl
 ·have hmem:pa.getD x 0∈pa:=by rw [lget_lt pa 0 hxl];exact List.getElem_mem _
  have g1:=Ns_get hxl
  have hk:=idx_le hT ha x
  have hnx:=idx_take (Z:=Z) (a:=a) hxl
  generalize pa.getD x 0=u at g1 hmem hnx
  have hul:=hT.lt u hmem
  have h4:=hT.sz4 hul
  have hau:=ha u hmem
  obtain ⟨s,w,gv,hwl⟩:=hVg u (by omega)
  have gA:=hAg u (by omega)
  have hw1:=mulW hk h4
  have hw2:=addW hk h4 (show a u≤4 by omega)
  (repeat (with_reducible first|refine W_seq fun K hK=>?_|refine J_block ?_|refine J_skip ?_|refine J_region ?_ |refine J_drawn mixed (by kernel_rfl) ?_|(refine Kont.go (by assumption) ?_)|(simp (config:={ maxSteps:=3000000 }) (disch:=omega) only [go_sem,↓reduceIte,hp,g1,gv,hwl,gA,hw1,hw2])))
  refine ⟨x+1,by omega,by omega,weak_of ?_ ?_⟩<;>(try simp (disch:=omega) only [go_sem,Nat.reduceAdd,hnx])<;>(try first|done|omega|rfl|exact ⟨rfl,rfl⟩|trivial)
 ·have he:x=pa.length:=by omega
  subst he
  rw [List.take_length]
  obtain ⟨s,w,gv,hwl⟩:=hVg v hv
  have gA:=hAg v hv
  have hk:=idx_le hT ha pa.length
  rw [List.take_length] at hk
  have h4:=hT.sz4 (show v<Z.length by omega)
  have hw1:=mulW hk h4
  have hw2:=addW hk h4 (show a v≤4 by omega)
  (repeat (with_reducible first|refine W_seq fun K hK=>?_|refine J_exit ?_|refine J_ret ?_|refine J_drawn mixed (by kernel_rfl) ?_|exact Frz.f _|(refine Kont.go (by assumption) ?_)|(simp (config:={ maxSteps:=3000000 }) (disch:=omega) only [go_sem,↓reduceIte,Nat.reduceAdd,hr,gv,hwl,gA,hw1,hw2,hx])))
end Go.Proofs.YthehegidpamldaaGreatDoor
