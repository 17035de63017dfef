/- Fractions compared as they are told. Conditions: none. -/
import Derived.Test.YtmcgeppgfjlclaaGreatDoorYB15
import Derived.Laws.StructEq
import Derived.Laws.Strings
import Derived.Test.YtmcgeppgfjlclaaGreatDoorYB11
import Derived.Test.YtmcgeppgfjlclaaGreatDoorYB10
import Derived.Test.YtmcgeppgfjlclaaGreatDoorYB00
import Derived.Test.YtmcgeppgfjlclaaGreatDoorYB09
set_option linter.unusedVariables false
set_option linter.unusedSimpArgs false
namespace Go.Proofs.YtmcgeppgfjlclaaGreatDoor
open Go Go.RowKit
def eqR (g:Bool) (n d:ByteArray) (g':Bool) (n' d':ByteArray):Bool:=(g==g')&&(decide (n=n')&&decide (d=d'))
theorem toList_eq_iff {a b:ByteArray}:(a.toList==b.toList)=decide (a=b):=by
 have:(a.toList=b.toList)↔a=b:=by
  rw [ByteArray.toList_eq,ByteArray.toList_eq]
  exact ⟨fun h=>by cases a;cases b;simp_all [Array.toList_inj],fun h=>by rw [h]⟩
 by_cases h:a=b
 ·subst h;simp
 ·rw [decide_eq_false h];simpa using fun h'=>h (this.1 h')
set_option maxRecDepth 100000 in
theorem run_eq3 (w:World) (g g':Bool) (n d n' d':ByteArray):(Op.equalIn 10000 50 (.agg #[.bool g,.string n,.string d]) (.agg #[.bool g',.string n',.string d'])).run Tryz.prog w=.ok (eqR g n d g' n' d') w:=by
 rw [run_equalIn_agg w 9999 _ _ _ (by kernel_rfl) (by kernel_rfl)]
 unfold Program.fieldsOf
 rw [Tryz.underlying50]
 have p0:∀(a b c:Value),(part 4 #[a,b,c] 0).run Tryz.prog w=.ok a w:=fun a b c=>by kernel_rfl
 have p1:∀(a b c:Value),(part 48 #[a,b,c] 1).run Tryz.prog w=.ok b w:=fun a b c=>by kernel_rfl
 have p2:∀(a b c:Value),(part 48 #[a,b,c] 2).run Tryz.prog w=.ok c w:=fun a b c=>by kernel_rfl
 have q0:=run_equalIn_bool' w 9998 4 g g' Tryz.underlying4
 have q1:=run_equalIn_string w 9998 48 n n' Tryz.underlying48
 have q2:=run_equalIn_string w 9998 48 d d' Tryz.underlying48
 rw [toList_eq_iff] at q1 q2
 rw [show (9998+1:Nat)=9999 from rfl] at q0 q1 q2
 have h1 : ("Neg" : String) ≠ "_" := by decide
 have h2 : ("Num" : String) ≠ "_" := by decide
 have h3 : ("Den" : String) ≠ "_" := by decide
 show (Op.eqFields 9999 _ _ [_,_,_]).run _ _=_
 unfold eqR
 simp only [Op.eqFields,h1,h2,h3,ne_eq,not_false_eq_true,if_true,Sem.run_bind,p0,Result.andThen_ok,q0]
 cases hg:(g==g') with
 | false=>simp
 | true =>
  cases hn:decide (n=n') with
  | false=>simp [hn,p1,q1]
  | true =>
   cases hd:decide (d=d') with
   | false=>simp [hn,hd,p1,q1,p2,q2]
   | true=>simp [hn,hd,p1,q1,p2,q2]
theorem eqR_fr (a b:Rat):eqR (cg a) (cn a) (cd a) (cg b) (cn b) (cd b)=decide (a=b):=by
 by_cases h:a=b
 ·subst h;simp [eqR]
 ·rw [decide_eq_false h]
  unfold eqR
  by_cases h1:cg a=cg b
  ·by_cases h2:cn a=cn b
   ·by_cases h3:cd a=cd b
    ·exact absurd (by rw [←rv_c a,←rv_c b,h1,h2,h3]) h
    ·simp [h3]
   ·simp [h2]
  ·have:(cg a==cg b)=false:=by simpa using h1
   rw [this];rfl
section
variable {k : AV → Prop} {X Y : Operand}
@[go_sem] theorem bin_eqR {g g':Bool} {n d n' d':ByteArray}:aBin Tryz.prog .eql 50 X Y (.f (frR g n d)) (.f (frR g' n' d')) k=k (.f (.v (.bool (eqR g n d g' n' d')))) :=
 bin_run (U:=.agg #[.bool g,.string n,.string d]) (V:=.agg #[.bool g',.string n',.string d']) rfl rfl (fun _ _ h=>by cases h) (fun _ h=>by cases h) fun w=>by
  rw [Sem.run_bind,run_eqGuard_agg w .eql 50 X Y _ _ (by kernel_rfl),Result.andThen_ok,run_eql_struct,run_eq3];rfl
@[go_sem] theorem bin_neR {g g':Bool} {n d n' d':ByteArray}:aBin Tryz.prog .neq 50 X Y (.f (frR g n d)) (.f (frR g' n' d')) k=k (.f (.v (.bool (!eqR g n d g' n' d')))) :=
 bin_run (U:=.agg #[.bool g,.string n,.string d]) (V:=.agg #[.bool g',.string n',.string d']) rfl rfl (fun _ _ h=>by cases h) (fun _ h=>by cases h) fun w=>by
  rw [Sem.run_bind,run_eqGuard_agg w .neq 50 X Y _ _ (by kernel_rfl),Result.andThen_ok,run_neq_struct,run_eq3];rfl
@[go_sem] theorem bin_eqf {a b:Rat}:aBin Tryz.prog .eql 50 X Y (.f (fr a)) (.f (fr b)) k=k (.f (.v (.bool (decide (a=b))))):=by
 rw [fr_frR,fr_frR,bin_eqR,eqR_fr]
@[go_sem] theorem bin_nef {a b:Rat}:aBin Tryz.prog .neq 50 X Y (.f (fr a)) (.f (fr b)) k=k (.f (.v (.bool (!decide (a=b))))):=by
 rw [fr_frR,fr_frR,bin_neR,eqR_fr]
end
end Go.Proofs.YtmcgeppgfjlclaaGreatDoor
set_option linter.unusedVariables false
set_option linter.unusedSimpArgs false
namespace Go.Proofs.YtmcgeppgfjlclaaGreatDoor
open Go Go.RowKit
theorem J_mask {X:Cx} {P:Program} (ws:List Nat) {c:Code} {Q:Exit→AS→Prop} {t:List AV} {H:AH} (hw:Weak ⟨t,H⟩ ⟨msk ws t,H⟩) (hJ:J X P c Q ⟨msk ws t,H⟩):J X P c Q ⟨t,H⟩:=J_weak hw hJ
end Go.Proofs.YtmcgeppgfjlclaaGreatDoor
set_option linter.unusedVariables false
set_option linter.unusedSimpArgs false
namespace Go.Proofs.YtmcgeppgfjlclaaGreatDoor
open Go Go.RowKit
theorem flat_setc {x y:AV} (h:x.cells=y.cells):∀{i:Nat} {l:List AV},flat (l.set i x)=flat (l.set i y):=by
 intro i l
 induction l generalizing i with
 | nil=>rfl
 | cons e es ih =>
  cases i with
  | zero=>rw [List.set_cons_zero,List.set_cons_zero,flat_cons,flat_cons,h]
  | succ i=>rw [List.set_cons_succ,List.set_cons_succ,flat_cons,flat_cons,ih]
theorem RelF.norm1 {X:Cx} {F:Nat→Prop} {loc:Nat→Nat × Nat} {t:List AV} {H:AH} {a:Act} {w:World} (R:RelF X F loc ⟨t,H⟩ a w) {r sz i:Nat} {e:TypeId} {es:List AV} {x y:AV} (hr:H[r]?=some (some ⟨e,sz,es.set i x⟩)) (hi:i<es.length) (hc:x.cells=y.cells) (hy:y.st=true) :
  RelF X F loc ⟨t,H.set r (some ⟨e,sz,es.set i y⟩)⟩ a w:=by
 have hl:(H.set r (some ⟨e,sz,es.set i y⟩)).length=H.length:=List.length_set
 have hof:∀q o,(H.set r (some ⟨e,sz,es.set i y⟩))[q]?=some (some o)→∃o',H[q]?=some (some o'):=fun q o h=>by
  by_cases e0:r=q
  ·subst e0;exact ⟨_,hr⟩
  ·rw [List.getElem?_set_ne e0] at h;exact ⟨o,h⟩
 refine ⟨R.hF,R.hG,R.hN,R.below,R.defers,R.len,fun j z hj=>by have:=R.tmps j z hj;rw [←hl] at this;exact this,fun q o h=>?_,fun q o h=>?_,fun q o h=>?_,fun q q' o o' h h'=>?_⟩
 ·by_cases e0:r=q
  ·subst e0
   have h:(H.set r (some ⟨e,sz,es.set i y⟩))[r]?=some (some o):=h
   rw [List.getElem?_set_self (hlt hr)] at h
   cases h
   obtain ⟨hu,vs,hvs,hvz,hcc⟩:=R.obj r _ hr
   refine ⟨fun z hz=>?_,vs,hvs,hvz,fun j c hj=>?_⟩
   ·obtain ⟨j,hj,rfl⟩:=List.getElem_of_mem hz
    by_cases e1:i=j
    ·subst e1
     have hxm:x∈es.set i x:=by
      have:=List.getElem_mem (l:=es.set i x) (n:=i) (by rw [List.length_set];exact hi)
      rwa [List.getElem_set_self] at this
     rw [List.getElem_set_self,←hc]
     exact ⟨(hu x hxm).1,hy⟩
    ·have hj2:j<(es.set i x).length:=by rw [List.length_set] at hj ⊢;exact hj
     have:=hu _ (List.getElem_mem hj2)
     rw [List.getElem_set_ne e1] at this ⊢
     exact this
   ·obtain ⟨u,h1,h2⟩:=hcc j c (by rw [flat_setc hc];exact hj)
    exact ⟨u,h1,by show Rep w F loc (H.set r _).length c u;rw [hl];exact h2⟩
  ·have h:(H.set r (some ⟨e,sz,es.set i y⟩))[q]?=some (some o):=h
   rw [List.getElem?_set_ne e0] at h
   have:=R.obj q o h
   show ObjAt w F loc (H.set r _).length q o
   rw [hl];exact this
 ·obtain ⟨o',h'⟩:=hof q o h;exact R.new q o' h'
 ·obtain ⟨o',h'⟩:=hof q o h;exact R.nF q o' h'
 ·obtain ⟨p,hp⟩:=hof q o h
  obtain ⟨p',hp'⟩:=hof q' o' h'
  exact R.inj q q' p p' hp hp'
theorem J_norm1 {X:Cx} {P:Program} {Q:Exit→AS→Prop} {t:List AV} {H:AH} (r:Nat) (x:AV) {sz i:Nat} {e:TypeId} {es:List AV} {y:AV} (hr:H[r]?=some (some ⟨e,sz,es.set i x⟩)) (hi:i<es.length) (hc:x.cells=y.cells) (hy:y.st=true) {c:Code} (h:J X P c Q ⟨t,H.set r (some ⟨e,sz,es.set i y⟩)⟩):J X P c Q ⟨t,H⟩ :=
 fun hk a w ⟨F,loc,R⟩=>h hk a w ⟨F,loc,R.norm1 hr hi hc hy⟩
end Go.Proofs.YtmcgeppgfjlclaaGreatDoor
set_option linter.unusedVariables false
set_option linter.unusedSimpArgs false
namespace Go.Proofs.YtmcgeppgfjlclaaGreatDoor
open Go Go.RowKit
set_option maxRecDepth 100000 in
set_option maxHeartbeats 4000000 in
theorem canonL_w {xs:List FV} {l:List Rat} {k:Nat} (hl:Frs k xs l) (hn:l.length≤65536) (hk:k≤10000000):Good Tryz.prog 46 [.fz 3 xs] (frs l):=by
 have hxl:=hl.len
 obtain ⟨n,hne⟩:∃n,n=l.length:=⟨_,rfl⟩
 have hxn:xs.length=n:=by omega
 have hby:(40:Int)*(n:Int)≤281474976710656:=by omega
 have e0:([]:List AV)=((l.take 0).map fr).map AV.f:=rfl
 refine good_of Tryz.func46 rfl (by kernel_rfl) fun X hO hrd=>?_;rw [Tryz.ntmps46,Tryz.results46];simp only [ast0,List.map_cons,List.map_nil,List.length_cons,List.length_nil,Nat.reduceAdd,Nat.reduceSub,List.replicate_succ,List.replicate_zero,List.cons_append,List.nil_append]
 (repeat (first|(with_reducible first|refine W_seq fun K hK=>?_|refine J_block ?_|refine J_region ?_ |(refine Kont.go (by assumption) ?_)|(simp (config:={ maxSteps:=3000000 }) (disch:=omega) only [go_sem,Nat.reduceAdd,Int.reduceLE,hxn]))|refine And.intro (by omega) ?_))
 refine J_mask [8] (by refine weak_of ?_ ?_<;>simp (disch:=omega) only [go_sem]<;>first|rfl|exact ⟨rfl,rfl⟩|exact Or.inl rfl|exact ⟨Or.inl rfl,Or.inl rfl⟩|trivial|assumption|omega|(symm;assumption)|((repeat' apply And.intro)<;>first|rfl|omega|trivial|exact .inr ⟨rfl,rfl⟩|exact .inr rfl|(right;symm;assumption)|(symm;assumption)|assumption)) ?_;simp only [go_sem]
 refine W_loop [3,5,11,12,13,14,15,16,17,18,19,20] (fun x:Nat=>[(3,.own 0 3 0 x),(11,.f (I x))]) (fun x:Nat=>[some ⟨50,3,((l.take x).map fr).map .f⟩]) (fun x:Nat=>x≤n) (fun x:Nat=>n-x) (0) (Nat.zero_le _) (by refine weak_of ?_ ?_<;>simp (disch:=omega) only [go_sem]<;>first|rfl|exact ⟨rfl,rfl⟩|exact Or.inl rfl|exact ⟨Or.inl rfl,Or.inl rfl⟩|trivial|assumption|omega|(symm;assumption)|((repeat' apply And.intro)<;>first|rfl|omega|trivial|exact .inl rfl|exact .inr ⟨rfl,rfl⟩|exact .inr rfl|(right;symm;assumption)|(symm;assumption)|assumption)) ?_
 rintro x hx
 simp only [go_sem]
 (repeat (with_reducible first|refine W_seq fun K hK=>?_|refine J_region ?_ |refine J_c ?_|(refine Kont.go (by assumption) ?_)|(simp (config:={ maxSteps:=3000000 }) (disch:=omega) only [go_sem])))
 refine Jc_if (fun hxl=>?_) (fun hxl=>?_)<;>try simp only [decide_eq_true_eq,decide_eq_false_iff_not] at hxl
 ·have hxll:x<l.length:=by omega
  obtain ⟨g,a,b,g1,g2⟩:=hl.at3 hxll
  have hc:=canon_w g2 (by omega)
  have htl:(l.take x).length=x:=by rw [List.length_take];omega
  have hol:(((l.take x).map fr).map AV.f).length=x:=by rw [List.length_map,List.length_map,htl]
  have htk:(((l.take x).map fr).map AV.f).take x=((l.take x).map fr).map .f:=List.take_of_length_le (by omega)
  have hap:((l.take x).map fr).map AV.f++[.f (fr l[x])]=((l.take (x+1)).map fr).map .f:=by rw [List.take_add_one,List.getElem?_eq_getElem hxll,List.map_append,List.map_append];rfl
  have hb1:(x+1)*40≤140737488355328:=by omega
  (repeat (first|(with_reducible first|refine W_seq fun K hK=>?_|refine J_block ?_|refine J_skip ?_|refine J_region ?_ |refine aApp_old ?_|(refine Kont.go (by assumption) ?_)|(simp (config:={ maxSteps:=3000000 }) (disch:=omega) only [go_sem,↓reduceIte,Nat.reduceAdd,Nat.reduceLeDiff,g1,htk,hap,hb1,hol]))|refine call_f (canon_w (by assumption) (by omega)) rfl ?_|refine And.intro (by omega) ?_))
  refine ⟨x+1,by omega,by omega,weak_ren [3] ⟨by decide,by first|decide|(simp;done)⟩ ?_ ?_⟩<;>(try simp (disch:=omega) only [go_sem])<;>(try first|done|omega|rfl|exact ⟨rfl,rfl⟩|trivial)
 ·have he:x=n:=by omega
  subst he
  rw [hne,List.take_length]
  (repeat (with_reducible first|refine W_seq fun K hK=>?_|refine J_exit ?_|refine J_ret ?_|refine J_region ?_ |(refine Kont.go (by assumption) ?_)|(simp (config:={ maxSteps:=3000000 }) (disch:=omega) only [go_sem,↓reduceIte])))
  exact Frz.own0 rfl (by rw [List.length_map])
@[go_sem] theorem oc_fn {f:FuncId} {a b:List FV}:(FV.fn f a b).oc=true:=rfl
@[go_sem] theorem oc_nf:(FV.v Value.nilFunc).oc=true:=rfl
@[go_sem] theorem ti_jf:tI Tryz.prog 58=some ⟨false,1,8,some (.v .nilFunc),[],false,[]⟩:=by kernel_rfl
@[go_sem] theorem ts_jf:tS Tryz.prog 58=none:=by kernel_rfl
@[go_sem] theorem ti_ring:tI Tryz.prog 60=some ⟨true,4,48,some (.agg [.v (.bool false),.v (.string ⟨#[]⟩),.v (.string ⟨#[]⟩),.v .nilFunc]),[some 0,some 3],false,[3,1]⟩:=by kernel_rfl
@[go_sem] theorem fo_ring:fieldsOk Tryz.prog 60=true:=by kernel_rfl
@[go_sem] theorem ts_ring:tS Tryz.prog 60=none:=by kernel_rfl
abbrev ringV (z:Rat) (jf:FuncId):FV:=.agg [Bo (cg z),St (cn z),St (cd z),.fn jf [] []]
def gaR (op:Rat→Rat→Rat) (z:Rat) (tw:Nat→Nat) (qs:List Rat) (k i:Nat):Rat:=(jnS op (fun k=>qs.getD k 0) ((List.range k).filter fun k=>tw k==i)).getD z
def gaN (tw:Nat→Nat) (k i:Nat):Nat:=((List.range k).filter fun k=>tw k==i).length
section
variable {op : Rat → Rat → Rat} {z : Rat} {tw : Nat → Nat} {qs : List Rat} {k i n : Nat}
theorem gaN_next:gaN tw (k+1) i=if tw k=i then gaN tw k i+1 else gaN tw k i:=by
 unfold gaN
 rw [List.range_succ,List.filter_append]
 by_cases h:tw k=i
 ·rw [if_pos h,show [k].filter (fun k=>tw k==i)=[k] from by simp [h],List.length_append];rfl
 ·rw [if_neg h,show [k].filter (fun k=>tw k==i)=[] from by simp [h],List.append_nil]
theorem gaN_zero:gaN tw 0 i=0:=rfl
theorem gaN_le:gaN tw k i≤k:=by unfold gaN;exact Nat.le_trans (List.length_filter_le _ _) (by simp)
theorem gaR_next:gaR op z tw qs (k+1) i=if tw k=i then (if gaN tw k i=0 then qs.getD k 0 else op (gaR op z tw qs k i) (qs.getD k 0)) else gaR op z tw qs k i:=by
 unfold gaR gaN
 rw [jnS_range]
 by_cases h:tw k=i
 ·rw [if_pos h,if_pos (by simp [h])]
  by_cases h0:((List.range k).filter fun k=>tw k==i).length=0
  ·rw [if_pos h0,List.length_eq_zero_iff.1 h0];rfl
  ·rw [if_neg h0]
   cases hj:jnS op (fun k=>qs.getD k 0) ((List.range k).filter fun k=>tw k==i) with
   | none=>exact absurd (List.length_eq_zero_iff.2 (jnS_none.1 hj)) h0
   | some r=>rfl
 ·rw [if_neg h,if_neg (by simp [h])]
end
set_option maxRecDepth 100000 in
set_option maxHeartbeats 8000000 in
theorem gather_w {op:Rat→Rat→Rat} {z:Rat} {tw:Nat→Nat} {qs:List Rat} {n:Nat} {jf tf:FuncId} {ts:List FV} (h1:1≤n) (hn:n≤65536) (hq:qs.length≤65536)
  (ht:∀k,k<qs.length→Good Tryz.prog tf ([]++[I (k:Int)]++ts) (I (tw k:Nat))∧tw k<n)
  (hj:∀k,k<qs.length→gaN tw k (tw k)≠0→Good Tryz.prog jf ([]++[fr (gaR op z tw qs k (tw k)),fr (qs.getD k 0)]++[]) (fr (op (gaR op z tw qs k (tw k)) (qs.getD k 0)))) :
  Good Tryz.prog 44 [ringV z jf,I n,frs qs,.fn tf [] ts] (frs ((List.range n).map (gaR op z tw qs qs.length))):=by
 have hby:(40:Int)*(n:Int)≤281474976710656:=by omega
 have hby2:(8:Int)*(n:Int)≤281474976710656:=by omega
 have hz1:List.replicate n (AV.f frN)=(fillL n 0 (fun _=>fr z) frN).map AV.f:=by rw [fill_zero,List.map_replicate]
 have hz2:List.replicate n (AV.f (FV.v (.int .i64 0)))=((List.range n).map fun i=>I (gaN tw 0 i:Nat)).map AV.f:=by
  apply List.ext_getElem (by simp)
  intro j h1 h2
  simp [gaN_zero]
 have hz3:(fillL n n (fun _=>fr z) frN).map AV.f=((List.range n).map fun i=>fr (gaR op z tw qs 0 i)).map AV.f:=by rw [fill_all];rfl
 obtain ⟨N,hN⟩:∃N,N=qs.length:=⟨_,rfl⟩
 have hqm:(qs.map fr).length=N:=by rw [List.length_map,hN]
 rw [←hN] at hq ht hj ⊢
 refine good_of Tryz.func44 rfl (by kernel_rfl) fun X hO hrd=>?_;rw [Tryz.ntmps44,Tryz.results44];simp only [ast0,List.map_cons,List.map_nil,List.length_cons,List.length_nil,Nat.reduceAdd,Nat.reduceSub,List.replicate_succ,List.replicate_zero,List.cons_append,List.nil_append]
 (repeat (first|(with_reducible first|refine W_seq fun K hK=>?_|refine J_block ?_|refine J_region ?_ |(refine Kont.go (by assumption) ?_)|(simp (config:={ maxSteps:=3000000 }) (disch:=omega) only [go_sem,Nat.reduceAdd,hz1,hz2]))|refine And.intro (by omega) ?_))
 refine W_loop [11,21,22,23,24,25,26,27,28,29] (fun x:Nat=>[(21,.f (I x))]) (fun x:Nat=>[some ⟨60,4,[.f (ringV z jf)]⟩,some ⟨50,3,(fillL n x (fun _=>fr z) frN).map .f⟩,some ⟨3,1,((List.range n).map fun i=>I (gaN tw 0 i:Nat)).map .f⟩]) (fun x:Nat=>x≤n) (fun x:Nat=>n-x) (0) (Nat.zero_le _) (by refine weak_of ?_ ?_<;>simp (disch:=omega) only [go_sem,Nat.reduceAdd]<;>first|rfl|exact ⟨rfl,rfl⟩|exact Or.inl rfl|exact ⟨Or.inl rfl,Or.inl rfl⟩|trivial|assumption|omega|(symm;assumption)|((repeat' apply And.intro)<;>first|rfl|omega|trivial|exact .inl rfl|exact .inr ⟨rfl,rfl⟩|exact .inr rfl|(right;symm;assumption)|(symm;assumption)|assumption)) ?_
 ·rintro x hx
  simp only [go_sem]
  (repeat (with_reducible first|refine W_seq fun K hK=>?_|refine J_region ?_ |refine J_c ?_|(refine Kont.go (by assumption) ?_)|(simp (config:={ maxSteps:=3000000 }) (disch:=omega) only [go_sem])))
  refine Jc_if (fun hxn=>?_) (fun hxn=>?_)<;>try simp only [decide_eq_true_eq,decide_eq_false_iff_not] at hxn
  ·have hset:=fillA_set (f:=fun _=>fr z) (z:=frN) hxn rfl
   (repeat (with_reducible first|refine W_seq fun K hK=>?_|refine J_block ?_|refine J_skip ?_|((fail_if_success refine J_region (id:=7) ?_);refine J_region ?_) |(refine Kont.go (by assumption) ?_)|(simp (config:={ maxSteps:=3000000 }) (disch:=omega) only [go_sem,Nat.reduceEqDiff,↓reduceIte,Nat.reduceAdd,Nat.reduceLeDiff,fillA_get hxn,hxn])))
   refine J_norm1 1 (AV.agg [.f (Bo (cg z)),.f (St (cn z)),.f (St (cd z))]) (y:=.f (fr z)) rfl (by rw [List.length_map,fill_len];exact hxn) rfl rfl ?_
   (repeat (with_reducible first|refine J_region ?_ |(simp (config:={ maxSteps:=3000000 }) (disch:=omega) only [go_sem,hset])))
   refine ⟨x+1,by omega,by omega,weak_of ?_ ?_⟩<;>(try simp (disch:=omega) only [go_sem,Nat.reduceAdd])<;>(try first|done|omega|rfl|exact ⟨rfl,rfl⟩|trivial)
  ·have he:x=n:=by omega
   subst he
   rw [hz3]
   (repeat (with_reducible first|refine W_seq fun K hK=>?_|refine J_block ?_|refine J_exit ?_|refine J_region ?_ |(refine Kont.go (by assumption) ?_)|(simp (config:={ maxSteps:=3000000 }) (disch:=omega) only [go_sem,↓reduceIte,hqm])))
   refine W_loop [12,13,14,32,33,34,35,36,37,38,39,40,41,42,43,44,45,46,47,48,49,50,51,52,53,54,55,56,57,58,59,60,61,62,63,64,65,66] (fun y:Nat=>[(32,.f (I y))]) (fun y:Nat=>[some ⟨60,4,[.f (ringV z jf)]⟩,some ⟨50,3,((List.range x).map fun i=>fr (gaR op z tw qs y i)).map .f⟩,some ⟨3,1,((List.range x).map fun i=>I (gaN tw y i:Nat)).map .f⟩]) (fun y:Nat=>y≤N) (fun y:Nat=>N-y) (0) (Nat.zero_le _) (by refine weak_of ?_ ?_<;>simp (disch:=omega) only [go_sem,Nat.reduceAdd]<;>first|rfl|exact ⟨rfl,rfl⟩|exact Or.inl rfl|exact ⟨Or.inl rfl,Or.inl rfl⟩|trivial|assumption|omega|(symm;assumption)|((repeat' apply And.intro)<;>first|rfl|omega|trivial|exact .inl rfl|exact .inr ⟨rfl,rfl⟩|exact .inr rfl|(right;symm;assumption)|(symm;assumption)|assumption)) ?_
   rintro y hy
   simp only [go_sem]
   (repeat (with_reducible first|refine W_seq fun K hK=>?_|refine J_region ?_ |refine J_c ?_|(refine Kont.go (by assumption) ?_)|(simp (config:={ maxSteps:=3000000 }) (disch:=omega) only [go_sem])))
   refine Jc_if (fun hyN=>?_) (fun hyN=>?_)<;>try simp only [decide_eq_true_eq,decide_eq_false_iff_not] at hyN
   ·have hyq:y<qs.length:=by omega
    have gq:=map_get fr qs hyq
    have gD:qs.getD y 0=qs[y]:=lget_lt qs 0 hyq
    obtain ⟨tg,tl⟩:=ht y hyN
    have gN:(((List.range x).map fun i=>I (gaN tw y i:Nat)).map AV.f)[tw y]?=some (.f (I (gaN tw y (tw y):Nat))):=by simp [tl]
    have gR:(((List.range x).map fun i=>fr (gaR op z tw qs y i)).map AV.f)[tw y]?=some (.f (fr (gaR op z tw qs y (tw y)))):=by simp [tl]
    have hle:=gaN_le (tw:=tw) (k:=y) (i:=tw y)
    have sN:(((List.range x).map fun i=>I (gaN tw y i:Nat)).map AV.f).set (tw y) (.f (I ((gaN tw y (tw y):Nat)+1:Int)))=((List.range x).map fun i=>I (gaN tw (y+1) i:Nat)).map AV.f:=by
     rw [←List.map_set,range_set tl]
     congr 1
     refine List.map_congr_left fun i hi=>?_
     rw [gaN_next]
     by_cases e:i=tw y
     ·rw [if_pos e,if_pos e.symm,e];rfl
     ·rw [if_neg e,if_neg (Ne.symm e)]
    have sR:(((List.range x).map fun i=>fr (gaR op z tw qs y i)).map AV.f).set (tw y) (.f (fr (if gaN tw y (tw y)=0 then qs.getD y 0 else op (gaR op z tw qs y (tw y)) (qs.getD y 0))))=((List.range x).map fun i=>fr (gaR op z tw qs (y+1) i)).map AV.f:=by
     rw [←List.map_set,range_set tl]
     congr 1
     refine List.map_congr_left fun i hi=>?_
     rw [gaR_next]
     by_cases e:i=tw y
     ·rw [if_pos e,if_pos e.symm,e]
     ·rw [if_neg e,if_neg (Ne.symm e)]
    have lN:(((List.range x).map fun i=>I (gaN tw y i:Nat)).map AV.f).length=x:=by simp
    have lR:(((List.range x).map fun i=>fr (gaR op z tw qs y i)).map AV.f).length=x:=by simp
    (repeat (with_reducible first|refine W_seq fun K hK=>?_|refine J_block ?_|refine J_skip ?_|refine J_region ?_ |(refine Kont.go (by assumption) ?_)|(simp (config:={ maxSteps:=3000000 }) (disch:=omega) only [go_sem,↓reduceIte,Nat.reduceAdd,gq])))
    refine call_f tg (by simp) ?_
    by_cases h0:gaN tw y (tw y)=0
    ·have h0':((gaN tw y (tw y):Nat):Int)=0:=by omega
     rw [if_pos h0,gD] at sR
     (repeat (with_reducible first|refine W_seq fun K hK=>?_|refine J_region ?_ |refine J_c ?_|refine Jc_true ?_|(refine Kont.go (by assumption) ?_)|(simp (config:={ maxSteps:=3000000 }) (disch:=omega) only [go_sem,↓reduceIte,Nat.reduceAdd,Int.reduceAdd,gN,gR,h0',tl,sR])))
     rw [h0'] at sN
     (skip)
     refine ⟨y+1,by omega,by omega,weak_of ?_ ?_⟩<;>(try simp (disch:=omega) only [go_sem,Nat.reduceAdd])<;>(try first|done|omega|rfl|exact ⟨rfl,rfl⟩|trivial)
    ·have h0':¬((gaN tw y (tw y):Nat):Int)=0:=by omega
     rw [if_neg h0,gD] at sR
     have hjf:=hj y hyN h0
     rw [gD] at hjf
     (repeat (with_reducible first|refine W_seq fun K hK=>?_|refine J_region ?_ |refine J_drawn mixed (by kernel_rfl) ?_|refine J_c ?_|refine Jc_false ?_|(refine Kont.go (by assumption) ?_)|(simp (config:={ maxSteps:=3000000 }) (disch:=omega) only [go_sem,↓reduceIte,Nat.reduceAdd,gN,h0',gR,tl])))
     refine callQ_f hjf (by simp) ?_
     (repeat (with_reducible first|refine J_region ?_ |(refine Kont.go (by assumption) ?_)|(simp (config:={ maxSteps:=3000000 }) (disch:=omega) only [go_sem,↓reduceIte,Nat.reduceAdd,sR,gN,tl])))
     (repeat (with_reducible first|(simp (config:={ maxSteps:=3000000 }) (disch:=omega) only [go_sem,sN])))
     refine ⟨y+1,by omega,by omega,weak_of ?_ ?_⟩<;>(try simp (disch:=omega) only [go_sem,Nat.reduceAdd])<;>(try first|done|omega|rfl|exact ⟨rfl,rfl⟩|trivial)
   ·have he:y=N:=by omega
    subst he
    (repeat (with_reducible first|refine W_seq fun K hK=>?_|refine J_exit ?_|refine J_ret ?_|refine J_region ?_ |(refine Kont.go (by assumption) ?_)|(simp (config:={ maxSteps:=3000000 }) (disch:=omega) only [go_sem,↓reduceIte])))
    exact Frz.own0 (by rw [List.map_map (f:=gaR op z tw qs y)];rfl) (by simp)
end Go.Proofs.YtmcgeppgfjlclaaGreatDoor
set_option linter.unusedVariables false
set_option linter.unusedSimpArgs false
namespace Go.Proofs.YtmcgeppgfjlclaaGreatDoor
open Go Go.RowKit
def aendMO (P:Program) (rvs:List ResultVar) (e:TypeId) (sz k:Nat) (es:List FV):Exit→AS→Prop
 | .normal,s|.ret,s=>aresults P rvs s fun vs=>∃i,vs=[.own i sz 0 k]∧s.H[i]?=some (some ⟨e,sz,es.map .f⟩)
 | _,_=>False
theorem callU_MO {P:Program} {f:FuncId} {fn:Func} {c:Code} (hf:P.funcs[f]?=some fn) (hb:fn.body=some c) (hok:enterOk P f=true) {zs:List AV} {e:TypeId} {sz k:Nat} {es0 es:List FV} (hfl:∀x∈es,FlatF x)
  (h:∀X:Cx,X.rd=none→J X P c (aendMO P fn.results.toList e sz k es) (ast0M zs [⟨e,sz,es0.map .f⟩] fn.ntmps)) {H:AH} {q:Nat} {xs:List AV} (hq:H[q]?=some (some ⟨e,sz,es0.map .f⟩)) (hxz:xs.length=zs.length)
  (hz:∀(j:Nat) x z,xs[j]?=some x→zs[j]?=some z→(z.ren (fun _=>q)=x∧z.lt0 1=true)∨∃y,z=.f y∧Frz (H.set q none) x y) :
  CallU P f xs H (fun u G=>u=.own H.length sz 0 k∧G=H.set q none++[some ⟨e,sz,es.map .f⟩]):=by
 refine ⟨hok,fun X w F loc t a ys R hys=>?_⟩
 have hqN:=hlt hq
 have hdead:∀(r:Nat) p,(H.set q none)[r]?=some (some p)→r≠q∧H[r]?=some (some p):=fun r p h=>by
  by_cases e:r=q
  ·subst e;rw [List.getElem?_set_self hqN] at h;cases h
  ·rw [List.getElem?_set_ne (Ne.symm e)] at h;exact ⟨e,h⟩
 have R1:RelF X F loc ⟨t,H.set q none⟩ a w:=R.drop (by simp) fun r p h=>(hdead r p h).2
 have hnl:¬Live ⟨t,H.set q none⟩ loc (loc q).1:=fun ⟨r,p,hr,e⟩=>(hdead r p hr).1 (R.inj r q _ _ (hdead r p hr).2 hq e)
 obtain ⟨G,hG⟩:∃G:Nat→Prop,G=fun b=>F b∨Live ⟨t,H.set q none⟩ loc b:=⟨_,rfl⟩
 have hGlt:∀b,G b→b<w.heap.size:=fun b h=>by rw [hG] at h;exact R1.live_lt h
 have hGq:¬G (loc q).1:=fun h=>by rw [hG] at h;exact h.elim (R.nF q _ hq) hnl
 have hlen1:(H.set q none).length=H.length:=List.length_set ..
 have hrep:zs.length=ys.size∧∀(j:Nat) z,zs[j]?=some z→Rep w G (fun _=>loc q) [AO.mk e sz (es0.map .f)].length z (ys.getD j undef):=by
  refine ⟨by rw [←hxz];exact hys.1,fun j z hj=>?_⟩
  have hjl:=glt hj
  have hxj:=List.getElem?_eq_getElem (l:=xs) (i:=j) (by omega)
  have hr:=hys.2 j _ hxj
  rcases hz j _ z hxj hj with ⟨h1,h2⟩|⟨y,rfl,hy⟩
  ·rw [←h1] at hr
   have:=hr.ren0 (g:=fun _=>q) h2
   exact this.mono (fun b hb=>by rw [hG];exact .inl hb) (fun _ _ _ _ h=>h) (Nat.le_refl _) (fun _ _=>rfl)
  ·have:=(hy.rep R1).1 _ (by show Rep w F loc (H.set q none).length _ _;rw [hlen1];exact hr)
   exact .f _ _ (this.mono (fun b hb=>by rw [hG];exact hb) fun _ _ _ _ h=>h)
 have hobj:∀(i:Nat) o,[AO.mk e sz (es0.map .f)][i]?=some o→ObjAt w G (fun _=>loc q) [AO.mk e sz (es0.map .f)].length i o∧¬G (loc q).1:=fun i o hi=>by
  cases i with
  | zero =>
   cases hi
   obtain ⟨hu,vs,hv,hvs,hc⟩:=R.obj q _ hq
   refine ⟨⟨hu,vs,hv,hvs,fun j c hj=>?_⟩,hGq⟩
   obtain ⟨u,h1,h2⟩:=hc j c hj
   replace hj:(flat (es0.map AV.f))[j]?=some c:=hj
   rw [flat_f,List.getElem?_map] at hj
   cases hcj:(flatF es0)[j]? with
   | none=>rw [hcj] at hj;cases hj
   | some y =>
    rw [hcj] at hj
    cases hj
    cases h2 with|f _ _ h2=>exact ⟨u,h1,.f _ _ (h2.mono (fun b hb=>by rw [hG];exact .inl hb) fun _ _ _ _ h=>h)⟩
  | succ i=>simp at hi
 have hTab:TabW w∧∀t'∈tabs,∀(i:Nat) o,[AO.mk e sz (es0.map .f)][i]?=some o→((fun _=>loc q) i).1≠t'.1:=⟨R.tabW,fun t' ht i o _=>R.tabO t' ht q _ hq⟩
 let O:Nat→Prop:=fun b=>∃(i:Nat) (o:AO),[AO.mk e sz (es0.map .f)][i]?=some o∧((fun (_:Nat)=>loc q) i).1=b
 have hO:∀b,O b→b=(loc q).1:=fun b ⟨i,o,_,e⟩=>e.symm
 refine calls_of_J (X:=⟨w,G,O,none,fun _=>false,#[],fun _=>none⟩) rfl hf hb (h ⟨w,G,O,none,fun _=>false,#[],fun _=>none⟩ rfl (okC_none (fun _=>rfl) _) _ w (rel0M hTab hGlt hrep hobj (fun i i' o o' hi hi' _=>by
  have h1:=glt hi;have h2:=glt hi';simp at h1 h2;omega))) ?_
 rintro ex a' w' s F' loc' hend R'
 have fin:(aresults P fn.results.toList s fun vs=>∃i,vs=[.own i sz 0 k]∧s.H[i]?=some (some ⟨e,sz,es.map .f⟩))→∃v,(results fn a'.tmps).run P w'=.ok v w'∧∃y F2 loc2 u H',(u=.own H.length sz 0 k∧H'=H.set q none++[some ⟨e,sz,es.map .f⟩])∧Ending.returned v=.returned y∧RelF X F2 loc2 ⟨t,H'⟩ a w'∧Rep w' F2 loc2 H'.length u y:=by
  intro hend
  obtain ⟨vs,us,⟨i,rfl,hi⟩,hl,hrs,hrun,hlen⟩:=aresults_sound R' _ hend
  obtain ⟨u,rfl⟩:∃u,us=[u]:=by
   match us,hl with
   | [u],_=>exact ⟨u,rfl⟩
  have hr:=hrs 0 _ u rfl rfl
  obtain ⟨huni,vs,hv,hvs,hc⟩:=R'.obj i _ hi
  cases hr with
  | own _ _ _ _ cap hri hk hm hs =>
   have hbel:=R'.below
   have R2:RelF X F loc ⟨t,H.set q none⟩ a w':=R1.stepO (F':=F) (O:=O) (fun b hb=>by rw [hO b hb];exact (R.new q _ hq).symm) (fun b hf hb=>by rw [hO b hb] at hf;exact R.nF q _ hq hf) (fun r p hp hb=>hnl ⟨r,p,hp,hO _ hb⟩) hbel (fun _ h=>h) (fun b hb=>Nat.lt_of_lt_of_le (R.hF b hb) hbel.size) (fun b h=>.inl h)
   have hnew:w.heap.size≤(loc' i).1∨(loc' i).1=(loc q).1:=(R'.new i _ hi).imp id fun h=>hO _ h
   have R3:=R2.adopt (g:=(loc' i).1) (o:=⟨e,sz,es.map .f⟩) (vs:=vs) (hnew.elim (fun h=>.inl (Nat.le_trans R.below.size h)) fun h=>by rw [h];exact R.new q _ hq)
    (fun hf=>hnew.elim (fun h=>by have:=R.hF _ hf;omega) fun h=>R.nF q _ hq (h▸hf)) (fun hl=>hnew.elim (fun h=>by have:=R1.live_lt (.inr hl);omega) fun h=>hnl (h▸hl)) huni hv (fun j c hj=>by
     obtain ⟨y,h1,h2⟩:=hc j c hj
     replace hj:(flat (es.map AV.f))[j]?=some c:=hj
     rw [flat_f,List.getElem?_map] at hj
     cases hcj:(flatF es)[j]? with
     | none=>rw [hcj] at hj;cases hj
     | some d =>
      rw [hcj] at hj
      cases hj
      obtain ⟨x,hx,hdx⟩:=List.mem_flatMap.1 (List.mem_of_getElem? hcj)
      have hdf:FlatF d:=by
       have hxf:=hfl x hx
       cases hxf with
       | v y=>simp only [FV.cells,List.mem_singleton] at hdx;subst hdx;exact .v y
       | agg cs hcs=>obtain ⟨m,hm⟩:=List.getElem?_of_mem (show d∈cs from hdx);exact hcs m d hm
       | tup cs hcs=>simp only [FV.cells,List.mem_singleton] at hdx;subst hdx;exact .tup cs hcs
      cases h2 with|f _ _ h2=>exact ⟨y,h1,.f _ _ (hdf.rep h2)⟩)
   refine ⟨_,results_run fn a'.tmps _ hrun,_,F,_,_,_,⟨rfl,rfl⟩,rfl,R3,?_⟩
   have:=Rep.own (w:=w') (F:=F) (loc:=ext loc (H.set q none).length ((loc' i).1,vs.size)) (N:=(H.set q none++[some (⟨e,sz,es.map AV.f⟩:AO)]).length) H.length sz 0 k cap (by simp) hk hm (by rw [show H.length=(H.set q none).length from hlen1.symm,ext_self,hvs,hs])
   rw [show ext loc (H.set q none).length ((loc' i).1,vs.size) H.length=((loc' i).1,vs.size) by rw [show H.length=(H.set q none).length from hlen1.symm,ext_self]] at this
   exact this
 cases ex with
 | normal=>exact fin hend
 | ret=>exact fin hend
 | _=>exact hend.elim
end Go.Proofs.YtmcgeppgfjlclaaGreatDoor
