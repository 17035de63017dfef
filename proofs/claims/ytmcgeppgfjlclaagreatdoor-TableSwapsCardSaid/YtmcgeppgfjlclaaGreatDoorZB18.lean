/- Tables: Check; the program's Out: walked. Conditions: what may be; numbers of at most 4096 bytes. -/
import Derived.Test.YtmcgeppgfjlclaaGreatDoorZB14
import Derived.Test.YtmcgeppgfjlclaaGreatDoorZB16
import Derived.Test.YtmcgeppgfjlclaaGreatDoorZB17
import Derived.Test.YtmcgeppgfjlclaaGreatDoorZB11
import Derived.Lib.SlicesCompact
import Derived.Test.YtmcgeppgfjlclaaGreatDoorZB09
import Derived.Shelf.Spec.SlicesGrow
import Derived.Laws.AppendOwn
set_option linter.unusedVariables false
set_option linter.unusedSimpArgs false
namespace Go.Proofs.YtmcgeppgfjlclaaGreatDoor
open Go Go.RowKit
abbrev tabV (l:List Nat) (xs:List FV):FV:=.agg [.fz 1 (Ns l),.fz 3 xs]
abbrev oT (x:FV):Option AO:=some ⟨27,2,[.f x]⟩
structure TbOk (k : Nat) (Z l : List Nat) (xs : List FV) (qs : List Rat) : Prop where
  ok : OkT Z l
  fr : Frs k xs qs
  len : qs.length = cntS (szT Z) l
set_option maxRecDepth 100000 in
theorem tcheck_w {k:Nat} {Z l:List Nat} {xs:List FV} {qs:List Rat} (h:TbOk k Z l xs qs):Good Tryz.prog 18 [.fz 1 (Ns Z),tabV l xs] (I 0):=by
 have hc:=tcountT_w h.ok
 have hcl:=h.ok.cnt
 have hxl:xs.length=cntS (szT Z) l:=by rw [h.fr.len,h.len]
 refine good_of Tryz.func18 rfl (by kernel_rfl) fun X hO hrd=>?_;rw [Tryz.ntmps18,Tryz.results18];simp only [ast0,List.map_cons,List.map_nil,List.length_cons,List.length_nil,Nat.reduceAdd,Nat.reduceSub,List.replicate_succ,List.replicate_zero,List.cons_append,List.nil_append]
 (repeat (first|(with_reducible first|refine W_seq fun K hK=>?_|refine J_block ?_|refine J_skip ?_|refine J_exit ?_|refine J_ret ?_|refine J_region ?_ |refine J_drawn mixed (by kernel_rfl) ?_|refine aApp_sl ?_|refine aApp_old ?_|refine J_c ?_|refine Jc_true ?_|refine Jc_false ?_|exact Frz.f _|(refine Kont.go (by assumption) ?_)|(simp (config:={ maxSteps:=3000000 }) (disch:=omega) only [go_sem,Nat.reduceEqDiff,↓reduceIte,Nat.reduceAdd,Nat.reduceLT,Nat.reduceLeDiff,Int.reduceLT,Int.reduceLE,Int.reduceEq,Int.reduceNe,Int.reduceAdd,Int.reduceSub,Int.reduceMul,Int.reduceNeg,Int.reduceToNat]))|refine And.intro (by omega) ?_|refine And.intro (And.intro (by omega) (by omega)) ?_))
 (first|refine call_f (hc) rfl ?_|refine callQ_f (hc) rfl ?_|refine callHK_f (hc) rfl ?_|refine callH_f (hc) rfl ?_)
 (repeat (first|(with_reducible first|refine W_seq fun K hK=>?_|refine J_block ?_|refine J_skip ?_|refine J_exit ?_|refine J_ret ?_|refine J_region ?_ |refine J_drawn mixed (by kernel_rfl) ?_|refine aApp_sl ?_|refine aApp_old ?_|refine J_c ?_|refine Jc_true ?_|refine Jc_false ?_|exact Frz.f _|(refine Kont.go (by assumption) ?_)|(simp (config:={ maxSteps:=3000000 }) (disch:=omega) only [go_sem,Nat.reduceEqDiff,↓reduceIte,Nat.reduceAdd,Nat.reduceLT,Nat.reduceLeDiff,Int.reduceLT,Int.reduceLE,Int.reduceEq,Int.reduceNe,Int.reduceAdd,Int.reduceSub,Int.reduceMul,Int.reduceNeg,Int.reduceToNat,hxl]))|refine And.intro (by omega) ?_|refine And.intro (And.intro (by omega) (by omega)) ?_))
set_option maxRecDepth 100000 in
theorem outJ_w {x y:FV} {a b:Rat} {k j:Nat} (hx:IsFr x a k) (hy:IsFr y b j) (hk:k≤34359738368) (hj:j≤34359738368):Good Tryz.prog 39 [x,y] (if a<b then y else x):=by
 obtain ⟨g1,n1,d1,rfl,hx'⟩:=hx
 obtain ⟨g2,n2,d2,rfl,hy'⟩:=hy
 have hc:=cmp_w ⟨_,_,_,rfl,hx'⟩ ⟨_,_,_,rfl,hy'⟩ hk hj
 refine good_of Tryz.func39 rfl (by kernel_rfl) fun X hO hrd=>?_;rw [Tryz.ntmps39,Tryz.results39];simp only [ast0,List.map_cons,List.map_nil,List.length_cons,List.length_nil,Nat.reduceAdd,Nat.reduceSub,List.replicate_succ,List.replicate_zero,List.cons_append,List.nil_append]
 (repeat (first|(with_reducible first|refine W_seq fun K hK=>?_|refine J_block ?_|refine J_skip ?_|refine J_exit ?_|refine J_ret ?_|refine J_region ?_ |refine J_drawn mixed (by kernel_rfl) ?_|refine aApp_sl ?_|refine aApp_old ?_|refine J_c ?_|refine Jc_true ?_|refine Jc_false ?_|exact Frz.f _|(refine Kont.go (by assumption) ?_)|(simp (config:={ maxSteps:=3000000 }) (disch:=omega) only [go_sem,Nat.reduceEqDiff,↓reduceIte,Nat.reduceAdd,Nat.reduceLT,Nat.reduceLeDiff,Int.reduceLT,Int.reduceLE,Int.reduceEq,Int.reduceNe,Int.reduceAdd,Int.reduceSub,Int.reduceMul,Int.reduceNeg,Int.reduceToNat]))|refine call_f (cmp_w (by assumption) (by assumption) (by omega) (by omega)) rfl ?_|refine callQ_f (cmp_w (by assumption) (by assumption) (by omega) (by omega)) rfl ?_|refine And.intro (by omega) ?_|refine And.intro (And.intro (by omega) (by omega)) ?_))
 (first|refine call_f (hc) rfl ?_|refine callQ_f (hc) rfl ?_|refine callHK_f (hc) rfl ?_|refine callH_f (hc) rfl ?_)
 by_cases h:a<b
 ·have h1:=cmpR_lt.2 h
  (repeat (first|(with_reducible first|refine W_seq fun K hK=>?_|refine J_block ?_|refine J_skip ?_|refine J_exit ?_|refine J_ret ?_|refine J_region ?_ |refine J_drawn mixed (by kernel_rfl) ?_|refine aApp_sl ?_|refine aApp_old ?_|refine J_c ?_|refine Jc_true ?_|refine Jc_false ?_|exact Frz.f _|(refine Kont.go (by assumption) ?_)|(simp (config:={ maxSteps:=3000000 }) (disch:=omega) only [go_sem,Nat.reduceEqDiff,↓reduceIte,Nat.reduceAdd,Nat.reduceLT,Nat.reduceLeDiff,Int.reduceLT,Int.reduceLE,Int.reduceEq,Int.reduceNe,Int.reduceAdd,Int.reduceSub,Int.reduceMul,Int.reduceNeg,Int.reduceToNat,h1]))|refine call_f (cmp_w (by assumption) (by assumption) (by omega) (by omega)) rfl ?_|refine callQ_f (cmp_w (by assumption) (by assumption) (by omega) (by omega)) rfl ?_|refine And.intro (by omega) ?_|refine And.intro (And.intro (by omega) (by omega)) ?_))
  rw [if_pos h]
  exact Frz.f _
 ·have h1:¬cmpR a b<0:=fun hh=>h (cmpR_lt.1 hh)
  (repeat (first|(with_reducible first|refine W_seq fun K hK=>?_|refine J_block ?_|refine J_skip ?_|refine J_exit ?_|refine J_ret ?_|refine J_region ?_ |refine J_drawn mixed (by kernel_rfl) ?_|refine aApp_sl ?_|refine aApp_old ?_|refine J_c ?_|refine Jc_true ?_|refine Jc_false ?_|exact Frz.f _|(refine Kont.go (by assumption) ?_)|(simp (config:={ maxSteps:=3000000 }) (disch:=omega) only [go_sem,Nat.reduceEqDiff,↓reduceIte,Nat.reduceAdd,Nat.reduceLT,Nat.reduceLeDiff,Int.reduceLT,Int.reduceLE,Int.reduceEq,Int.reduceNe,Int.reduceAdd,Int.reduceSub,Int.reduceMul,Int.reduceNeg,Int.reduceToNat,h1]))|refine call_f (cmp_w (by assumption) (by assumption) (by omega) (by omega)) rfl ?_|refine callQ_f (cmp_w (by assumption) (by assumption) (by omega) (by omega)) rfl ?_|refine And.intro (by omega) ?_|refine And.intro (And.intro (by omega) (by omega)) ?_))
  rw [if_neg h]
  exact Frz.f _
set_option maxRecDepth 100000 in
theorem outD_w (x v:Int):Good Tryz.prog 43 [I x,.fp (I v) 0] (Bo (decide (x=v))):=by
 refine good_of Tryz.func43 rfl (by kernel_rfl) fun X hO hrd=>?_;rw [Tryz.ntmps43,Tryz.results43];simp only [ast0,List.map_cons,List.map_nil,List.length_cons,List.length_nil,Nat.reduceAdd,Nat.reduceSub,List.replicate_succ,List.replicate_zero,List.cons_append,List.nil_append]
 (repeat (first|(with_reducible first|refine W_seq fun K hK=>?_|refine J_block ?_|refine J_skip ?_|refine J_exit ?_|refine J_ret ?_|refine J_region ?_ |refine J_drawn mixed (by kernel_rfl) ?_|refine aApp_sl ?_|refine aApp_old ?_|refine J_c ?_|refine Jc_true ?_|refine Jc_false ?_|exact Frz.f _|(refine Kont.go (by assumption) ?_)|(simp (config:={ maxSteps:=3000000 }) (disch:=omega) only [go_sem,Nat.reduceEqDiff,↓reduceIte,Nat.reduceAdd,Nat.reduceLT,Nat.reduceLeDiff,Int.reduceLT,Int.reduceLE,Int.reduceEq,Int.reduceNe,Int.reduceAdd,Int.reduceSub,Int.reduceMul,Int.reduceNeg,Int.reduceToNat]))|refine And.intro (by omega) ?_|refine And.intro (And.intro (by omega) (by omega)) ?_))
theorem gaR_fz {op:Rat→Rat→Rat} {z:Rat} {tw:Nat→Nat} {qs:List Rat} {K:Nat} (hz:Fz z 8) (hq:Row K qs) (hop:∀a b s,Fz a s→Fz b K→Fz (op a b) (s+K+1)) (i:Nat):∀k,k≤qs.length→Fz (gaR op z tw qs k i) (8+k*(K+1)):=by
 intro k
 induction k with
 | zero=>intro _;exact hz.up (by omega)
 | succ k ih =>
  intro hk
  have h1:=ih (by omega)
  have e1:qs.getD k 0=qs[k]:=lget_lt qs 0 (by omega)
  have hk1:Fz (qs.getD k 0) K:=by rw [e1];exact hq.get (by omega)
  have hm:(k+1)*(K+1)=k*(K+1)+(K+1):=by rw [Nat.add_mul];omega
  rw [gaR_next]
  split
  ·split
   ·exact hk1.up (by omega)
   ·exact (hop _ _ _ h1 hk1).up (by omega)
  ·exact h1.up (by omega)
theorem gather_eq {op:Rat→Rat→Rat} {k:Nat} {Z l:List Nat} {xs:List FV} {qs:List Rat} {v:Nat} (h:TbOk k Z l xs qs) (hv:v∈l) :
  (List.range (cntS (szT Z) (lessT l v))).map (gaR op 0 (fun k=>idxS (szT Z) (asgS (szT Z) l k) (lessT l v)) qs qs.length)=outT op Z l v qs:=by
 unfold outT tblS
 refine List.map_congr_left fun i hi=>?_
 have hi:=List.mem_range.1 hi
 have hsp:=h.ok.szp (h.ok.lt v hv)
 have hg:=gather_out (op:=op) (F:=tblG Z l qs) (n:=szT Z v-1) (dep_tblG fun w hw=>hw) h.ok.nd (h.ok.less (v:=v)).nd hv (fun u=>mem_lessT) h.ok.pos hi (by omega) (f:=fun k=>qs.getD k 0) fun k hk=>by
  unfold tblG;rw [idxS_asg h.ok.nd h.ok.pos hk]
 unfold gaR
 rw [h.len,hg]
 rfl
theorem kepT_less {l:List Nat} {v:Nat}:kepT (fun x=>decide (x=(v:Int))) (l.map Int.ofNat)=(lessT l v).map Int.ofNat:=by
 unfold kepT lessT
 rw [List.filter_map]
 congr 1
 refine List.filter_congr fun x _=>?_
 show (!decide ((x:Int)=(v:Int)))=decide (x≠v)
 by_cases e:x=v
 ·subst e;simp
 ·have:¬(x:Int)=(v:Int):=by omega
  simp [this,e]
def opT (most:Bool):Rat→Rat→Rat:=if most then gtrS else fun a b=>a+b
set_option maxRecDepth 100000 in
set_option maxHeartbeats 8000000 in
theorem out_w {k:Nat} {Z l:List Nat} {xs:List FV} {qs:List Rat} (h:TbOk k Z l xs qs) (h1:1≤k) (hk:k≤100000) {v:Nat} (hv:v∈l) (most:Bool) :
  Good Tryz.prog 11 [.fz 1 (Ns Z),tabV l xs,I (v:Int),Bo most] (.tup [tabV (lessT l v) ((outT (opT most) Z l v qs).map fr),I 0]):=by
 have hl8:=h.ok.len
 have hc:=h.ok.cnt
 have hml:=h.ok.less (v:=v)
 have hck:=tcheck_w h
 have hct:=contT_w (l:=l) (k:=v) (by omega)
 rw [decide_eq_true hv] at hct
 have hcn:=tcount_w hml
 have hcan:=canonL_w h.fr (by rw [h.len];exact hc) (by omega)
 have hpl:=place_w (Ns Z) (Ns l) (Ns (lessT l v))
 have hrow:=h.fr.row h1
 have hof:=of_good (n:=0) (by omega) (by omega)
 obtain ⟨z0,l',hle⟩:∃z0 l',l=z0::l':=by
  cases l with
  | nil=>exact absurd hv (by simp)
  | cons a b=>exact ⟨_,_,rfl⟩
 have hclo:=cloneZ_w (z0:Int) (l'.map Int.ofNat) (by rw [List.length_map];rw [hle] at hl8;simp only [List.length_cons] at hl8;omega)
 have ecl:(z0:Int)::l'.map Int.ofNat=l.map Int.ofNat:=by rw [hle];rfl
 rw [ecl,ints_Ns] at hclo
 obtain ⟨L,hL⟩:∃L,L=l.map Int.ofNat:=⟨_,rfl⟩
 have hLl:L.length=l.length:=by rw [hL,List.length_map]
 rw [←hL] at hclo
 have hin:∀x∈L,Good Tryz.prog 43 ([]++[I x]++[.fp (I (v:Int)) 0]) (Bo (decide (x=(v:Int)))):=fun x _=>outD_w x v
 have hke:kepT (fun x=>decide (x=(v:Int))) L=(lessT l v).map Int.ofNat:=by rw [hL,kepT_less]
 have hkl:(kepT (fun x=>decide (x=(v:Int))) L).length=(lessT l v).length:=by rw [hke,List.length_map]
 have hkd:(kepT (fun x=>decide (x=(v:Int))) L).length≤((delL (fun x=>decide (x=(v:Int))) L).map I).length:=by
  rw [List.length_map];unfold delL;rw [List.length_append];omega
 have hfzz:((delL (fun x=>decide (x=(v:Int))) L).map I).take (kepT (fun x=>decide (x=(v:Int))) L).length=Ns (lessT l v):=by
  unfold delL
  rw [List.map_append,List.take_append_of_le_length (by rw [List.length_map];exact Nat.le_refl _),List.take_of_length_le (by rw [List.length_map];exact Nat.le_refl _),hke]
  unfold Ns;rw [List.map_map];rfl
 have hzz:((0:Int):Rat)=0:=rfl
 have hgj:∀(op:Rat→Rat→Rat) (jf:FuncId),(∀a b s,Fz a s→Fz b k→Fz (op a b) (s+k+1))→(∀a b s,Fz a s→Fz b k→s≤10000000000→Good Tryz.prog jf [fr a,fr b] (fr (op a b))) →
   Good Tryz.prog 44 [ringV 0 jf,I (cntS (szT Z) (lessT l v):Nat),frs qs,.fn 82 [] [.fp (.fz 1 (Ns Z)) 0,.fp (.fz 1 (Ns l)) 0,.fp (.fz 1 (Ns (lessT l v))) 0]] (frs (outT op Z l v qs)):=fun op jf h2 h3=>by
  rw [←gather_eq h hv]
  refine gather_w hml.cnt1 hml.cnt (by rw [h.len];exact hc) (fun i hi=>?_) fun i hi _=>?_
  ·rw [h.len] at hi
   exact ⟨place1_w h.ok hml (fun w hw=>(mem_lessT.1 hw).1) hi,idxS_lt fun w hw=>asgS_lt h.ok.nd h.ok.pos hi (mem_lessT.1 hw).1⟩
  ·have f1:=gaR_fz (tw:=fun k=>idxS (szT Z) (asgS (szT Z) l k) (lessT l v)) (z:=0) ((Fz.int (n:=0) (by decide)).up (by omega)) hrow h2 (idxS (szT Z) (asgS (szT Z) l i) (lessT l v)) i (by omega)
   have f2:Fz (qs.getD i 0) k:=by rw [lget_lt qs 0 hi];exact hrow.get hi
   rw [h.len] at hi
   have:=Nat.mul_le_mul (show i≤65536 by omega) (show k+1≤100001 by omega)
   exact h3 _ _ _ f1 f2 (by omega)
 cases most with
 | false =>
  have hg:=hgj (fun a b=>a+b) 38 (fun a b s ha hb=>ha.add hb) (fun a b s ha hb hs=>add_w (.c ha) (.c hb) (by omega) (by omega))
  refine good_of Tryz.func11 rfl (by kernel_rfl) fun X hO hrd=>?_;rw [Tryz.ntmps11,Tryz.results11];simp only [ast0,List.map_cons,List.map_nil,List.length_cons,List.length_nil,Nat.reduceAdd,Nat.reduceSub,List.replicate_succ,List.replicate_zero,List.cons_append,List.nil_append]
  (repeat (first|(with_reducible first|refine W_seq fun K hK=>?_|refine J_block ?_|refine J_skip ?_|refine J_exit ?_|refine J_ret ?_|refine J_region ?_ |refine J_drawn mixed (by kernel_rfl) ?_|refine aApp_sl ?_|refine aApp_old ?_|refine J_c ?_|refine Jc_true ?_|refine Jc_false ?_|exact Frz.f _|(refine Kont.go (by assumption) ?_)|(simp (config:={ maxSteps:=3000000 }) (disch:=omega) only [go_sem,Nat.reduceEqDiff,↓reduceIte,Nat.reduceAdd,Nat.reduceLT,Nat.reduceLeDiff,Int.reduceLT,Int.reduceLE,Int.reduceEq,Int.reduceNe,Int.reduceAdd,Int.reduceSub,Int.reduceMul,Int.reduceNeg,Int.reduceToNat]))|refine call_f (of_good (by omega) (by omega)) rfl ?_|refine callQ_f (of_good (by omega) (by omega)) rfl ?_|refine And.intro (by omega) ?_|refine And.intro (And.intro (by omega) (by omega)) ?_))
  (first|refine call_f (hck) rfl ?_|refine callQ_f (hck) rfl ?_|refine callHK_f (hck) rfl ?_|refine callH_f (hck) rfl ?_)
  (repeat (first|(with_reducible first|refine W_seq fun K hK=>?_|refine J_block ?_|refine J_skip ?_|refine J_exit ?_|refine J_ret ?_|refine J_region ?_ |refine J_drawn mixed (by kernel_rfl) ?_|refine aApp_sl ?_|refine aApp_old ?_|refine J_c ?_|refine Jc_true ?_|refine Jc_false ?_|exact Frz.f _|(refine Kont.go (by assumption) ?_)|(simp (config:={ maxSteps:=3000000 }) (disch:=omega) only [go_sem,Nat.reduceEqDiff,↓reduceIte,Nat.reduceAdd,Nat.reduceLT,Nat.reduceLeDiff,Int.reduceLT,Int.reduceLE,Int.reduceEq,Int.reduceNe,Int.reduceAdd,Int.reduceSub,Int.reduceMul,Int.reduceNeg,Int.reduceToNat]))|refine call_f (of_good (by omega) (by omega)) rfl ?_|refine callQ_f (of_good (by omega) (by omega)) rfl ?_|refine And.intro (by omega) ?_|refine And.intro (And.intro (by omega) (by omega)) ?_))
  (first|refine call_f (hct) rfl ?_|refine callQ_f (hct) rfl ?_|refine callHK_f (hct) rfl ?_|refine callH_f (hct) rfl ?_)
  (repeat (first|(with_reducible first|refine W_seq fun K hK=>?_|refine J_block ?_|refine J_skip ?_|refine J_exit ?_|refine J_ret ?_|refine J_region ?_ |refine J_drawn mixed (by kernel_rfl) ?_|refine aApp_sl ?_|refine aApp_old ?_|refine J_c ?_|refine Jc_true ?_|refine Jc_false ?_|exact Frz.f _|(refine Kont.go (by assumption) ?_)|(simp (config:={ maxSteps:=3000000 }) (disch:=omega) only [go_sem,Nat.reduceEqDiff,↓reduceIte,Nat.reduceAdd,Nat.reduceLT,Nat.reduceLeDiff,Int.reduceLT,Int.reduceLE,Int.reduceEq,Int.reduceNe,Int.reduceAdd,Int.reduceSub,Int.reduceMul,Int.reduceNeg,Int.reduceToNat,hzz]))|refine call_f (of_good (by omega) (by omega)) rfl ?_|refine callQ_f (of_good (by omega) (by omega)) rfl ?_|refine And.intro (by omega) ?_|refine And.intro (And.intro (by omega) (by omega)) ?_))
  refine call_o hclo (FrzL.fs [_]) ?_
  (repeat (first|(with_reducible first|refine W_seq fun K hK=>?_|refine J_block ?_|refine J_skip ?_|refine J_exit ?_|refine J_ret ?_|refine J_region ?_ |refine J_drawn mixed (by kernel_rfl) ?_|refine aApp_sl ?_|refine aApp_old ?_|refine J_c ?_|refine Jc_true ?_|refine Jc_false ?_|exact Frz.f _|(refine Kont.go (by assumption) ?_)|(simp (config:={ maxSteps:=3000000 }) (disch:=omega) only [go_sem,Nat.reduceEqDiff,↓reduceIte,Nat.reduceAdd,Nat.reduceLT,Nat.reduceLeDiff,Int.reduceLT,Int.reduceLE,Int.reduceEq,Int.reduceNe,Int.reduceAdd,Int.reduceSub,Int.reduceMul,Int.reduceNeg,Int.reduceToNat,List.length_map]))|refine call_f (of_good (by omega) (by omega)) rfl ?_|refine callQ_f (of_good (by omega) (by omega)) rfl ?_|refine And.intro (by omega) ?_|refine And.intro (And.intro (by omega) (by omega)) ?_))
  refine call_u (deleteFunc_u (l:=L) (p:=fun x=>decide (x=(v:Int))) (by omega) rfl (Frz.fn _ _ _ _ _ rfl (fun j c d h=>by simp at h) rfl fun j cc d h h'=>by
   cases j with
   | zero=>cases h;cases h';exact Frz.ptr0 rfl rfl
   | succ j=>simp at h) hin) ?_
  (repeat (first|(with_reducible first|refine W_seq fun K hK=>?_|refine J_block ?_|refine J_skip ?_|refine J_exit ?_|refine J_ret ?_|((fail_if_success refine J_region (id:=10) ?_);refine J_region ?_) |((fail_if_success refine J_isD (id:=10) ?_);refine J_drawn mixed (by kernel_rfl) ?_)|refine aApp_sl ?_|refine aApp_old ?_|refine J_c ?_|refine Jc_true ?_|refine Jc_false ?_|exact Frz.f _|(refine Kont.go (by assumption) ?_)|(simp (config:={ maxSteps:=3000000 }) (disch:=omega) only [go_sem,Nat.reduceEqDiff,↓reduceIte,Nat.reduceAdd,Nat.reduceLT,Nat.reduceLeDiff,Int.reduceLT,Int.reduceLE,Int.reduceEq,Int.reduceNe,Int.reduceAdd,Int.reduceSub,Int.reduceMul,Int.reduceNeg,Int.reduceToNat]))|refine call_f (of_good (by omega) (by omega)) rfl ?_|refine callQ_f (of_good (by omega) (by omega)) rfl ?_|refine And.intro (by omega) ?_|refine And.intro (And.intro (by omega) (by omega)) ?_))
  refine J_freezeP (j:=12) (r:=5) rfl hkd rfl ?_
  simp only [go_sem,Nat.reduceAdd,Nat.reduceLT,Nat.reduceEqDiff,hfzz]
  (repeat (first|(with_reducible first|refine W_seq fun K hK=>?_|refine J_block ?_|refine J_skip ?_|refine J_exit ?_|refine J_ret ?_|refine J_region ?_ |refine J_drawn mixed (by kernel_rfl) ?_|refine aApp_sl ?_|refine aApp_old ?_|refine J_c ?_|refine Jc_true ?_|refine Jc_false ?_|exact Frz.f _|(refine Kont.go (by assumption) ?_)|(simp (config:={ maxSteps:=3000000 }) (disch:=omega) only [go_sem,Nat.reduceEqDiff,↓reduceIte,Nat.reduceAdd,Nat.reduceLT,Nat.reduceLeDiff,Int.reduceLT,Int.reduceLE,Int.reduceEq,Int.reduceNe,Int.reduceAdd,Int.reduceSub,Int.reduceMul,Int.reduceNeg,Int.reduceToNat,hkl]))|refine call_f (of_good (by omega) (by omega)) rfl ?_|refine callQ_f (of_good (by omega) (by omega)) rfl ?_|refine And.intro (by omega) ?_|refine And.intro (And.intro (by omega) (by omega)) ?_))
  refine callQ_f hcn rfl ?_
  (repeat (first|(with_reducible first|refine W_seq fun K hK=>?_|refine J_block ?_|refine J_skip ?_|refine J_exit ?_|refine J_ret ?_|refine J_region ?_ |refine J_drawn mixed (by kernel_rfl) ?_|refine aApp_sl ?_|refine aApp_old ?_|refine J_c ?_|refine Jc_true ?_|refine Jc_false ?_|exact Frz.f _|(refine Kont.go (by assumption) ?_)|(simp (config:={ maxSteps:=3000000 }) (disch:=omega) only [go_sem,Nat.reduceEqDiff,↓reduceIte,Nat.reduceAdd,Nat.reduceLT,Nat.reduceLeDiff,Int.reduceLT,Int.reduceLE,Int.reduceEq,Int.reduceNe,Int.reduceAdd,Int.reduceSub,Int.reduceMul,Int.reduceNeg,Int.reduceToNat]))|refine call_f (of_good (by omega) (by omega)) rfl ?_|refine callQ_f (of_good (by omega) (by omega)) rfl ?_|refine And.intro (by omega) ?_|refine And.intro (And.intro (by omega) (by omega)) ?_))
  refine callQ_f hcan rfl ?_
  (repeat (first|(with_reducible first|refine W_seq fun K hK=>?_|refine J_block ?_|refine J_skip ?_|refine J_exit ?_|refine J_ret ?_|refine J_region ?_ |refine J_drawn mixed (by kernel_rfl) ?_|refine aApp_sl ?_|refine aApp_old ?_|refine J_c ?_|refine Jc_true ?_|refine Jc_false ?_|exact Frz.f _|(refine Kont.go (by assumption) ?_)|(simp (config:={ maxSteps:=3000000 }) (disch:=omega) only [go_sem,Nat.reduceEqDiff,↓reduceIte,Nat.reduceAdd,Nat.reduceLT,Nat.reduceLeDiff,Int.reduceLT,Int.reduceLE,Int.reduceEq,Int.reduceNe,Int.reduceAdd,Int.reduceSub,Int.reduceMul,Int.reduceNeg,Int.reduceToNat]))|refine call_f (of_good (by omega) (by omega)) rfl ?_|refine callQ_f (of_good (by omega) (by omega)) rfl ?_|refine And.intro (by omega) ?_|refine And.intro (And.intro (by omega) (by omega)) ?_))
  refine callQ_f hpl rfl ?_
  (repeat (first|(with_reducible first|refine W_seq fun K hK=>?_|refine J_block ?_|refine J_skip ?_|refine J_exit ?_|refine J_ret ?_|refine J_region ?_ |refine J_drawn mixed (by kernel_rfl) ?_|refine aApp_sl ?_|refine aApp_old ?_|refine J_c ?_|refine Jc_true ?_|refine Jc_false ?_|exact Frz.f _|(refine Kont.go (by assumption) ?_)|(simp (config:={ maxSteps:=3000000 }) (disch:=omega) only [go_sem,Nat.reduceEqDiff,↓reduceIte,Nat.reduceAdd,Nat.reduceLT,Nat.reduceLeDiff,Int.reduceLT,Int.reduceLE,Int.reduceEq,Int.reduceNe,Int.reduceAdd,Int.reduceSub,Int.reduceMul,Int.reduceNeg,Int.reduceToNat]))|refine call_f (of_good (by omega) (by omega)) rfl ?_|refine callQ_f (of_good (by omega) (by omega)) rfl ?_|refine And.intro (by omega) ?_|refine And.intro (And.intro (by omega) (by omega)) ?_))
  refine callQ_f hg rfl ?_
  (repeat (first|(with_reducible first|refine W_seq fun K hK=>?_|refine J_block ?_|refine J_skip ?_|refine J_exit ?_|refine J_ret ?_|refine J_region ?_ |refine J_drawn mixed (by kernel_rfl) ?_|refine aApp_sl ?_|refine aApp_old ?_|refine J_c ?_|refine Jc_true ?_|refine Jc_false ?_|exact Frz.f _|(refine Kont.go (by assumption) ?_)|(simp (config:={ maxSteps:=3000000 }) (disch:=omega) only [go_sem,Nat.reduceEqDiff,↓reduceIte,Nat.reduceAdd,Nat.reduceLT,Nat.reduceLeDiff,Int.reduceLT,Int.reduceLE,Int.reduceEq,Int.reduceNe,Int.reduceAdd,Int.reduceSub,Int.reduceMul,Int.reduceNeg,Int.reduceToNat]))|refine call_f (of_good (by omega) (by omega)) rfl ?_|refine callQ_f (of_good (by omega) (by omega)) rfl ?_|refine And.intro (by omega) ?_|refine And.intro (And.intro (by omega) (by omega)) ?_))
  exact ⟨_,rfl,FrzL.fs [_,_]⟩
 | true =>
  have hg:=hgj gtrS 39 (fun a b s ha hb=>by unfold gtrS;split;exact hb.up (by omega);exact ha.up (by omega)) (fun a b s ha hb hs=>by
   have:=outJ_w (.c ha) (.c hb) (by omega) (by omega)
   have e:fr (gtrS a b)=if a<b then fr b else fr a:=by unfold gtrS;split<;>rfl
   rw [e];exact this)
  refine good_of Tryz.func11 rfl (by kernel_rfl) fun X hO hrd=>?_;rw [Tryz.ntmps11,Tryz.results11];simp only [ast0,List.map_cons,List.map_nil,List.length_cons,List.length_nil,Nat.reduceAdd,Nat.reduceSub,List.replicate_succ,List.replicate_zero,List.cons_append,List.nil_append]
  (repeat (first|(with_reducible first|refine W_seq fun K hK=>?_|refine J_block ?_|refine J_skip ?_|refine J_exit ?_|refine J_ret ?_|refine J_region ?_ |refine J_drawn mixed (by kernel_rfl) ?_|refine aApp_sl ?_|refine aApp_old ?_|refine J_c ?_|refine Jc_true ?_|refine Jc_false ?_|exact Frz.f _|(refine Kont.go (by assumption) ?_)|(simp (config:={ maxSteps:=3000000 }) (disch:=omega) only [go_sem,Nat.reduceEqDiff,↓reduceIte,Nat.reduceAdd,Nat.reduceLT,Nat.reduceLeDiff,Int.reduceLT,Int.reduceLE,Int.reduceEq,Int.reduceNe,Int.reduceAdd,Int.reduceSub,Int.reduceMul,Int.reduceNeg,Int.reduceToNat]))|refine call_f (of_good (by omega) (by omega)) rfl ?_|refine callQ_f (of_good (by omega) (by omega)) rfl ?_|refine And.intro (by omega) ?_|refine And.intro (And.intro (by omega) (by omega)) ?_))
  (first|refine call_f (hck) rfl ?_|refine callQ_f (hck) rfl ?_|refine callHK_f (hck) rfl ?_|refine callH_f (hck) rfl ?_)
  (repeat (first|(with_reducible first|refine W_seq fun K hK=>?_|refine J_block ?_|refine J_skip ?_|refine J_exit ?_|refine J_ret ?_|refine J_region ?_ |refine J_drawn mixed (by kernel_rfl) ?_|refine aApp_sl ?_|refine aApp_old ?_|refine J_c ?_|refine Jc_true ?_|refine Jc_false ?_|exact Frz.f _|(refine Kont.go (by assumption) ?_)|(simp (config:={ maxSteps:=3000000 }) (disch:=omega) only [go_sem,Nat.reduceEqDiff,↓reduceIte,Nat.reduceAdd,Nat.reduceLT,Nat.reduceLeDiff,Int.reduceLT,Int.reduceLE,Int.reduceEq,Int.reduceNe,Int.reduceAdd,Int.reduceSub,Int.reduceMul,Int.reduceNeg,Int.reduceToNat]))|refine call_f (of_good (by omega) (by omega)) rfl ?_|refine callQ_f (of_good (by omega) (by omega)) rfl ?_|refine And.intro (by omega) ?_|refine And.intro (And.intro (by omega) (by omega)) ?_))
  (first|refine call_f (hct) rfl ?_|refine callQ_f (hct) rfl ?_|refine callHK_f (hct) rfl ?_|refine callH_f (hct) rfl ?_)
  (repeat (first|(with_reducible first|refine W_seq fun K hK=>?_|refine J_block ?_|refine J_skip ?_|refine J_exit ?_|refine J_ret ?_|refine J_region ?_ |refine J_drawn mixed (by kernel_rfl) ?_|refine aApp_sl ?_|refine aApp_old ?_|refine J_c ?_|refine Jc_true ?_|refine Jc_false ?_|exact Frz.f _|(refine Kont.go (by assumption) ?_)|(simp (config:={ maxSteps:=3000000 }) (disch:=omega) only [go_sem,Nat.reduceEqDiff,↓reduceIte,Nat.reduceAdd,Nat.reduceLT,Nat.reduceLeDiff,Int.reduceLT,Int.reduceLE,Int.reduceEq,Int.reduceNe,Int.reduceAdd,Int.reduceSub,Int.reduceMul,Int.reduceNeg,Int.reduceToNat,hzz]))|refine call_f (of_good (by omega) (by omega)) rfl ?_|refine callQ_f (of_good (by omega) (by omega)) rfl ?_|refine And.intro (by omega) ?_|refine And.intro (And.intro (by omega) (by omega)) ?_))
  refine call_o hclo (FrzL.fs [_]) ?_
  (repeat (first|(with_reducible first|refine W_seq fun K hK=>?_|refine J_block ?_|refine J_skip ?_|refine J_exit ?_|refine J_ret ?_|refine J_region ?_ |refine J_drawn mixed (by kernel_rfl) ?_|refine aApp_sl ?_|refine aApp_old ?_|refine J_c ?_|refine Jc_true ?_|refine Jc_false ?_|exact Frz.f _|(refine Kont.go (by assumption) ?_)|(simp (config:={ maxSteps:=3000000 }) (disch:=omega) only [go_sem,Nat.reduceEqDiff,↓reduceIte,Nat.reduceAdd,Nat.reduceLT,Nat.reduceLeDiff,Int.reduceLT,Int.reduceLE,Int.reduceEq,Int.reduceNe,Int.reduceAdd,Int.reduceSub,Int.reduceMul,Int.reduceNeg,Int.reduceToNat,List.length_map]))|refine call_f (of_good (by omega) (by omega)) rfl ?_|refine callQ_f (of_good (by omega) (by omega)) rfl ?_|refine And.intro (by omega) ?_|refine And.intro (And.intro (by omega) (by omega)) ?_))
  refine call_u (deleteFunc_u (l:=L) (p:=fun x=>decide (x=(v:Int))) (by omega) rfl (Frz.fn _ _ _ _ _ rfl (fun j c d h=>by simp at h) rfl fun j cc d h h'=>by
   cases j with
   | zero=>cases h;cases h';exact Frz.ptr0 rfl rfl
   | succ j=>simp at h) hin) ?_
  (repeat (first|(with_reducible first|refine W_seq fun K hK=>?_|refine J_block ?_|refine J_skip ?_|refine J_exit ?_|refine J_ret ?_|((fail_if_success refine J_region (id:=10) ?_);refine J_region ?_) |((fail_if_success refine J_isD (id:=10) ?_);refine J_drawn mixed (by kernel_rfl) ?_)|refine aApp_sl ?_|refine aApp_old ?_|refine J_c ?_|refine Jc_true ?_|refine Jc_false ?_|exact Frz.f _|(refine Kont.go (by assumption) ?_)|(simp (config:={ maxSteps:=3000000 }) (disch:=omega) only [go_sem,Nat.reduceEqDiff,↓reduceIte,Nat.reduceAdd,Nat.reduceLT,Nat.reduceLeDiff,Int.reduceLT,Int.reduceLE,Int.reduceEq,Int.reduceNe,Int.reduceAdd,Int.reduceSub,Int.reduceMul,Int.reduceNeg,Int.reduceToNat]))|refine call_f (of_good (by omega) (by omega)) rfl ?_|refine callQ_f (of_good (by omega) (by omega)) rfl ?_|refine And.intro (by omega) ?_|refine And.intro (And.intro (by omega) (by omega)) ?_))
  refine J_freezeP (j:=12) (r:=5) rfl hkd rfl ?_
  simp only [go_sem,Nat.reduceAdd,Nat.reduceLT,Nat.reduceEqDiff,hfzz]
  (repeat (first|(with_reducible first|refine W_seq fun K hK=>?_|refine J_block ?_|refine J_skip ?_|refine J_exit ?_|refine J_ret ?_|refine J_region ?_ |refine J_drawn mixed (by kernel_rfl) ?_|refine aApp_sl ?_|refine aApp_old ?_|refine J_c ?_|refine Jc_true ?_|refine Jc_false ?_|exact Frz.f _|(refine Kont.go (by assumption) ?_)|(simp (config:={ maxSteps:=3000000 }) (disch:=omega) only [go_sem,Nat.reduceEqDiff,↓reduceIte,Nat.reduceAdd,Nat.reduceLT,Nat.reduceLeDiff,Int.reduceLT,Int.reduceLE,Int.reduceEq,Int.reduceNe,Int.reduceAdd,Int.reduceSub,Int.reduceMul,Int.reduceNeg,Int.reduceToNat,hkl]))|refine call_f (of_good (by omega) (by omega)) rfl ?_|refine callQ_f (of_good (by omega) (by omega)) rfl ?_|refine And.intro (by omega) ?_|refine And.intro (And.intro (by omega) (by omega)) ?_))
  refine callQ_f hcn rfl ?_
  (repeat (first|(with_reducible first|refine W_seq fun K hK=>?_|refine J_block ?_|refine J_skip ?_|refine J_exit ?_|refine J_ret ?_|refine J_region ?_ |refine J_drawn mixed (by kernel_rfl) ?_|refine aApp_sl ?_|refine aApp_old ?_|refine J_c ?_|refine Jc_true ?_|refine Jc_false ?_|exact Frz.f _|(refine Kont.go (by assumption) ?_)|(simp (config:={ maxSteps:=3000000 }) (disch:=omega) only [go_sem,Nat.reduceEqDiff,↓reduceIte,Nat.reduceAdd,Nat.reduceLT,Nat.reduceLeDiff,Int.reduceLT,Int.reduceLE,Int.reduceEq,Int.reduceNe,Int.reduceAdd,Int.reduceSub,Int.reduceMul,Int.reduceNeg,Int.reduceToNat]))|refine call_f (of_good (by omega) (by omega)) rfl ?_|refine callQ_f (of_good (by omega) (by omega)) rfl ?_|refine And.intro (by omega) ?_|refine And.intro (And.intro (by omega) (by omega)) ?_))
  refine callQ_f hcan rfl ?_
  (repeat (first|(with_reducible first|refine W_seq fun K hK=>?_|refine J_block ?_|refine J_skip ?_|refine J_exit ?_|refine J_ret ?_|refine J_region ?_ |refine J_drawn mixed (by kernel_rfl) ?_|refine aApp_sl ?_|refine aApp_old ?_|refine J_c ?_|refine Jc_true ?_|refine Jc_false ?_|exact Frz.f _|(refine Kont.go (by assumption) ?_)|(simp (config:={ maxSteps:=3000000 }) (disch:=omega) only [go_sem,Nat.reduceEqDiff,↓reduceIte,Nat.reduceAdd,Nat.reduceLT,Nat.reduceLeDiff,Int.reduceLT,Int.reduceLE,Int.reduceEq,Int.reduceNe,Int.reduceAdd,Int.reduceSub,Int.reduceMul,Int.reduceNeg,Int.reduceToNat]))|refine call_f (of_good (by omega) (by omega)) rfl ?_|refine callQ_f (of_good (by omega) (by omega)) rfl ?_|refine And.intro (by omega) ?_|refine And.intro (And.intro (by omega) (by omega)) ?_))
  refine callQ_f hpl rfl ?_
  (repeat (first|(with_reducible first|refine W_seq fun K hK=>?_|refine J_block ?_|refine J_skip ?_|refine J_exit ?_|refine J_ret ?_|refine J_region ?_ |refine J_drawn mixed (by kernel_rfl) ?_|refine aApp_sl ?_|refine aApp_old ?_|refine J_c ?_|refine Jc_true ?_|refine Jc_false ?_|exact Frz.f _|(refine Kont.go (by assumption) ?_)|(simp (config:={ maxSteps:=3000000 }) (disch:=omega) only [go_sem,Nat.reduceEqDiff,↓reduceIte,Nat.reduceAdd,Nat.reduceLT,Nat.reduceLeDiff,Int.reduceLT,Int.reduceLE,Int.reduceEq,Int.reduceNe,Int.reduceAdd,Int.reduceSub,Int.reduceMul,Int.reduceNeg,Int.reduceToNat]))|refine call_f (of_good (by omega) (by omega)) rfl ?_|refine callQ_f (of_good (by omega) (by omega)) rfl ?_|refine And.intro (by omega) ?_|refine And.intro (And.intro (by omega) (by omega)) ?_))
  refine callQ_f hg rfl ?_
  (repeat (first|(with_reducible first|refine W_seq fun K hK=>?_|refine J_block ?_|refine J_skip ?_|refine J_exit ?_|refine J_ret ?_|refine J_region ?_ |refine J_drawn mixed (by kernel_rfl) ?_|refine aApp_sl ?_|refine aApp_old ?_|refine J_c ?_|refine Jc_true ?_|refine Jc_false ?_|exact Frz.f _|(refine Kont.go (by assumption) ?_)|(simp (config:={ maxSteps:=3000000 }) (disch:=omega) only [go_sem,Nat.reduceEqDiff,↓reduceIte,Nat.reduceAdd,Nat.reduceLT,Nat.reduceLeDiff,Int.reduceLT,Int.reduceLE,Int.reduceEq,Int.reduceNe,Int.reduceAdd,Int.reduceSub,Int.reduceMul,Int.reduceNeg,Int.reduceToNat]))|refine call_f (of_good (by omega) (by omega)) rfl ?_|refine callQ_f (of_good (by omega) (by omega)) rfl ?_|refine And.intro (by omega) ?_|refine And.intro (And.intro (by omega) (by omega)) ?_))
  exact ⟨_,rfl,FrzL.fs [_,_]⟩
abbrev tab0:FV:=.agg [.v (.slice none 0 0),.v (.slice none 0 0)]
set_option maxRecDepth 100000 in
set_option maxHeartbeats 8000000 in
theorem out0_w {k:Nat} {Z l:List Nat} {xs:List FV} {qs:List Rat} (h:TbOk k Z l xs qs) {v:Int} (hv:v∉l.map Int.ofNat) (most:Bool) :
  Good Tryz.prog 11 [.fz 1 (Ns Z),tabV l xs,I v,Bo most] (.tup [tab0,I 11]):=by
 have hl8:=h.ok.len
 have hck:=tcheck_w h
 have hct:=contZ_w (l:=l.map Int.ofNat) (k:=v) (by rw [List.length_map];omega)
 rw [decide_eq_false hv,ints_Ns] at hct
 refine good_of Tryz.func11 rfl (by kernel_rfl) fun X hO hrd=>?_;rw [Tryz.ntmps11,Tryz.results11];simp only [ast0,List.map_cons,List.map_nil,List.length_cons,List.length_nil,Nat.reduceAdd,Nat.reduceSub,List.replicate_succ,List.replicate_zero,List.cons_append,List.nil_append]
 (repeat (first|(with_reducible first|refine W_seq fun K hK=>?_|refine J_block ?_|refine J_skip ?_|refine J_exit ?_|refine J_ret ?_|refine J_region ?_ |refine J_drawn mixed (by kernel_rfl) ?_|refine aApp_sl ?_|refine aApp_old ?_|refine J_c ?_|refine Jc_true ?_|refine Jc_false ?_|exact Frz.f _|(refine Kont.go (by assumption) ?_)|(simp (config:={ maxSteps:=3000000 }) (disch:=omega) only [go_sem,Nat.reduceEqDiff,↓reduceIte,Nat.reduceAdd,Nat.reduceLT,Nat.reduceLeDiff,Int.reduceLT,Int.reduceLE,Int.reduceEq,Int.reduceNe,Int.reduceAdd,Int.reduceSub,Int.reduceMul,Int.reduceNeg,Int.reduceToNat]))|refine call_f (of_good (by omega) (by omega)) rfl ?_|refine callQ_f (of_good (by omega) (by omega)) rfl ?_|refine And.intro (by omega) ?_|refine And.intro (And.intro (by omega) (by omega)) ?_))
 (first|refine call_f (hck) rfl ?_|refine callQ_f (hck) rfl ?_|refine callHK_f (hck) rfl ?_|refine callH_f (hck) rfl ?_)
 (repeat (first|(with_reducible first|refine W_seq fun K hK=>?_|refine J_block ?_|refine J_skip ?_|refine J_exit ?_|refine J_ret ?_|refine J_region ?_ |refine J_drawn mixed (by kernel_rfl) ?_|refine aApp_sl ?_|refine aApp_old ?_|refine J_c ?_|refine Jc_true ?_|refine Jc_false ?_|exact Frz.f _|(refine Kont.go (by assumption) ?_)|(simp (config:={ maxSteps:=3000000 }) (disch:=omega) only [go_sem,Nat.reduceEqDiff,↓reduceIte,Nat.reduceAdd,Nat.reduceLT,Nat.reduceLeDiff,Int.reduceLT,Int.reduceLE,Int.reduceEq,Int.reduceNe,Int.reduceAdd,Int.reduceSub,Int.reduceMul,Int.reduceNeg,Int.reduceToNat]))|refine call_f (of_good (by omega) (by omega)) rfl ?_|refine callQ_f (of_good (by omega) (by omega)) rfl ?_|refine And.intro (by omega) ?_|refine And.intro (And.intro (by omega) (by omega)) ?_))
 (first|refine call_f (hct) rfl ?_|refine callQ_f (hct) rfl ?_|refine callHK_f (hct) rfl ?_|refine callH_f (hct) rfl ?_)
 (repeat (first|(with_reducible first|refine W_seq fun K hK=>?_|refine J_block ?_|refine J_skip ?_|refine J_exit ?_|refine J_ret ?_|refine J_region ?_ |refine J_drawn mixed (by kernel_rfl) ?_|refine aApp_sl ?_|refine aApp_old ?_|refine J_c ?_|refine Jc_true ?_|refine Jc_false ?_|exact Frz.f _|(refine Kont.go (by assumption) ?_)|(simp (config:={ maxSteps:=3000000 }) (disch:=omega) only [go_sem,Nat.reduceEqDiff,↓reduceIte,Nat.reduceAdd,Nat.reduceLT,Nat.reduceLeDiff,Int.reduceLT,Int.reduceLE,Int.reduceEq,Int.reduceNe,Int.reduceAdd,Int.reduceSub,Int.reduceMul,Int.reduceNeg,Int.reduceToNat]))|refine call_f (of_good (by omega) (by omega)) rfl ?_|refine callQ_f (of_good (by omega) (by omega)) rfl ?_|refine And.intro (by omega) ?_|refine And.intro (And.intro (by omega) (by omega)) ?_))
 exact ⟨_,rfl,FrzL.fs [_,_]⟩
end Go.Proofs.YtmcgeppgfjlclaaGreatDoor
set_option linter.unusedVariables false
set_option linter.unusedSimpArgs false
namespace Go.Proofs.YtmcgeppgfjlclaaGreatDoor
open Go Go.RowKit
theorem sorted_extI:∀{l m:List Int},l.Pairwise (·< ·)→m.Pairwise (·< ·)→(∀x,x∈l↔x∈m)→l=m:=by
 intro l
 induction l with
 | nil =>
  intro m _ _ h
  cases m with
  | nil=>rfl
  | cons b m=>exact absurd ((h b).2 (by simp)) (by simp)
 | cons a l ih =>
  intro m hl hm h
  cases m with
  | nil=>exact absurd ((h a).1 (by simp)) (by simp)
  | cons b m =>
   obtain ⟨l1,l2⟩:=List.pairwise_cons.1 hl
   obtain ⟨m1,m2⟩:=List.pairwise_cons.1 hm
   have e:a=b:=by
    rcases List.mem_cons.1 ((h a).1 (by simp)) with e|h1
    ·exact e
    ·rcases List.mem_cons.1 ((h b).2 (by simp)) with e|h2
     ·exact e.symm
     ·have:=l1 b h2;have:=m1 a h1;omega
   subst e
   rw [ih l2 m2 fun x=>?_]
   refine ⟨fun hx=>?_,fun hx=>?_⟩
   ·rcases List.mem_cons.1 ((h x).1 (by simp [hx])) with e|h1
    ·have:=l1 x hx;omega
    ·exact h1
   ·rcases List.mem_cons.1 ((h x).2 (by simp [hx])) with e|h1
    ·have:=m1 x hx;omega
    ·exact h1
theorem comp_spec {zs:List Int} (hs:zs.Pairwise (·≤ ·)):∀m,m≤zs.length→(Lib.compactUpTo zs.toArray m).Pairwise (·< ·)∧∀x,x∈Lib.compactUpTo zs.toArray m↔x∈zs.take m:=by
 have hg:∀j (hj:j<zs.length),zs.toArray[j]! = zs[j]:=fun j hj=>by simp [hj]
 have hle:=List.pairwise_iff_getElem.1 hs
 intro m
 induction m with
 | zero=>intro _;exact ⟨List.Pairwise.nil,fun x=>by show x∈[]↔x∈[];exact Iff.rfl⟩
 | succ m ih =>
  intro hm
  obtain ⟨i1,i2⟩:=ih (by omega)
  have hml:m<zs.length:=by omega
  rw [Lib.compactUpTo_succ,hg m hml,List.take_add_one,List.getElem?_eq_getElem hml]
  by_cases hk:Lib.keeps zs.toArray m=true
  ·rw [if_pos hk]
   refine ⟨List.pairwise_append.2 ⟨i1,List.pairwise_singleton ..,fun x hx y hy=>?_⟩,fun x=>by rw [List.mem_append,List.mem_append,i2];simp⟩
   rw [List.mem_singleton.1 hy]
   obtain ⟨j,hj,e⟩:=List.getElem_of_mem ((i2 x).1 hx)
   rw [List.length_take] at hj
   rw [List.getElem_take] at e
   have hjm:j<m:=by omega
   have hk:=of_decide_eq_true hk
   rcases hk with hk|hk
   ·omega
   ·rw [hg m hml,hg (m-1) (by omega)] at hk
    have h1:zs[m-1]≤zs[m]:=hle (m-1) m (by omega) hml (by omega)
    have h2:zs[j]≤zs[m-1]:=by
     by_cases e:j=m-1
     ·subst e;omega
     ·exact hle j (m-1) (by omega) (by omega) (by omega)
    omega
  ·rw [if_neg hk,List.append_nil]
   refine ⟨i1,fun x=>?_⟩
   rw [i2,List.mem_append]
   refine ⟨.inl,fun h=>h.elim id fun h=>?_⟩
   have hx:x=zs[m]:=by simpa using h
   have hk:¬(m=0∨zs.toArray[m]!≠zs.toArray[m-1]!):=fun hh=>hk (decide_eq_true hh)
   have hm0:m≠0:=fun e=>hk (.inl e)
   have he:zs[m]=zs[m-1]:=by
    refine Classical.byContradiction fun hne=>hk (.inr ?_)
    rw [hg m hml,hg (m-1) (by omega)]
    exact hne
   rw [hx,he]
   have hl:m-1<(zs.take m).length:=by rw [List.length_take];omega
   have:=List.getElem_mem hl
   rwa [List.getElem_take] at this
def srtT (l:List Int):List Int:=l.mergeSort fun x y=>decide (x≤y)
theorem srtT_le (l:List Int):(srtT l).Pairwise (·≤ ·):=by
 have:=List.pairwise_mergeSort (le:=fun x y:Int=>decide (x≤y)) (fun a b c h1 h2=>by simp only [decide_eq_true_eq] at *;omega) (fun a b=>by simp only [Bool.or_eq_true,decide_eq_true_eq];omega) l
 exact this.imp fun h=>by simpa using h
theorem uni_sort {n:Nat} {la lb:List Nat} (ha:∀v∈la,v<n) (hb:∀v∈lb,v<n):Lib.compact (srtT (la.map Int.ofNat++lb.map Int.ofNat))=(uniT n la lb).map Int.ofNat:=by
 obtain ⟨zs,hz⟩:∃zs,zs=srtT (la.map Int.ofNat++lb.map Int.ofNat):=⟨_,rfl⟩
 have hm:∀x,x∈zs↔x∈la.map Int.ofNat++lb.map Int.ofNat:=fun x=>by rw [hz];exact List.mem_mergeSort
 have hs:zs.Pairwise (·≤ ·):=by rw [hz];exact srtT_le _
 rw [←hz]
 obtain ⟨c1,c2⟩:=comp_spec hs zs.length (Nat.le_refl _)
 refine sorted_extI c1 ?_ fun x=>?_
 ·rw [List.pairwise_map]
  exact List.Pairwise.imp (fun {a b} h=>by show (a:Int)<(b:Int);omega) (List.Pairwise.filter _ List.pairwise_lt_range)
 ·show x∈Lib.compactUpTo zs.toArray zs.length↔_
  rw [c2,List.take_length,hm,List.mem_append]
  constructor
  ·rintro (h|h)
   ·obtain ⟨v,hv,rfl⟩:=List.mem_map.1 h
    exact List.mem_map.2 ⟨v,mem_uniT.2 ⟨ha v hv,.inl hv⟩,rfl⟩
   ·obtain ⟨v,hv,rfl⟩:=List.mem_map.1 h
    exact List.mem_map.2 ⟨v,mem_uniT.2 ⟨hb v hv,.inr hv⟩,rfl⟩
  ·intro h
   obtain ⟨v,hv,rfl⟩:=List.mem_map.1 h
   exact (mem_uniT.1 hv).2.imp (fun h=>List.mem_map.2 ⟨v,h,rfl⟩) fun h=>List.mem_map.2 ⟨v,h,rfl⟩
end Go.Proofs.YtmcgeppgfjlclaaGreatDoor
set_option linter.unusedVariables false
set_option linter.unusedSimpArgs false
namespace Go.Proofs.YtmcgeppgfjlclaaGreatDoor
open Go Go.RowKit Go.Shelf
def grzRen:Go.Shelf.Ren:=⟨fun|4=>83|n=>n,fun|22=>22|25=>3|3=>3|4=>4|9=>9|20=>20|0=>0|n=>n,fun n=>n⟩
theorem grzLays:Lays8.n4 Tryz.prog grzRen where
 mixed:=by kernel_rfl
 f4 := ⟨"slices.Grow[[]int,int]", by kernel_rfl, Tryz.func83.trans (congrArg some (by kernel_rfl))⟩
 t0:=Tryz.underlying0
 a0:=Tryz.isAgg0
 z0:=Tryz.sizeOf0
 v0:=Tryz.zeroValue0
 t3:=Tryz.underlying3
 a3:=Tryz.isAgg3
 z3:=Tryz.sizeOf3
 v3:=Tryz.zeroValue3
 t4:=Tryz.underlying4
 a4:=Tryz.isAgg4
 z4:=Tryz.sizeOf4
 v4:=Tryz.zeroValue4
 t9:=Tryz.underlying9
 a9:=Tryz.isAgg9
 z9:=Tryz.sizeOf9
 v9:=Tryz.zeroValue9
 t20:=Tryz.underlying20
 a20:=Tryz.isAgg20
 z20:=Tryz.sizeOf20
 v20:=Tryz.zeroValue20
 t22:=Tryz.underlying22
 a22:=Tryz.isAgg22
 z22:=Tryz.sizeOf22
 v22:=Tryz.zeroValue22
noncomputable def inI:TypeInfo:=(Tryz.prog.info? 3).getD default
theorem inI_is:Tryz.prog.info? 3=some inI:=by kernel_rfl
set_option maxRecDepth 100000 in
theorem growZ_w {n:Nat} (h0:1≤n) (hn:n≤1000):GoodO Tryz.prog 83 [.v (.slice none 0 0),I (n:Int)] (.own 3 1 []):=by
 refine ⟨by kernel_rfl,fun w G ys hT hG hys=>?_⟩
 obtain ⟨hl,hr⟩:=hys
 have h1:ys.size=2:=hl.symm
 have r0:=hr 0 _ rfl
 have r1:=hr 1 _ rfl
 obtain ⟨u,v,rfl⟩:∃u v,ys=#[u,v]:=by
  match ys,h1 with
  | ⟨[u,v]⟩,_=>exact ⟨u,v,rfl⟩
 replace r0:RepF w G (.v (.slice none 0 0)) u:=r0
 replace r1:RepF w G (I (n:Int)) v:=r1
 cases r0
 cases r1
 have hz:inI.zero=some (.int .i64 0):=by kernel_rfl
 have hs:inI.size=1:=by kernel_rfl
 have hb:inI.bytes=8:=by kernel_rfl
 have key:=Any8.slices_Grow_grow grzLays inI _ inI_is hz (by rw [hs];decide) none 0 0 n [] w (by omega) (by omega) (by rw [hb];omega) (by omega) (by simp) (fun _=>rfl) (fun a h=>by cases h)
 refine Calls.mono key ?_
 rintro e w' ⟨rfl,rfl⟩
 obtain ⟨vs,hvs⟩:∃vs:Array Value,vs=(([]:List Value).toArray++Builtin.zeroCells (Value.int .i64 0).cells (0+n-0)++Builtin.zeroCells (Value.int .i64 0).cells (grownCap w (0+n) 0 (grzRen.t 25)-(0+n))):=⟨_,rfl⟩
 have hge:=grownCap_ge w (0+n) 0 (grzRen.t 25)
 have hle:=grownCap_le_maxLen w (0+n) 0 (grzRen.t 25) (by unfold maxLen;omega)
 obtain ⟨cap,hcap⟩:∃cap,cap=grownCap w (0+n) 0 (grzRen.t 25):=⟨_,rfl⟩
 rw [←hcap] at hge hle hvs ⊢
 have hsz:vs.size=cap*1:=by
  rw [hvs,Array.size_append,Array.size_append,size_zeroCells,size_zeroCells]
  have:(Value.int .i64 0).cells.size=1:=rfl
  rw [this]
  simp
  omega
 rw [←hvs]
 have hb1:Beyond (fun _=>False) w w.drew:=⟨rfl,rfl,rfl,Nat.le_refl _,fun _ _ _=>rfl⟩
 have hb2:=beyond_alloc w.drew (.cells vs (grzRen.t 25))
 refine ⟨_,rfl,hb1.trans ⟨hb2.os,hb2.tape,hb2.output,hb2.size,fun k hk hn=>hb2.block k hk id⟩,?_⟩
 have hh:(w.drew.alloc (.cells vs (grzRen.t 25))).heap[w.heap.size]?=some (.cells vs 3 (0,0)):=heap_alloc_new w.drew _
 exact RepR.own 3 1 [] w.heap.size cap (Nat.le_refl _) (by simp) hle (fun x hx=>by cases hx) (fun x hx=>by cases hx) vs hh hsz (fun j c hj=>by simp [flatF] at hj)
end Go.Proofs.YtmcgeppgfjlclaaGreatDoor
