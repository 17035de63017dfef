/- What nets may be, their tables and chances, as the document says: walked. Conditions: what slices may hold. -/
import Derived.Test.YthehegidpamldaaGreatDoorZB21
import Derived.Test.YthehegidpamldaaGreatDoorZB24
import Derived.Test.YthehegidpamldaaGreatDoorZNetH
import Derived.Test.YthehegidpamldaaGreatDoorZB26
import Derived.SevenTiedAt
-- NOOWN
set_option linter.unusedVariables false
set_option linter.unusedSimpArgs false
namespace Go.Proofs.YthehegidpamldaaGreatDoor
open Go Go.RowKit
section
variable {k : Nat} {V : List VarD} {P : List (List Int)} {RR : List FV} {M : List (List Rat)} {at_ : List Int}
theorem given_pair (h:NetOk k V P RR M) (v:Int):∃(VV C:FV) (e:Int),VV.oc=true∧C.oc=true∧Good Tryz.prog 9 [netV V (P.map ints) RR,I v] (.tup [.agg [VV,C],I e])∧Good Tryz.prog 10 [netV V (P.map ints) RR,I v] (.tup [.agg [VV,C],I e])∧Good Tryz.prog 18 [.agg [VV,C],.agg [VV,C]] (Bo true):=by
 by_cases he:netE (ordE P) V P M=0
 ·by_cases hv:v<0∨(V.length:Int)≤v
  ·exact ⟨_,_,_,rfl,rfl,givenV_w h v he hv,rgivenV_w h v he hv,sameTable0_w⟩
  ·obtain ⟨n,rfl⟩:=Int.eq_ofNat_of_zero_le (show 0≤v by omega)
   have hn:n<V.length:=by omega
   have hG:=netG he hn
   have hf:=hG.ok.fam (v:=n)
   have h1:=hf.len
   have h2:=hf.cnt
   have h3:(givQ (szN V) (paN P n) n (M.getD n [])).length=cntS (szT (szN V)) (famT (szN V).length (paN P n) n):=tblS_len
   exact ⟨_,_,_,rfl,rfl,given_w h he hn,rgiven_w h he hn,sameTable_w _ _ (by omega) (by omega)⟩
 ·exact ⟨_,_,_,rfl,rfl,givenE_w h v he,rgivenE_w h v he,sameTable0_w⟩
theorem joint_pair (h:NetOk k V P RR M) (hat:at_.length≤140737488355328):∃(g:Bool) (n d:ByteArray) (e:Int),Good Tryz.prog 11 [netV V (P.map ints) RR,ints at_] (.tup [frR g n d,I e])∧Good Tryz.prog 12 [netV V (P.map ints) RR,ints at_] (.tup [frR g n d,I e])∧Good Tryz.prog 19 [frR g n d,I e,frR g n d,I e] (Bo true):=by
 by_cases he:netE (ordE P) V P M=0
 ·by_cases hx:jntE (szN V) at_=0
  ·exact ⟨_,_,_,_,joint_w h he hx,rjoint_w h he hx,oneFracN_ok⟩
  ·exact ⟨_,_,_,_,jointX_w h he hat hx,rjointX_w h he hat hx,oneFracN_err hx⟩
 ·exact ⟨_,_,_,_,jointE_w h he,rjointE_w h he,oneFracN_err he⟩
end
set_option maxRecDepth 100000 in
set_option maxHeartbeats 16000000 in
theorem netChecks_w (n:NetD) (v:Int) (at_:List Int) (hn:OkNet n) (hv:OkI v) (hat:OkIs at_):Good Tryz.prog 4 [netO n,I v,ints at_] (Bo true):=by
 obtain ⟨V,P,R⟩:=n
 have hal:=hat.1
 have hh:=heavyNet_w V P R hn
 have e0:netO (V,P,R)=netV V (P.map ints) (R.map rawF):=rfl
 rw [e0]
 by_cases h1:(decide (2048<hvK (V,P,R))||decide (800<hvC (V,P,R)))=true
 ·rw [h1] at hh
  refine good_of Tryz.func4 rfl (by kernel_rfl) fun X hO hrd=>?_;rw [Tryz.ntmps4,Tryz.results4];simp only [ast0,List.map_cons,List.map_nil,List.length_cons,List.length_nil,Nat.reduceAdd,Nat.reduceSub,List.replicate_succ,List.replicate_zero,List.cons_append,List.nil_append]
  (repeat (with_reducible first|refine W_seq fun K hK=>?_|refine J_region ?_ |(refine Kont.go (by assumption) ?_)|(simp (config:={ maxSteps:=3000000 }) (disch:=omega) only [go_sem,↓reduceIte,Nat.reduceAdd])))
  (first|refine call_f (hh) rfl ?_|refine callQ_f (hh) rfl ?_|refine callHK_f (hh) rfl ?_|refine callH_f (hh) rfl ?_)
  (repeat (with_reducible first|refine W_seq fun K hK=>?_|refine J_ret ?_|refine J_region ?_ |refine J_c ?_|refine Jc_true ?_|exact Frz.f _|(refine Kont.go (by assumption) ?_)|(simp (config:={ maxSteps:=3000000 }) (disch:=omega) only [go_sem])))
 rw [Bool.not_eq_true] at h1
 rw [h1] at hh
 have h:=netOk_of hn h1
 by_cases h2:(64:Int)<(at_.length:Int)
 ·refine good_of Tryz.func4 rfl (by kernel_rfl) fun X hO hrd=>?_;rw [Tryz.ntmps4,Tryz.results4];simp only [ast0,List.map_cons,List.map_nil,List.length_cons,List.length_nil,Nat.reduceAdd,Nat.reduceSub,List.replicate_succ,List.replicate_zero,List.cons_append,List.nil_append]
  (repeat (with_reducible first|refine W_seq fun K hK=>?_|refine J_region ?_ |(refine Kont.go (by assumption) ?_)|(simp (config:={ maxSteps:=3000000 }) (disch:=omega) only [go_sem,↓reduceIte,Nat.reduceAdd])))
  (first|refine call_f (hh) rfl ?_|refine callQ_f (hh) rfl ?_|refine callHK_f (hh) rfl ?_|refine callH_f (hh) rfl ?_)
  (repeat (with_reducible first|refine W_seq fun K hK=>?_|refine J_ret ?_|refine J_region ?_ |refine J_c ?_|refine Jc_true ?_|exact Frz.f _|(refine Kont.go (by assumption) ?_)|(simp (config:={ maxSteps:=3000000 }) (disch:=omega) only [go_sem,h2,List.length_map])))
 obtain ⟨v1,c1,e1,o1,o1',p1,q1,r1⟩:=given_pair h v
 obtain ⟨g2,n2,d2,e2,p2,q2,r2⟩:=joint_pair (at_:=at_) h hal
 have k1:=netCheck_w h
 have k2:=rnetCheck_w h
 have s1:=sizes_w V (P.map ints) (R.map rawF) h.lV
 have s2:=rsizes_w V (P.map ints) (R.map rawF) h.lV
 have s3:=sameInts_w ((szN V).map Int.ofNat) (by rw [List.length_map,szN_len];have:=h.lV;omega)
 rw [ints_Ns] at s3
 generalize netE (ordE P) V P (rwsN R)=ee at k1 k2
 refine good_of Tryz.func4 rfl (by kernel_rfl) fun X hO hrd=>?_;rw [Tryz.ntmps4,Tryz.results4];simp only [ast0,List.map_cons,List.map_nil,List.length_cons,List.length_nil,Nat.reduceAdd,Nat.reduceSub,List.replicate_succ,List.replicate_zero,List.cons_append,List.nil_append]
 (repeat (with_reducible first|refine W_seq fun K hK=>?_|refine J_region ?_ |(refine Kont.go (by assumption) ?_)|(simp (config:={ maxSteps:=3000000 }) (disch:=omega) only [go_sem,↓reduceIte,Nat.reduceAdd])))
 (first|refine call_f (hh) rfl ?_|refine callQ_f (hh) rfl ?_|refine callHK_f (hh) rfl ?_|refine callH_f (hh) rfl ?_)
 (repeat (with_reducible first|refine W_seq fun K hK=>?_|refine J_skip ?_|refine J_region ?_ |refine J_c ?_|refine Jc_false ?_|(refine Kont.go (by assumption) ?_)|(simp (config:={ maxSteps:=3000000 }) (disch:=omega) only [go_sem,↓reduceIte,Nat.reduceAdd,h2,List.length_map])))
 (first|refine call_f (p1) rfl ?_|refine callQ_f (p1) rfl ?_|refine callHK_f (p1) rfl ?_|refine callH_f (p1) rfl ?_)
 (repeat (with_reducible first|refine W_seq fun K hK=>?_|refine J_region ?_ |(refine Kont.go (by assumption) ?_)|(simp (config:={ maxSteps:=3000000 }) (disch:=omega) only [go_sem,↓reduceIte,Nat.reduceAdd,o1,o1'])))
 (first|refine call_f (q1) rfl ?_|refine callQ_f (q1) rfl ?_|refine callHK_f (q1) rfl ?_|refine callH_f (q1) rfl ?_)
 (repeat (with_reducible first|refine W_seq fun K hK=>?_|refine J_region ?_ |(refine Kont.go (by assumption) ?_)|(simp (config:={ maxSteps:=3000000 }) (disch:=omega) only [go_sem,↓reduceIte,Nat.reduceAdd,o1,o1'])))
 (first|refine call_f (p2) rfl ?_|refine callQ_f (p2) rfl ?_|refine callHK_f (p2) rfl ?_|refine callH_f (p2) rfl ?_)
 (repeat (with_reducible first|refine W_seq fun K hK=>?_|refine J_region ?_ |(refine Kont.go (by assumption) ?_)|(simp (config:={ maxSteps:=3000000 }) (disch:=omega) only [go_sem,↓reduceIte,Nat.reduceAdd])))
 (first|refine call_f (q2) rfl ?_|refine callQ_f (q2) rfl ?_|refine callHK_f (q2) rfl ?_|refine callH_f (q2) rfl ?_)
 (repeat (with_reducible first|refine W_seq fun K hK=>?_|refine J_drawn mixed (by kernel_rfl) ?_|(refine Kont.go (by assumption) ?_)|(simp (config:={ maxSteps:=3000000 }) (disch:=omega) only [go_sem,↓reduceIte,Nat.reduceAdd])))
 (first|refine call_f (k1) rfl ?_|refine callQ_f (k1) rfl ?_|refine callHK_f (k1) rfl ?_|refine callH_f (k1) rfl ?_)
 (skip)
 (first|refine call_f (k2) rfl ?_|refine callQ_f (k2) rfl ?_|refine callHK_f (k2) rfl ?_|refine callH_f (k2) rfl ?_)
 (repeat (with_reducible first|(simp (config:={ maxSteps:=3000000 }) (disch:=omega) only [go_sem,↓reduceIte,Nat.reduceAdd])))
 (first|refine call_f (s1) rfl ?_|refine callQ_f (s1) rfl ?_|refine callHK_f (s1) rfl ?_|refine callH_f (s1) rfl ?_)
 (skip)
 (first|refine call_f (s2) rfl ?_|refine callQ_f (s2) rfl ?_|refine callHK_f (s2) rfl ?_|refine callH_f (s2) rfl ?_)
 (skip)
 (first|refine call_f (s3) rfl ?_|refine callQ_f (s3) rfl ?_|refine callHK_f (s3) rfl ?_|refine callH_f (s3) rfl ?_)
 (repeat (with_reducible first|(simp (config:={ maxSteps:=3000000 }) (disch:=omega) only [go_sem,↓reduceIte,Nat.reduceAdd])))
 (first|refine call_f (r1) rfl ?_|refine callQ_f (r1) rfl ?_|refine callHK_f (r1) rfl ?_|refine callH_f (r1) rfl ?_)
 (repeat (with_reducible first|(simp (config:={ maxSteps:=3000000 }) (disch:=omega) only [go_sem,↓reduceIte,Nat.reduceAdd])))
 (first|refine call_f (r2) rfl ?_|refine callQ_f (r2) rfl ?_|refine callHK_f (r2) rfl ?_|refine callH_f (r2) rfl ?_)
 (repeat (with_reducible first|refine J_ret ?_|exact Frz.f _|(refine Kont.go (by assumption) ?_)|(simp (config:={ maxSteps:=3000000 }) (disch:=omega) only [go_sem])))
end Go.Proofs.YthehegidpamldaaGreatDoor
set_option linter.unusedVariables false
set_option linter.unusedSimpArgs false
namespace Go.Proofs.YthehegidpamldaaGreatDoor
open Go
theorem goes_none {P:Program} (h:P.funcs.any Func.goes=false) (f:FuncId):P.goes f=false:=by
 have hx:∀g:FuncId,(P.funcs[g]?).any Func.goes=false:=fun g=>by
  cases hg:P.funcs[g]? with
  | none=>rfl
  | some fn =>
   show Func.goes fn=false
   cases hf:Func.goes fn with
   | false=>rfl
   | true =>
    have hm:fn∈P.funcs:=Array.mem_of_getElem? hg
    have:P.funcs.any Func.goes=true:=Array.any_eq_true'.2 ⟨fn,hm,hf⟩
    rw [h] at this;cases this
 unfold Program.goes
 rw [h,Bool.and_false,Bool.or_false,List.any_eq_false]
 intro g _
 rw [hx g]
 decide
theorem goesBy_none {P:Program} {c:OpenClaim} (h:P.funcs.any Func.goes=false) (hs:c.start=.entering):false=c.goesBy P:=by
 unfold OpenClaim.goesBy Program.goesAt Program.goesFrom
 rw [hs]
 cases P.funcNamed c.func with
 | none=>rfl
 | some f=>show false=(P.goes f||false);rw [goes_none h];rfl
end Go.Proofs.YthehegidpamldaaGreatDoor
