/- Tables: what the calls give for tables that may not be, and for variables and values that are not there: walked. Conditions: what slices may hold. -/
import Derived.Test.YtmcgeppgfjlclaaGreatDoorYTcH
set_option linter.unusedVariables false
set_option linter.unusedSimpArgs false
namespace Go.Proofs.YtmcgeppgfjlclaaGreatDoor
open Go Go.RowKit
section
variable {s l : List Int} {xs : List FV} {e : Int}
set_option maxRecDepth 100000 in
theorem normE_w (he:e≠0) (hc:Good Tryz.prog 18 [ints s,tabI l xs] (I e)):Good Tryz.prog 29 [ints s,tabI l xs] (.tup [tab0,I e]):=by
 refine good_of Tryz.func29 rfl (by kernel_rfl) fun X hO hrd=>?_;rw [Tryz.ntmps29,Tryz.results29];simp only [ast0,List.map_cons,List.map_nil,List.length_cons,List.length_nil,Nat.reduceAdd,Nat.reduceSub,List.replicate_succ,List.replicate_zero,List.cons_append,List.nil_append]
 (repeat (with_reducible first|refine W_seq fun K hK=>?_|refine J_region ?_ |(refine Kont.go (by assumption) ?_)|(simp (config:={ maxSteps:=3000000 }) (disch:=omega) only [go_sem,↓reduceIte,Nat.reduceAdd])))
 (first|refine call_f (hc) rfl ?_|refine callQ_f (hc) rfl ?_|refine callHK_f (hc) rfl ?_|refine callH_f (hc) rfl ?_)
 (repeat (with_reducible first|refine W_seq fun K hK=>?_|refine J_ret ?_|refine J_region ?_ |refine J_c ?_|refine Jc_true ?_|(refine Kont.go (by assumption) ?_)|(simp (config:={ maxSteps:=3000000 }) (disch:=omega) only [go_sem,↓reduceIte,Nat.reduceAdd,he])))
 exact ⟨_,rfl,FrzL.fs [_,_]⟩
set_option maxRecDepth 100000 in
theorem rnormE_w (he:e≠0) (hc:Good Tryz.prog 19 [ints s,tabI l xs] (I e)):Good Tryz.prog 30 [ints s,tabI l xs] (.tup [tab0,I e]):=by
 refine good_of Tryz.func30 rfl (by kernel_rfl) fun X hO hrd=>?_;rw [Tryz.ntmps30,Tryz.results30];simp only [ast0,List.map_cons,List.map_nil,List.length_cons,List.length_nil,Nat.reduceAdd,Nat.reduceSub,List.replicate_succ,List.replicate_zero,List.cons_append,List.nil_append]
 (repeat (with_reducible first|refine W_seq fun K hK=>?_|refine J_region ?_ |(refine Kont.go (by assumption) ?_)|(simp (config:={ maxSteps:=3000000 }) (disch:=omega) only [go_sem,↓reduceIte,Nat.reduceAdd])))
 (first|refine call_f (hc) rfl ?_|refine callQ_f (hc) rfl ?_|refine callHK_f (hc) rfl ?_|refine callH_f (hc) rfl ?_)
 (repeat (with_reducible first|refine W_seq fun K hK=>?_|refine J_ret ?_|refine J_region ?_ |refine J_c ?_|refine Jc_true ?_|(refine Kont.go (by assumption) ?_)|(simp (config:={ maxSteps:=3000000 }) (disch:=omega) only [go_sem,↓reduceIte,Nat.reduceAdd,he])))
 exact ⟨_,rfl,FrzL.fs [_,_]⟩
set_option maxRecDepth 100000 in
theorem bestE_w (he:e≠0) (hc:Good Tryz.prog 18 [ints s,tabI l xs] (I e)):Good Tryz.prog 31 [ints s,tabI l xs] (.tup [.v (.slice none 0 0),frN,I e]):=by
 refine good_of Tryz.func31 rfl (by kernel_rfl) fun X hO hrd=>?_;rw [Tryz.ntmps31,Tryz.results31];simp only [ast0,List.map_cons,List.map_nil,List.length_cons,List.length_nil,Nat.reduceAdd,Nat.reduceSub,List.replicate_succ,List.replicate_zero,List.cons_append,List.nil_append]
 (repeat (with_reducible first|refine W_seq fun K hK=>?_|refine J_region ?_ |(refine Kont.go (by assumption) ?_)|(simp (config:={ maxSteps:=3000000 }) (disch:=omega) only [go_sem,↓reduceIte,Nat.reduceAdd])))
 (first|refine call_f (hc) rfl ?_|refine callQ_f (hc) rfl ?_|refine callHK_f (hc) rfl ?_|refine callH_f (hc) rfl ?_)
 (repeat (with_reducible first|refine W_seq fun K hK=>?_|refine J_ret ?_|refine J_region ?_ |refine J_c ?_|refine Jc_true ?_|(refine Kont.go (by assumption) ?_)|(simp (config:={ maxSteps:=3000000 }) (disch:=omega) only [go_sem,↓reduceIte,Nat.reduceAdd,he])))
 exact ⟨_,rfl,FrzL.fs [_,_,_]⟩
set_option maxRecDepth 100000 in
theorem rbestE_w (he:e≠0) (hc:Good Tryz.prog 19 [ints s,tabI l xs] (I e)):Good Tryz.prog 32 [ints s,tabI l xs] (.tup [.v (.slice none 0 0),frN,I e]):=by
 refine good_of Tryz.func32 rfl (by kernel_rfl) fun X hO hrd=>?_;rw [Tryz.ntmps32,Tryz.results32];simp only [ast0,List.map_cons,List.map_nil,List.length_cons,List.length_nil,Nat.reduceAdd,Nat.reduceSub,List.replicate_succ,List.replicate_zero,List.cons_append,List.nil_append]
 (repeat (with_reducible first|refine W_seq fun K hK=>?_|refine J_region ?_ |(refine Kont.go (by assumption) ?_)|(simp (config:={ maxSteps:=3000000 }) (disch:=omega) only [go_sem,↓reduceIte,Nat.reduceAdd])))
 (first|refine call_f (hc) rfl ?_|refine callQ_f (hc) rfl ?_|refine callHK_f (hc) rfl ?_|refine callH_f (hc) rfl ?_)
 (repeat (with_reducible first|refine W_seq fun K hK=>?_|refine J_ret ?_|refine J_region ?_ |refine J_c ?_|refine Jc_true ?_|(refine Kont.go (by assumption) ?_)|(simp (config:={ maxSteps:=3000000 }) (disch:=omega) only [go_sem,↓reduceIte,Nat.reduceAdd,he])))
 exact ⟨_,rfl,FrzL.fs [_,_,_]⟩
set_option maxRecDepth 100000 in
theorem outE_w (v:Int) (b:Bool) (he:e≠0) (hc:Good Tryz.prog 18 [ints s,tabI l xs] (I e)):Good Tryz.prog 11 [ints s,tabI l xs,I v,Bo b] (.tup [tab0,I e]):=by
 refine good_of Tryz.func11 rfl (by kernel_rfl) fun X hO hrd=>?_;rw [Tryz.ntmps11,Tryz.results11];simp only [ast0,List.map_cons,List.map_nil,List.length_cons,List.length_nil,Nat.reduceAdd,Nat.reduceSub,List.replicate_succ,List.replicate_zero,List.cons_append,List.nil_append]
 (repeat (with_reducible first|refine W_seq fun K hK=>?_|refine J_region ?_ |(refine Kont.go (by assumption) ?_)|(simp (config:={ maxSteps:=3000000 }) (disch:=omega) only [go_sem,↓reduceIte,Nat.reduceAdd])))
 (first|refine call_f (hc) rfl ?_|refine callQ_f (hc) rfl ?_|refine callHK_f (hc) rfl ?_|refine callH_f (hc) rfl ?_)
 (repeat (with_reducible first|refine W_seq fun K hK=>?_|refine J_ret ?_|refine J_region ?_ |refine J_c ?_|refine Jc_true ?_|(refine Kont.go (by assumption) ?_)|(simp (config:={ maxSteps:=3000000 }) (disch:=omega) only [go_sem,↓reduceIte,Nat.reduceAdd,he])))
 exact ⟨_,rfl,FrzL.fs [_,_]⟩
set_option maxRecDepth 100000 in
theorem routE_w (v:Int) (b:Bool) (he:e≠0) (hc:Good Tryz.prog 19 [ints s,tabI l xs] (I e)):Good Tryz.prog 26 [ints s,tabI l xs,I v,Bo b] (.tup [tab0,I e]):=by
 refine good_of Tryz.func26 rfl (by kernel_rfl) fun X hO hrd=>?_;rw [Tryz.ntmps26,Tryz.results26];simp only [ast0,List.map_cons,List.map_nil,List.length_cons,List.length_nil,Nat.reduceAdd,Nat.reduceSub,List.replicate_succ,List.replicate_zero,List.cons_append,List.nil_append]
 (repeat (with_reducible first|refine W_seq fun K hK=>?_|refine J_region ?_ |(refine Kont.go (by assumption) ?_)|(simp (config:={ maxSteps:=3000000 }) (disch:=omega) only [go_sem,↓reduceIte,Nat.reduceAdd])))
 (first|refine call_f (hc) rfl ?_|refine callQ_f (hc) rfl ?_|refine callHK_f (hc) rfl ?_|refine callH_f (hc) rfl ?_)
 (repeat (with_reducible first|refine W_seq fun K hK=>?_|refine J_ret ?_|refine J_region ?_ |refine J_c ?_|refine Jc_true ?_|(refine Kont.go (by assumption) ?_)|(simp (config:={ maxSteps:=3000000 }) (disch:=omega) only [go_sem,↓reduceIte,Nat.reduceAdd,he])))
 exact ⟨_,rfl,FrzL.fs [_,_]⟩
set_option maxRecDepth 100000 in
theorem fixE_w (v w:Int) (he:e≠0) (hc:Good Tryz.prog 18 [ints s,tabI l xs] (I e)):Good Tryz.prog 27 [ints s,tabI l xs,I v,I w] (.tup [tab0,I e]):=by
 refine good_of Tryz.func27 rfl (by kernel_rfl) fun X hO hrd=>?_;rw [Tryz.ntmps27,Tryz.results27];simp only [ast0,List.map_cons,List.map_nil,List.length_cons,List.length_nil,Nat.reduceAdd,Nat.reduceSub,List.replicate_succ,List.replicate_zero,List.cons_append,List.nil_append]
 (repeat (with_reducible first|refine W_seq fun K hK=>?_|refine J_region ?_|(refine Kont.go (by assumption) ?_)|(simp (config:={ maxSteps:=3000000 }) (disch:=omega) only [go_sem,↓reduceIte,Nat.reduceAdd])))
 (first|refine call_f (hc) rfl ?_|refine callQ_f (hc) rfl ?_|refine callHK_f (hc) rfl ?_|refine callH_f (hc) rfl ?_)
 (repeat (with_reducible first|refine W_seq fun K hK=>?_|refine J_ret ?_|refine J_region ?_|refine J_c ?_|refine Jc_true ?_|(refine Kont.go (by assumption) ?_)|(simp (config:={ maxSteps:=3000000 }) (disch:=omega) only [go_sem,↓reduceIte,Nat.reduceAdd,he])))
 exact ⟨_,rfl,FrzL.fs [_,_]⟩
set_option maxRecDepth 100000 in
theorem rfixE_w (v w:Int) (he:e≠0) (hc:Good Tryz.prog 19 [ints s,tabI l xs] (I e)):Good Tryz.prog 28 [ints s,tabI l xs,I v,I w] (.tup [tab0,I e]):=by
 refine good_of Tryz.func28 rfl (by kernel_rfl) fun X hO hrd=>?_;rw [Tryz.ntmps28,Tryz.results28];simp only [ast0,List.map_cons,List.map_nil,List.length_cons,List.length_nil,Nat.reduceAdd,Nat.reduceSub,List.replicate_succ,List.replicate_zero,List.cons_append,List.nil_append]
 (repeat (with_reducible first|refine W_seq fun K hK=>?_|refine J_region ?_ |(refine Kont.go (by assumption) ?_)|(simp (config:={ maxSteps:=3000000 }) (disch:=omega) only [go_sem,↓reduceIte,Nat.reduceAdd])))
 (first|refine call_f (hc) rfl ?_|refine callQ_f (hc) rfl ?_|refine callHK_f (hc) rfl ?_|refine callH_f (hc) rfl ?_)
 (repeat (with_reducible first|refine W_seq fun K hK=>?_|refine J_ret ?_|refine J_region ?_ |refine J_c ?_|refine Jc_true ?_|(refine Kont.go (by assumption) ?_)|(simp (config:={ maxSteps:=3000000 }) (disch:=omega) only [go_sem,↓reduceIte,Nat.reduceAdd,he])))
 exact ⟨_,rfl,FrzL.fs [_,_]⟩
set_option maxRecDepth 100000 in
theorem fixV_w (v w:Int) (hv:v<0∨(s.length:Int)≤v) (hc:Good Tryz.prog 18 [ints s,tabI l xs] (I 0)):Good Tryz.prog 27 [ints s,tabI l xs,I v,I w] (.tup [tab0,I 11]):=by
 refine good_of Tryz.func27 rfl (by kernel_rfl) fun X hO hrd=>?_;rw [Tryz.ntmps27,Tryz.results27];simp only [ast0,List.map_cons,List.map_nil,List.length_cons,List.length_nil,Nat.reduceAdd,Nat.reduceSub,List.replicate_succ,List.replicate_zero,List.cons_append,List.nil_append]
 (repeat (with_reducible first|refine W_seq fun K hK=>?_|refine J_region ?_|(refine Kont.go (by assumption) ?_)|(simp (config:={ maxSteps:=3000000 }) (disch:=omega) only [go_sem,↓reduceIte,Nat.reduceAdd])))
 (first|refine call_f (hc) rfl ?_|refine callQ_f (hc) rfl ?_|refine callHK_f (hc) rfl ?_|refine callH_f (hc) rfl ?_)
 by_cases c0:v<0
 ·(repeat (with_reducible first|refine W_seq fun K hK=>?_|refine J_block ?_|refine J_skip ?_|refine J_ret ?_|refine J_region ?_|refine J_c ?_|refine Jc_true ?_|refine Jc_false ?_|(refine Kont.go (by assumption) ?_)|(simp (config:={ maxSteps:=3000000 }) (disch:=omega) only [go_sem,↓reduceIte,Nat.reduceAdd,c0])))
  exact ⟨_,rfl,FrzL.fs [_,_]⟩
 ·have c1:=hv.resolve_left c0
  (repeat (with_reducible first|refine W_seq fun K hK=>?_|refine J_block ?_|refine J_skip ?_|refine J_ret ?_|refine J_region ?_|refine J_c ?_|refine Jc_true ?_|refine Jc_false ?_|(refine Kont.go (by assumption) ?_)|(simp (config:={ maxSteps:=3000000 }) (disch:=omega) only [go_sem,↓reduceIte,Nat.reduceAdd,c0,c1,List.length_map])))
  exact ⟨_,rfl,FrzL.fs [_,_]⟩
set_option maxRecDepth 100000 in
theorem rfixV_w (v w:Int) (hv:v<0∨(s.length:Int)≤v) (hc:Good Tryz.prog 19 [ints s,tabI l xs] (I 0)):Good Tryz.prog 28 [ints s,tabI l xs,I v,I w] (.tup [tab0,I 11]):=by
 refine good_of Tryz.func28 rfl (by kernel_rfl) fun X hO hrd=>?_;rw [Tryz.ntmps28,Tryz.results28];simp only [ast0,List.map_cons,List.map_nil,List.length_cons,List.length_nil,Nat.reduceAdd,Nat.reduceSub,List.replicate_succ,List.replicate_zero,List.cons_append,List.nil_append]
 (repeat (with_reducible first|refine W_seq fun K hK=>?_|refine J_region ?_ |(refine Kont.go (by assumption) ?_)|(simp (config:={ maxSteps:=3000000 }) (disch:=omega) only [go_sem,↓reduceIte,Nat.reduceAdd])))
 (first|refine call_f (hc) rfl ?_|refine callQ_f (hc) rfl ?_|refine callHK_f (hc) rfl ?_|refine callH_f (hc) rfl ?_)
 by_cases c0:v<0
 ·(repeat (with_reducible first|refine W_seq fun K hK=>?_|refine J_skip ?_|refine J_ret ?_|refine J_region ?_ |refine J_c ?_|refine Jc_true ?_|refine Jc_false ?_|(refine Kont.go (by assumption) ?_)|(simp (config:={ maxSteps:=3000000 }) (disch:=omega) only [go_sem,↓reduceIte,Nat.reduceAdd,c0])))
  exact ⟨_,rfl,FrzL.fs [_,_]⟩
 ·have c1:=hv.resolve_left c0
  (repeat (with_reducible first|refine W_seq fun K hK=>?_|refine J_skip ?_|refine J_ret ?_|refine J_region ?_ |refine J_c ?_|refine Jc_true ?_|refine Jc_false ?_|(refine Kont.go (by assumption) ?_)|(simp (config:={ maxSteps:=3000000 }) (disch:=omega) only [go_sem,↓reduceIte,Nat.reduceAdd,c0,c1,List.length_map])))
  exact ⟨_,rfl,FrzL.fs [_,_]⟩
set_option maxRecDepth 100000 in
theorem fixW_w (v:Nat) (w:Int) (hv:v<s.length) (hw:w<0∨s.getD v 0≤w) (hc:Good Tryz.prog 18 [ints s,tabI l xs] (I 0)):Good Tryz.prog 27 [ints s,tabI l xs,I (v:Int),I w] (.tup [tab0,I 12]):=by
 have c0:¬(v:Int)<0:=by omega
 have c1:¬(s.length:Int)≤(v:Int):=by omega
 have g1:=map_get I s hv
 rw [lget_lt s 0 hv] at hw
 refine good_of Tryz.func27 rfl (by kernel_rfl) fun X hO hrd=>?_;rw [Tryz.ntmps27,Tryz.results27];simp only [ast0,List.map_cons,List.map_nil,List.length_cons,List.length_nil,Nat.reduceAdd,Nat.reduceSub,List.replicate_succ,List.replicate_zero,List.cons_append,List.nil_append]
 (repeat (with_reducible first|refine W_seq fun K hK=>?_|refine J_region ?_|(refine Kont.go (by assumption) ?_)|(simp (config:={ maxSteps:=3000000 }) (disch:=omega) only [go_sem,↓reduceIte,Nat.reduceAdd])))
 (first|refine call_f (hc) rfl ?_|refine callQ_f (hc) rfl ?_|refine callHK_f (hc) rfl ?_|refine callH_f (hc) rfl ?_)
 by_cases c2:w<0
 ·(repeat (with_reducible first|refine W_seq fun K hK=>?_|refine J_block ?_|refine J_skip ?_|refine J_ret ?_|refine J_region ?_|refine J_c ?_|refine Jc_true ?_|refine Jc_false ?_|(refine Kont.go (by assumption) ?_)|(simp (config:={ maxSteps:=3000000 }) (disch:=omega) only [go_sem,↓reduceIte,Nat.reduceAdd,c0,c1,c2,List.length_map])))
  exact ⟨_,rfl,FrzL.fs [_,_]⟩
 ·have c3:=hw.resolve_left c2
  (repeat (with_reducible first|refine W_seq fun K hK=>?_|refine J_block ?_|refine J_skip ?_|refine J_ret ?_|refine J_region ?_|refine J_c ?_|refine Jc_true ?_|refine Jc_false ?_|(refine Kont.go (by assumption) ?_)|(simp (config:={ maxSteps:=3000000 }) (disch:=omega) only [go_sem,↓reduceIte,Nat.reduceAdd,c0,c1,c2,c3,g1,List.length_map])))
  exact ⟨_,rfl,FrzL.fs [_,_]⟩
set_option maxRecDepth 100000 in
theorem rfixW_w (v:Nat) (w:Int) (hv:v<s.length) (hw:w<0∨s.getD v 0≤w) (hc:Good Tryz.prog 19 [ints s,tabI l xs] (I 0)):Good Tryz.prog 28 [ints s,tabI l xs,I (v:Int),I w] (.tup [tab0,I 12]):=by
 have c0:¬(v:Int)<0:=by omega
 have c1:¬(s.length:Int)≤(v:Int):=by omega
 have g1:=map_get I s hv
 rw [lget_lt s 0 hv] at hw
 refine good_of Tryz.func28 rfl (by kernel_rfl) fun X hO hrd=>?_;rw [Tryz.ntmps28,Tryz.results28];simp only [ast0,List.map_cons,List.map_nil,List.length_cons,List.length_nil,Nat.reduceAdd,Nat.reduceSub,List.replicate_succ,List.replicate_zero,List.cons_append,List.nil_append]
 (repeat (with_reducible first|refine W_seq fun K hK=>?_|refine J_region ?_ |(refine Kont.go (by assumption) ?_)|(simp (config:={ maxSteps:=3000000 }) (disch:=omega) only [go_sem,↓reduceIte,Nat.reduceAdd])))
 (first|refine call_f (hc) rfl ?_|refine callQ_f (hc) rfl ?_|refine callHK_f (hc) rfl ?_|refine callH_f (hc) rfl ?_)
 by_cases c2:w<0
 ·(repeat (with_reducible first|refine W_seq fun K hK=>?_|refine J_skip ?_|refine J_ret ?_|refine J_region ?_ |refine J_c ?_|refine Jc_true ?_|refine Jc_false ?_|(refine Kont.go (by assumption) ?_)|(simp (config:={ maxSteps:=3000000 }) (disch:=omega) only [go_sem,↓reduceIte,Nat.reduceAdd,c0,c1,c2,List.length_map])))
  exact ⟨_,rfl,FrzL.fs [_,_]⟩
 ·have c3:=hw.resolve_left c2
  (repeat (with_reducible first|refine W_seq fun K hK=>?_|refine J_skip ?_|refine J_ret ?_|refine J_region ?_ |refine J_c ?_|refine Jc_true ?_|refine Jc_false ?_|(refine Kont.go (by assumption) ?_)|(simp (config:={ maxSteps:=3000000 }) (disch:=omega) only [go_sem,↓reduceIte,Nat.reduceAdd,c0,c1,c2,c3,g1,List.length_map])))
  exact ⟨_,rfl,FrzL.fs [_,_]⟩
set_option maxRecDepth 100000 in
theorem rout0_w (v:Int) (b:Bool) (hv:-9223372036854775808≤v∧v≤9223372036854775807) (hl:l.length≤140737488355328) (hn:v∉l) (hc:Good Tryz.prog 19 [ints s,tabI l xs] (I 0)):Good Tryz.prog 26 [ints s,tabI l xs,I v,Bo b] (.tup [tab0,I 11]):=by
 have hin:=rin_w v l hv hl
 rw [decide_eq_false hn] at hin
 refine good_of Tryz.func26 rfl (by kernel_rfl) fun X hO hrd=>?_;rw [Tryz.ntmps26,Tryz.results26];simp only [ast0,List.map_cons,List.map_nil,List.length_cons,List.length_nil,Nat.reduceAdd,Nat.reduceSub,List.replicate_succ,List.replicate_zero,List.cons_append,List.nil_append]
 (repeat (with_reducible first|refine W_seq fun K hK=>?_|refine J_region ?_ |(refine Kont.go (by assumption) ?_)|(simp (config:={ maxSteps:=3000000 }) (disch:=omega) only [go_sem,↓reduceIte,Nat.reduceAdd])))
 (first|refine call_f (hc) rfl ?_|refine callQ_f (hc) rfl ?_|refine callHK_f (hc) rfl ?_|refine callH_f (hc) rfl ?_)
 (repeat (with_reducible first|refine W_seq fun K hK=>?_|refine J_skip ?_|refine J_region ?_ |refine J_c ?_|refine Jc_false ?_|(refine Kont.go (by assumption) ?_)|(simp (config:={ maxSteps:=3000000 }) (disch:=omega) only [go_sem,↓reduceIte])))
 (first|refine call_f (hin) rfl ?_|refine callQ_f (hin) rfl ?_|refine callHK_f (hin) rfl ?_|refine callH_f (hin) rfl ?_)
 (repeat (with_reducible first|refine W_seq fun K hK=>?_|refine J_ret ?_|refine J_region ?_ |refine J_c ?_|refine Jc_true ?_|(refine Kont.go (by assumption) ?_)|(simp (config:={ maxSteps:=3000000 }) (disch:=omega) only [go_sem,↓reduceIte,Nat.reduceAdd])))
 exact ⟨_,rfl,FrzL.fs [_,_]⟩
end
section
variable {s la lb : List Int} {xs ys : List FV} {e f : Int}
set_option maxRecDepth 100000 in
theorem productE_w (he:e≠0) (hc:Good Tryz.prog 18 [ints s,tabI la xs] (I e)):Good Tryz.prog 13 [ints s,tabI la xs,tabI lb ys] (.tup [tab0,I e]):=by
 refine good_of Tryz.func13 rfl (by kernel_rfl) fun X hO hrd=>?_;rw [Tryz.ntmps13,Tryz.results13];simp only [ast0,List.map_cons,List.map_nil,List.length_cons,List.length_nil,Nat.reduceAdd,Nat.reduceSub,List.replicate_succ,List.replicate_zero,List.cons_append,List.nil_append]
 (repeat (with_reducible first|refine W_seq fun K hK=>?_|refine J_region ?_|(refine Kont.go (by assumption) ?_)|(simp (config:={ maxSteps:=3000000 }) (disch:=omega) only [go_sem,↓reduceIte,Nat.reduceAdd])))
 (first|refine call_f (hc) rfl ?_|refine callQ_f (hc) rfl ?_|refine callHK_f (hc) rfl ?_|refine callH_f (hc) rfl ?_)
 (repeat (with_reducible first|refine W_seq fun K hK=>?_|refine J_ret ?_|refine J_region ?_|refine J_c ?_|refine Jc_true ?_|(refine Kont.go (by assumption) ?_)|(simp (config:={ maxSteps:=3000000 }) (disch:=omega) only [go_sem,↓reduceIte,Nat.reduceAdd,he])))
 exact ⟨_,rfl,FrzL.fs [_,_]⟩
set_option maxRecDepth 100000 in
theorem productF_w (hf:f≠0) (hc:Good Tryz.prog 18 [ints s,tabI la xs] (I 0)) (hd:Good Tryz.prog 18 [ints s,tabI lb ys] (I f)):Good Tryz.prog 13 [ints s,tabI la xs,tabI lb ys] (.tup [tab0,I f]):=by
 refine good_of Tryz.func13 rfl (by kernel_rfl) fun X hO hrd=>?_;rw [Tryz.ntmps13,Tryz.results13];simp only [ast0,List.map_cons,List.map_nil,List.length_cons,List.length_nil,Nat.reduceAdd,Nat.reduceSub,List.replicate_succ,List.replicate_zero,List.cons_append,List.nil_append]
 (repeat (with_reducible first|refine W_seq fun K hK=>?_|refine J_region ?_|(refine Kont.go (by assumption) ?_)|(simp (config:={ maxSteps:=3000000 }) (disch:=omega) only [go_sem,↓reduceIte,Nat.reduceAdd])))
 (first|refine call_f (hc) rfl ?_|refine callQ_f (hc) rfl ?_|refine callHK_f (hc) rfl ?_|refine callH_f (hc) rfl ?_)
 (repeat (with_reducible first|refine W_seq fun K hK=>?_|refine J_skip ?_|refine J_region ?_|refine J_c ?_|refine Jc_false ?_|(refine Kont.go (by assumption) ?_)|(simp (config:={ maxSteps:=3000000 }) (disch:=omega) only [go_sem,↓reduceIte,Nat.reduceAdd])))
 (first|refine call_f (hd) rfl ?_|refine callQ_f (hd) rfl ?_|refine callHK_f (hd) rfl ?_|refine callH_f (hd) rfl ?_)
 (repeat (with_reducible first|refine W_seq fun K hK=>?_|refine J_ret ?_|refine J_region ?_|refine J_c ?_|refine Jc_true ?_|(refine Kont.go (by assumption) ?_)|(simp (config:={ maxSteps:=3000000 }) (disch:=omega) only [go_sem,↓reduceIte,Nat.reduceAdd,hf])))
 exact ⟨_,rfl,FrzL.fs [_,_]⟩
set_option maxRecDepth 100000 in
theorem rproductE_w (he:e≠0) (hc:Good Tryz.prog 19 [ints s,tabI la xs] (I e)) (hd:Good Tryz.prog 19 [ints s,tabI lb ys] (I f)):Good Tryz.prog 25 [ints s,tabI la xs,tabI lb ys] (.tup [tab0,I e]):=by
 refine good_of Tryz.func25 rfl (by kernel_rfl) fun X hO hrd=>?_;rw [Tryz.ntmps25,Tryz.results25];simp only [ast0,List.map_cons,List.map_nil,List.length_cons,List.length_nil,Nat.reduceAdd,Nat.reduceSub,List.replicate_succ,List.replicate_zero,List.cons_append,List.nil_append]
 (repeat (with_reducible first|refine W_seq fun K hK=>?_|refine J_region ?_ |(refine Kont.go (by assumption) ?_)|(simp (config:={ maxSteps:=3000000 }) (disch:=omega) only [go_sem,↓reduceIte,Nat.reduceAdd])))
 (first|refine call_f (hc) rfl ?_|refine callQ_f (hc) rfl ?_|refine callHK_f (hc) rfl ?_|refine callH_f (hc) rfl ?_)
 (repeat (with_reducible first|refine W_seq fun K hK=>?_|refine J_region ?_ |(refine Kont.go (by assumption) ?_)|(simp (config:={ maxSteps:=3000000 }) (disch:=omega) only [go_sem,↓reduceIte,Nat.reduceAdd])))
 (first|refine call_f (hd) rfl ?_|refine callQ_f (hd) rfl ?_|refine callHK_f (hd) rfl ?_|refine callH_f (hd) rfl ?_)
 (repeat (with_reducible first|refine W_seq fun K hK=>?_|refine J_ret ?_|refine J_region ?_ |refine J_c ?_|refine Jc_true ?_|(refine Kont.go (by assumption) ?_)|(simp (config:={ maxSteps:=3000000 }) (disch:=omega) only [go_sem,↓reduceIte,Nat.reduceAdd,he])))
 exact ⟨_,rfl,FrzL.fs [_,_]⟩
set_option maxRecDepth 100000 in
theorem rproductF_w (hf:f≠0) (hc:Good Tryz.prog 19 [ints s,tabI la xs] (I 0)) (hd:Good Tryz.prog 19 [ints s,tabI lb ys] (I f)):Good Tryz.prog 25 [ints s,tabI la xs,tabI lb ys] (.tup [tab0,I f]):=by
 refine good_of Tryz.func25 rfl (by kernel_rfl) fun X hO hrd=>?_;rw [Tryz.ntmps25,Tryz.results25];simp only [ast0,List.map_cons,List.map_nil,List.length_cons,List.length_nil,Nat.reduceAdd,Nat.reduceSub,List.replicate_succ,List.replicate_zero,List.cons_append,List.nil_append]
 (repeat (with_reducible first|refine W_seq fun K hK=>?_|refine J_region ?_ |(refine Kont.go (by assumption) ?_)|(simp (config:={ maxSteps:=3000000 }) (disch:=omega) only [go_sem,↓reduceIte,Nat.reduceAdd])))
 (first|refine call_f (hc) rfl ?_|refine callQ_f (hc) rfl ?_|refine callHK_f (hc) rfl ?_|refine callH_f (hc) rfl ?_)
 (repeat (with_reducible first|refine W_seq fun K hK=>?_|refine J_region ?_ |(refine Kont.go (by assumption) ?_)|(simp (config:={ maxSteps:=3000000 }) (disch:=omega) only [go_sem,↓reduceIte,Nat.reduceAdd])))
 (first|refine call_f (hd) rfl ?_|refine callQ_f (hd) rfl ?_|refine callHK_f (hd) rfl ?_|refine callH_f (hd) rfl ?_)
 (repeat (with_reducible first|refine W_seq fun K hK=>?_|refine J_skip ?_|refine J_ret ?_|refine J_region ?_ |refine J_c ?_|refine Jc_true ?_|refine Jc_false ?_|(refine Kont.go (by assumption) ?_)|(simp (config:={ maxSteps:=3000000 }) (disch:=omega) only [go_sem,↓reduceIte,Nat.reduceAdd,hf])))
 exact ⟨_,rfl,FrzL.fs [_,_]⟩
end
end Go.Proofs.YtmcgeppgfjlclaaGreatDoor
