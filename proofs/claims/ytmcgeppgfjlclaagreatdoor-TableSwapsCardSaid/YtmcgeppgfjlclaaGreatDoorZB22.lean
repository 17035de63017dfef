/- Tables that are made of raw numbers: walked. Conditions: what slices may hold. -/
import Derived.Test.YtmcgeppgfjlclaaGreatDoorZTbQ
import Derived.Test.YtmcgeppgfjlclaaGreatDoorZB21
import Derived.Test.YtmcgeppgfjlclaaGreatDoorZB15
import Derived.Test.YtmcgeppgfjlclaaGreatDoorZB09
import Derived.Test.YtmcgeppgfjlclaaGreatDoorZB10
set_option linter.unusedVariables false
set_option linter.unusedSimpArgs false
namespace Go.Proofs.YtmcgeppgfjlclaaGreatDoor
open Go Go.RowKit
theorem flat_Ns {l:List Nat}:∀x∈Ns l,FlatF x:=fun x hx=>by
 obtain ⟨k,_,rfl⟩:=List.mem_map.1 hx
 exact .v _
set_option maxRecDepth 100000 in
set_option maxHeartbeats 4000000 in
theorem rallO_w (xs:List FV) (hn:xs.length≤1000):GoodO Tryz.prog 8 [.fz 1 xs] (rvG 3 1 (Ns (List.range xs.length))):=by
 obtain ⟨n,hne⟩:∃n,n=xs.length:=⟨_,rfl⟩
 obtain ⟨R,hR⟩:∃R,R=rvG 3 1 (Ns (List.range xs.length)):=⟨_,rfl⟩
 have hend:∀{H:AH} {r:Nat},H[r]?=some (ob 3 1 (Ns (List.range xs.length)))→ownR H (sl r 1 (Ns (List.range xs.length))) R:=fun h=>by rw [hR];exact rvG_end h flat_Ns
 rw [←hR]
 rw [←hne] at hn hend
 refine goodO_of Tryz.func8 rfl (by kernel_rfl) fun X hO hrd=>?_;rw [Tryz.ntmps8,Tryz.results8];simp only [ast0,List.map_cons,List.map_nil,List.length_cons,List.length_nil,Nat.reduceAdd,Nat.reduceSub,List.replicate_succ,List.replicate_zero,List.cons_append,List.nil_append]
 (repeat (first|(with_reducible first|refine W_seq fun K hK=>?_|refine J_block ?_|refine J_skip ?_|refine J_exit ?_|refine J_ret ?_|refine J_region ?_ |refine J_drawn mixed (by kernel_rfl) ?_|refine aApp_sl ?_|refine aApp_old ?_|refine J_c ?_|refine Jc_true ?_|refine Jc_false ?_|exact Frz.f _|(refine Kont.go (by assumption) ?_)|(simp (config:={ maxSteps:=3000000 }) (disch:=omega) only [go_sem,Nat.reduceEqDiff,↓reduceIte,Nat.reduceAdd,Nat.reduceLT,Nat.reduceLeDiff,Int.reduceLT,Int.reduceLE,Int.reduceEq,Int.reduceNe,Int.reduceAdd,Int.reduceSub,Int.reduceMul,Int.reduceNeg,Int.reduceToNat,←hne]))|refine And.intro (by omega) ?_|refine And.intro (And.intro (by omega) (by omega)) ?_))
 refine J_reserve ?_
 refine W_loop [3,4,5,6,7,8,9,10,11,12,13,14] (fun x:Nat=>[(3,sl 0 1 (Ns (List.range x))),(4,.f (I x))]) (fun x:Nat=>[ob 3 1 (Ns (List.range x))]) (fun x:Nat=>x≤n) (fun x:Nat=>n-x) (0) (Nat.zero_le _) (by refine weak_of ?_ ?_<;>simp (disch:=omega) only [go_sem,Nat.reduceAdd,Nat.reduceLT,Nat.reduceEqDiff]<;>first|rfl|exact ⟨rfl,rfl⟩|exact Or.inl rfl|exact ⟨Or.inl rfl,Or.inl rfl⟩|trivial|assumption|omega|(symm;assumption)|((repeat' apply And.intro)<;>first|rfl|omega|trivial|exact .inl rfl|exact .inr ⟨rfl,rfl⟩|exact .inr rfl|(right;symm;assumption)|(symm;assumption)|assumption)) ?_
 rintro x hx
 simp only [go_sem,Nat.reduceAdd,Nat.reduceLT,Nat.reduceEqDiff]
 (repeat (first|(with_reducible first|refine W_seq fun K hK=>?_|refine J_block ?_|refine J_skip ?_|refine J_exit ?_|refine J_ret ?_|refine J_region ?_ |refine J_drawn mixed (by kernel_rfl) ?_|refine aApp_sl ?_|refine aApp_old ?_|refine J_c ?_|refine Jc_true ?_|refine Jc_false ?_|exact Frz.f _|(refine Kont.go (by assumption) ?_)|(simp (config:={ maxSteps:=3000000 }) (disch:=omega) only [go_sem,Nat.reduceEqDiff,↓reduceIte,Nat.reduceAdd,Nat.reduceLT,Nat.reduceLeDiff,Int.reduceLT,Int.reduceLE,Int.reduceEq,Int.reduceNe,Int.reduceAdd,Int.reduceSub,Int.reduceMul,Int.reduceNeg,Int.reduceToNat,←hne]))|refine And.intro (by omega) ?_|refine And.intro (And.intro (by omega) (by omega)) ?_))
 refine Jc_if (fun hxn=>?_) (fun hxn=>?_)<;>try simp only [decide_eq_true_eq,decide_eq_false_iff_not,Bool.not_eq_true',Bool.not_eq_false',Bool.not_true,Bool.not_false,Int.ofNat_lt,Int.ofNat_le,Int.natCast_inj,Classical.not_not] at hxn
 ·have hs:Ns (List.range x)++[I (x:Int)]=Ns (List.range (x+1)):=by rw [Ns_snoc,List.range_succ]
  have hl:(Ns (List.range x)).length=x:=by rw [Ns_len,List.length_range]
  have hb:((Ns (List.range x)).length+1)*8≤140737488355328:=by omega
  (repeat (first|(with_reducible first|refine W_seq fun K hK=>?_|refine J_block ?_|refine J_skip ?_|refine J_exit ?_|refine J_ret ?_|refine J_region ?_ |refine J_drawn mixed (by kernel_rfl) ?_|refine aApp_sl ?_|refine aApp_old ?_|refine J_c ?_|refine Jc_true ?_|refine Jc_false ?_|exact Frz.f _|(refine Kont.go (by assumption) ?_)|(simp (config:={ maxSteps:=3000000 }) (disch:=omega) only [go_sem,Nat.reduceEqDiff,↓reduceIte,Nat.reduceAdd,Nat.reduceLT,Nat.reduceLeDiff,Int.reduceLT,Int.reduceLE,Int.reduceEq,Int.reduceNe,Int.reduceAdd,Int.reduceSub,Int.reduceMul,Int.reduceNeg,Int.reduceToNat,hs,hb]))|refine And.intro (by omega) ?_|refine And.intro (And.intro (by omega) (by omega)) ?_))
  refine ⟨x+1,by omega,by omega,weak_of ?_ ?_⟩<;>(try simp (disch:=omega) only [go_sem,Nat.reduceAdd,Nat.reduceLT,Nat.reduceEqDiff])<;>(try first|done|omega|rfl|exact ⟨rfl,rfl⟩|trivial)
 ·have he:x=n:=by omega
  subst he
  (repeat (first|(with_reducible first|refine W_seq fun K hK=>?_|refine J_block ?_|refine J_skip ?_|refine J_exit ?_|refine J_ret ?_|refine J_region ?_ |refine J_drawn mixed (by kernel_rfl) ?_|refine aApp_sl ?_|refine aApp_old ?_|refine J_c ?_|refine Jc_true ?_|refine Jc_false ?_|exact Frz.f _|(refine Kont.go (by assumption) ?_)|(simp (config:={ maxSteps:=3000000 }) (disch:=omega) only [go_sem,Nat.reduceEqDiff,↓reduceIte,Nat.reduceAdd,Nat.reduceLT,Nat.reduceLeDiff,Int.reduceLT,Int.reduceLE,Int.reduceEq,Int.reduceNe,Int.reduceAdd,Int.reduceSub,Int.reduceMul,Int.reduceNeg,Int.reduceToNat]))|refine And.intro (by omega) ?_|refine And.intro (And.intro (by omega) (by omega)) ?_))
  exact hend rfl
theorem rall_fresh (xs:List FV) (hn:xs.length≤1000):Fresh Tryz.prog 8 [.fz 1 xs] (.fz 1 (Ns (List.range xs.length))):=freshO (rallO_w xs hn)
theorem rall_w (xs:List FV) (hn:xs.length≤1000):Good Tryz.prog 8 [.fz 1 xs] (.fz 1 (Ns (List.range xs.length))):=(rall_fresh xs hn).good (by kernel_rfl)
def lessM (l m:List Nat):List Nat:=l.filter fun v=>decide (v∉m)
theorem lessM_one {l:List Nat} {v:Nat}:lessM l [v]=lessT l v:=by
 unfold lessM lessT
 refine List.filter_congr fun x _=>decide_eq_decide.2 ?_
 rw [List.mem_singleton]
theorem lessM_next {l m:List Nat} {x:Nat} (h:x<l.length):lessM (l.take (x+1)) m=lessM (l.take x) m++if l.getD x 0∈m then [] else [l.getD x 0]:=by
 unfold lessM
 rw [List.take_add_one,List.getElem?_eq_getElem h,List.filter_append,lget_lt l 0 h]
 congr 1
 by_cases hm:l[x]∈m
 ·rw [if_pos hm];simp [hm]
 ·rw [if_neg hm];simp [hm]
theorem lessM_len {l m:List Nat}:(lessM l m).length≤l.length:=List.length_filter_le _ _
set_option maxRecDepth 100000 in
set_option maxHeartbeats 4000000 in
theorem rlessO_w (l m:List Nat) (hl:l.length≤1000) (hm:m.length≤1000) (hv:∀v∈l,v≤1000):GoodO Tryz.prog 9 [.fz 1 (Ns l),.fz 1 (Ns m)] (rvG 3 1 (Ns (lessM l m))):=by
 obtain ⟨R,hR⟩:∃R,R=rvG 3 1 (Ns (lessM l m)):=⟨_,rfl⟩
 have hend:∀{H:AH} {r:Nat},H[r]?=some (ob 3 1 (Ns (lessM l m)))→ownR H (sl r 1 (Ns (lessM l m))) R:=fun h=>by rw [hR];exact rvG_end h flat_Ns
 rw [←hR]
 refine goodO_of Tryz.func9 rfl (by kernel_rfl) fun X hO hrd=>?_;rw [Tryz.ntmps9,Tryz.results9];simp only [ast0,List.map_cons,List.map_nil,List.length_cons,List.length_nil,Nat.reduceAdd,Nat.reduceSub,List.replicate_succ,List.replicate_zero,List.cons_append,List.nil_append]
 (repeat (first|(with_reducible first|refine W_seq fun K hK=>?_|refine J_block ?_|refine J_skip ?_|refine J_exit ?_|refine J_ret ?_|refine J_region ?_ |refine J_drawn mixed (by kernel_rfl) ?_|refine aApp_sl ?_|refine aApp_old ?_|refine J_c ?_|refine Jc_true ?_|refine Jc_false ?_|exact Frz.f _|(refine Kont.go (by assumption) ?_)|(simp (config:={ maxSteps:=3000000 }) (disch:=omega) only [go_sem,Nat.reduceEqDiff,↓reduceIte,Nat.reduceAdd,Nat.reduceLT,Nat.reduceLeDiff,Int.reduceLT,Int.reduceLE,Int.reduceEq,Int.reduceNe,Int.reduceAdd,Int.reduceSub,Int.reduceMul,Int.reduceNeg,Int.reduceToNat,Ns_len]))|refine And.intro (by omega) ?_|refine And.intro (And.intro (by omega) (by omega)) ?_))
 refine J_reserve ?_
 refine W_loop [5,6,7,8,9,10,11,12,13,14,15,16,17,18,19,20,21,22,23,24,25,26,27,28] (fun x:Nat=>[(5,sl 0 1 (Ns (lessM (l.take x) m))),(6,.f (I x))]) (fun x:Nat=>[ob 3 1 (Ns (lessM (l.take x) m))]) (fun x:Nat=>x≤l.length) (fun x:Nat=>l.length-x) (0) (Nat.zero_le _) (by refine weak_of ?_ ?_<;>simp (disch:=omega) only [go_sem,Nat.reduceAdd,Nat.reduceLT,Nat.reduceEqDiff]<;>first|rfl|exact ⟨rfl,rfl⟩|exact Or.inl rfl|exact ⟨Or.inl rfl,Or.inl rfl⟩|trivial|assumption|omega|(symm;assumption)|((repeat' apply And.intro)<;>first|rfl|omega|trivial|exact .inl rfl|exact .inr ⟨rfl,rfl⟩|exact .inr rfl|(right;symm;assumption)|(symm;assumption)|assumption)) ?_
 rintro x hx
 simp only [go_sem,Nat.reduceAdd,Nat.reduceLT,Nat.reduceEqDiff]
 (repeat (first|(with_reducible first|refine W_seq fun K hK=>?_|refine J_block ?_|refine J_skip ?_|refine J_exit ?_|refine J_ret ?_|refine J_region ?_ |refine J_drawn mixed (by kernel_rfl) ?_|refine aApp_sl ?_|refine aApp_old ?_|refine J_c ?_|refine Jc_true ?_|refine Jc_false ?_|exact Frz.f _|(refine Kont.go (by assumption) ?_)|(simp (config:={ maxSteps:=3000000 }) (disch:=omega) only [go_sem,Nat.reduceEqDiff,↓reduceIte,Nat.reduceAdd,Nat.reduceLT,Nat.reduceLeDiff,Int.reduceLT,Int.reduceLE,Int.reduceEq,Int.reduceNe,Int.reduceAdd,Int.reduceSub,Int.reduceMul,Int.reduceNeg,Int.reduceToNat,Ns_len]))|refine And.intro (by omega) ?_|refine And.intro (And.intro (by omega) (by omega)) ?_))
 refine Jc_if (fun hxl=>?_) (fun hxl=>?_)<;>try simp only [decide_eq_true_eq,decide_eq_false_iff_not,Bool.not_eq_true',Bool.not_eq_false',Bool.not_true,Bool.not_false,Int.ofNat_lt,Int.ofNat_le,Int.natCast_inj,Classical.not_not] at hxl
 ·have g1:=Ns_get hxl
  have hxv:l.getD x 0≤1000:=by rw [lget_lt l 0 hxl];exact hv _ (List.getElem_mem _)
  have hin:=rinN_w (l.getD x 0) m (by omega) (by omega)
  have hnx:=lessM_next (m:=m) hxl
  have hll:=lessM_len (l:=l.take x) (m:=m)
  rw [List.length_take] at hll
  have hb:((Ns (lessM (l.take x) m)).length+1)*8≤140737488355328:=by rw [Ns_len];omega
  (repeat (first|(with_reducible first|refine W_seq fun K hK=>?_|refine J_block ?_|refine J_skip ?_|refine J_exit ?_|refine J_ret ?_|refine J_region ?_ |refine J_drawn mixed (by kernel_rfl) ?_|refine aApp_sl ?_|refine aApp_old ?_|refine J_c ?_|refine Jc_true ?_|refine Jc_false ?_|exact Frz.f _|(refine Kont.go (by assumption) ?_)|(simp (config:={ maxSteps:=3000000 }) (disch:=omega) only [go_sem,Nat.reduceEqDiff,↓reduceIte,Nat.reduceAdd,Nat.reduceLT,Nat.reduceLeDiff,Int.reduceLT,Int.reduceLE,Int.reduceEq,Int.reduceNe,Int.reduceAdd,Int.reduceSub,Int.reduceMul,Int.reduceNeg,Int.reduceToNat,g1,Ns_len]))|refine And.intro (by omega) ?_|refine And.intro (And.intro (by omega) (by omega)) ?_))
  (first|refine call_f (hin) rfl ?_|refine callQ_f (hin) rfl ?_|refine callHK_f (hin) rfl ?_|refine callH_f (hin) rfl ?_)
  by_cases hi:l.getD x 0∈m
  ·rw [if_pos hi,List.append_nil] at hnx
   rw [decide_eq_true hi,←hnx]
   (repeat (first|(with_reducible first|refine W_seq fun K hK=>?_|refine J_block ?_|refine J_skip ?_|refine J_exit ?_|refine J_ret ?_|refine J_region ?_ |refine J_drawn mixed (by kernel_rfl) ?_|refine aApp_sl ?_|refine aApp_old ?_|refine J_c ?_|refine Jc_true ?_|refine Jc_false ?_|exact Frz.f _|(refine Kont.go (by assumption) ?_)|(simp (config:={ maxSteps:=3000000 }) (disch:=omega) only [go_sem,Nat.reduceEqDiff,↓reduceIte,Nat.reduceAdd,Nat.reduceLT,Nat.reduceLeDiff,Int.reduceLT,Int.reduceLE,Int.reduceEq,Int.reduceNe,Int.reduceAdd,Int.reduceSub,Int.reduceMul,Int.reduceNeg,Int.reduceToNat]))|refine And.intro (by omega) ?_|refine And.intro (And.intro (by omega) (by omega)) ?_))
   refine ⟨x+1,by omega,by omega,weak_of ?_ ?_⟩<;>(try simp (disch:=omega) only [go_sem,Nat.reduceAdd,Nat.reduceLT,Nat.reduceEqDiff])<;>(try first|done|omega|rfl|exact ⟨rfl,rfl⟩|trivial)
  ·rw [if_neg hi] at hnx
   have hs:Ns (lessM (l.take x) m)++[I (l.getD x 0:Nat)]=Ns (lessM (l.take (x+1)) m):=by rw [Ns_snoc,hnx]
   rw [decide_eq_false hi]
   (repeat (first|(with_reducible first|refine W_seq fun K hK=>?_|refine J_block ?_|refine J_skip ?_|refine J_exit ?_|refine J_ret ?_|refine J_region ?_ |refine J_drawn mixed (by kernel_rfl) ?_|refine aApp_sl ?_|refine aApp_old ?_|refine J_c ?_|refine Jc_true ?_|refine Jc_false ?_|exact Frz.f _|(refine Kont.go (by assumption) ?_)|(simp (config:={ maxSteps:=3000000 }) (disch:=omega) only [go_sem,Nat.reduceEqDiff,↓reduceIte,Nat.reduceAdd,Nat.reduceLT,Nat.reduceLeDiff,Int.reduceLT,Int.reduceLE,Int.reduceEq,Int.reduceNe,Int.reduceAdd,Int.reduceSub,Int.reduceMul,Int.reduceNeg,Int.reduceToNat,g1,hs,hb]))|refine And.intro (by omega) ?_|refine And.intro (And.intro (by omega) (by omega)) ?_))
   refine ⟨x+1,by omega,by omega,weak_of ?_ ?_⟩<;>(try simp (disch:=omega) only [go_sem,Nat.reduceAdd,Nat.reduceLT,Nat.reduceEqDiff])<;>(try first|done|omega|rfl|exact ⟨rfl,rfl⟩|trivial)
 ·have he:x=l.length:=by omega
  subst he
  rw [List.take_length]
  (repeat (first|(with_reducible first|refine W_seq fun K hK=>?_|refine J_block ?_|refine J_skip ?_|refine J_exit ?_|refine J_ret ?_|refine J_region ?_ |refine J_drawn mixed (by kernel_rfl) ?_|refine aApp_sl ?_|refine aApp_old ?_|refine J_c ?_|refine Jc_true ?_|refine Jc_false ?_|exact Frz.f _|(refine Kont.go (by assumption) ?_)|(simp (config:={ maxSteps:=3000000 }) (disch:=omega) only [go_sem,Nat.reduceEqDiff,↓reduceIte,Nat.reduceAdd,Nat.reduceLT,Nat.reduceLeDiff,Int.reduceLT,Int.reduceLE,Int.reduceEq,Int.reduceNe,Int.reduceAdd,Int.reduceSub,Int.reduceMul,Int.reduceNeg,Int.reduceToNat]))|refine And.intro (by omega) ?_|refine And.intro (And.intro (by omega) (by omega)) ?_))
  exact hend rfl
theorem rless_fresh (l m:List Nat) (hl:l.length≤1000) (hm:m.length≤1000) (hv:∀v∈l,v≤1000):Fresh Tryz.prog 9 [.fz 1 (Ns l),.fz 1 (Ns m)] (.fz 1 (Ns (lessM l m))):=freshO (rlessO_w l m hl hm hv)
theorem rless_w (l m:List Nat) (hl:l.length≤1000) (hm:m.length≤1000) (hv:∀v∈l,v≤1000):Good Tryz.prog 9 [.fz 1 (Ns l),.fz 1 (Ns m)] (.fz 1 (Ns (lessM l m))):=(rless_fresh l m hl hm hv).good (by kernel_rfl)
def szX (raw:List Int) (i:Nat):Nat:=if i<raw.length then 1+pickN (raw.getD i 0) 3 else 2
def szR (raw:List Int) (n:Nat):List Nat:=(List.range n).map (szX raw)
theorem szX_le {raw:List Int} {i:Nat}:1≤szX raw i∧szX raw i≤3:=by
 unfold szX
 have:=pickN_lt (raw.getD i 0) (n:=3) (by omega)
 split<;>omega
theorem szR_next {raw:List Int} {n:Nat}:Ns (szR raw n)++[I (szX raw n:Nat)]=Ns (szR raw (n+1)):=by rw [Ns_snoc];simp [szR,List.range_succ]
theorem szR_len {raw:List Int} {n:Nat}:(szR raw n).length=n:=by simp [szR]
set_option maxRecDepth 100000 in
set_option maxHeartbeats 4000000 in
theorem sizesOf_w (raw:List Int) (hw:∀x∈raw,-9223372036854775808≤x∧x≤9223372036854775807) (hl:raw.length≤140737488355328):Good Tryz.prog 5 [ints raw] (.fz 1 (Ns (szR raw (3+pickN raw.length 3)))):=by
 have hp3:=pickN_lt (raw.length:Int) (n:=3) (by omega)
 obtain ⟨n,hn⟩:∃n,n=3+pickN raw.length 3:=⟨_,rfl⟩
 have hnI:(3:Int)+((pickN (raw.length:Int) 3:Nat):Int)=(n:Int):=by omega
 have hpk:Good Tryz.prog 6 [I (raw.length:Int),I 3] (I ((pickN (raw.length:Int) 3:Nat):Int)):=pickI _ _ (by omega) (by omega) (by omega) (by omega)
 rw [←hn]
 refine good_of Tryz.func5 rfl (by kernel_rfl) fun X hO hrd=>?_;rw [Tryz.ntmps5,Tryz.results5];simp only [ast0,List.map_cons,List.map_nil,List.length_cons,List.length_nil,Nat.reduceAdd,Nat.reduceSub,List.replicate_succ,List.replicate_zero,List.cons_append,List.nil_append]
 (repeat (first|(with_reducible first|refine W_seq fun K hK=>?_|refine J_block ?_|refine J_skip ?_|refine J_exit ?_|refine J_ret ?_|refine J_region ?_ |refine J_drawn mixed (by kernel_rfl) ?_|refine aApp_sl ?_|refine aApp_old ?_|refine J_c ?_|refine Jc_true ?_|refine Jc_false ?_|exact Frz.f _|(refine Kont.go (by assumption) ?_)|(simp (config:={ maxSteps:=3000000 }) (disch:=omega) only [go_sem,Nat.reduceEqDiff,↓reduceIte,Nat.reduceAdd,Nat.reduceLT,Nat.reduceLeDiff,Int.reduceLT,Int.reduceLE,Int.reduceEq,Int.reduceNe,Int.reduceAdd,Int.reduceSub,Int.reduceMul,Int.reduceNeg,Int.reduceToNat]))|refine call_f (pickI _ _ (by omega) (by omega) (by omega) (by omega)) rfl ?_|refine callQ_f (pickI _ _ (by omega) (by omega) (by omega) (by omega)) rfl ?_|refine And.intro (by omega) ?_|refine And.intro (And.intro (by omega) (by omega)) ?_))
 refine J_reserve ?_
 refine W_loop [3,4,5,6,7,8,9,10,11,12,13,14,15,16,17,18,19,20,21,22,23,24,25,26,27] (fun x:Nat=>[(3,sl 0 1 (Ns (szR raw x))),(4,.f (I x))]) (fun x:Nat=>[ob 3 1 (Ns (szR raw x))]) (fun x:Nat=>x≤n) (fun x:Nat=>n-x) (0) (Nat.zero_le _) (by refine weak_of ?_ ?_<;>simp (disch:=omega) only [go_sem,Nat.reduceAdd,Nat.reduceLT,Nat.reduceEqDiff]<;>first|rfl|exact ⟨rfl,rfl⟩|exact Or.inl rfl|exact ⟨Or.inl rfl,Or.inl rfl⟩|trivial|assumption|omega|(symm;assumption)|((repeat' apply And.intro)<;>first|rfl|omega|trivial|exact .inl rfl|exact .inr ⟨rfl,rfl⟩|exact .inr rfl|(right;symm;assumption)|(symm;assumption)|assumption)) ?_
 rintro x hx
 simp only [go_sem,Nat.reduceAdd,Nat.reduceLT,Nat.reduceEqDiff]
 (repeat (first|(with_reducible first|refine W_seq fun K hK=>?_|refine J_block ?_|refine J_skip ?_|refine J_exit ?_|refine J_ret ?_|refine J_region ?_ |refine J_drawn mixed (by kernel_rfl) ?_|refine aApp_sl ?_|refine aApp_old ?_|refine J_c ?_|refine Jc_true ?_|refine Jc_false ?_|exact Frz.f _|(refine Kont.go (by assumption) ?_)|(simp (config:={ maxSteps:=3000000 }) (disch:=omega) only [go_sem,Nat.reduceEqDiff,↓reduceIte,Nat.reduceAdd,Nat.reduceLT,Nat.reduceLeDiff,Int.reduceLT,Int.reduceLE,Int.reduceEq,Int.reduceNe,Int.reduceAdd,Int.reduceSub,Int.reduceMul,Int.reduceNeg,Int.reduceToNat,List.length_map,hnI]))|refine call_f (pickI _ _ (by omega) (by omega) (by omega) (by omega)) rfl ?_|refine callQ_f (pickI _ _ (by omega) (by omega) (by omega) (by omega)) rfl ?_|refine And.intro (by omega) ?_|refine And.intro (And.intro (by omega) (by omega)) ?_))
 refine Jc_if (fun hxn=>?_) (fun hxn=>?_)<;>try simp only [decide_eq_true_eq,decide_eq_false_iff_not,Bool.not_eq_true',Bool.not_eq_false',Bool.not_true,Bool.not_false,Int.ofNat_lt,Int.ofNat_le,Int.natCast_inj,Classical.not_not] at hxn
 ·have hs:=szR_next (raw:=raw) (n:=x)
  have hsl:=szR_len (raw:=raw) (n:=x)
  have hb:((Ns (szR raw x)).length+1)*8≤140737488355328:=by rw [Ns_len];omega
  by_cases hxr:x<raw.length
  ·have g1:=map_get I raw hxr
   have g2:=i64_get hw hxr
   have hxx:szX raw x=1+pickN raw[x] 3:=by unfold szX;rw [if_pos hxr,lget_lt raw 0 hxr]
   have hp4:=pickN_lt raw[x] (n:=3) (by omega)
   have e1:(1:Int)+((pickN raw[x] 3:Nat):Int)=((szX raw x:Nat):Int):=by omega
   have hpx:Good Tryz.prog 6 [I raw[x],I 3] (I ((pickN raw[x] 3:Nat):Int)):=pickI _ _ (by omega) (by omega) (by omega) (by omega)
   (repeat (first|(with_reducible first|refine W_seq fun K hK=>?_|refine J_block ?_|refine J_skip ?_|refine J_exit ?_|refine J_ret ?_|refine J_region ?_ |refine J_drawn mixed (by kernel_rfl) ?_|refine aApp_sl ?_|refine aApp_old ?_|refine J_c ?_|refine Jc_true ?_|refine Jc_false ?_|exact Frz.f _|(refine Kont.go (by assumption) ?_)|(simp (config:={ maxSteps:=3000000 }) (disch:=omega) only [go_sem,Nat.reduceEqDiff,↓reduceIte,Nat.reduceAdd,Nat.reduceLT,Nat.reduceLeDiff,Int.reduceLT,Int.reduceLE,Int.reduceEq,Int.reduceNe,Int.reduceAdd,Int.reduceSub,Int.reduceMul,Int.reduceNeg,Int.reduceToNat,List.length_map,hxr,g1,e1,hs,hb]))|refine call_f (pickI _ _ (by omega) (by omega) (by omega) (by omega)) rfl ?_|refine callQ_f (pickI _ _ (by omega) (by omega) (by omega) (by omega)) rfl ?_|refine And.intro (by omega) ?_|refine And.intro (And.intro (by omega) (by omega)) ?_))
   refine ⟨x+1,by omega,by omega,weak_of ?_ ?_⟩<;>(try simp (disch:=omega) only [go_sem,Nat.reduceAdd,Nat.reduceLT,Nat.reduceEqDiff])<;>(try first|done|omega|rfl|exact ⟨rfl,rfl⟩|trivial)
  ·have hxx:szX raw x=2:=by unfold szX;rw [if_neg hxr]
   rw [hxx] at hs
   have hs:Ns (szR raw x)++[I 2]=Ns (szR raw (x+1)):=hs
   (repeat (first|(with_reducible first|refine W_seq fun K hK=>?_|refine J_block ?_|refine J_skip ?_|refine J_exit ?_|refine J_ret ?_|refine J_region ?_ |refine J_drawn mixed (by kernel_rfl) ?_|refine aApp_sl ?_|refine aApp_old ?_|refine J_c ?_|refine Jc_true ?_|refine Jc_false ?_|exact Frz.f _|(refine Kont.go (by assumption) ?_)|(simp (config:={ maxSteps:=3000000 }) (disch:=omega) only [go_sem,Nat.reduceEqDiff,↓reduceIte,Nat.reduceAdd,Nat.reduceLT,Nat.reduceLeDiff,Int.reduceLT,Int.reduceLE,Int.reduceEq,Int.reduceNe,Int.reduceAdd,Int.reduceSub,Int.reduceMul,Int.reduceNeg,Int.reduceToNat,List.length_map,hxr,hs,hb]))|refine call_f (pickI _ _ (by omega) (by omega) (by omega) (by omega)) rfl ?_|refine callQ_f (pickI _ _ (by omega) (by omega) (by omega) (by omega)) rfl ?_|refine And.intro (by omega) ?_|refine And.intro (And.intro (by omega) (by omega)) ?_))
   refine ⟨x+1,by omega,by omega,weak_of ?_ ?_⟩<;>(try simp (disch:=omega) only [go_sem,Nat.reduceAdd,Nat.reduceLT,Nat.reduceEqDiff])<;>(try first|done|omega|rfl|exact ⟨rfl,rfl⟩|trivial)
 ·have he:x=n:=by omega
  subst he
  (repeat (first|(with_reducible first|refine W_seq fun K hK=>?_|refine J_block ?_|refine J_skip ?_|refine J_exit ?_|refine J_ret ?_|refine J_region ?_ |refine J_drawn mixed (by kernel_rfl) ?_|refine aApp_sl ?_|refine aApp_old ?_|refine J_c ?_|refine Jc_true ?_|refine Jc_false ?_|exact Frz.f _|(refine Kont.go (by assumption) ?_)|(simp (config:={ maxSteps:=3000000 }) (disch:=omega) only [go_sem,Nat.reduceEqDiff,↓reduceIte,Nat.reduceAdd,Nat.reduceLT,Nat.reduceLeDiff,Int.reduceLT,Int.reduceLE,Int.reduceEq,Int.reduceNe,Int.reduceAdd,Int.reduceSub,Int.reduceMul,Int.reduceNeg,Int.reduceToNat]))|refine call_f (pickI _ _ (by omega) (by omega) (by omega) (by omega)) rfl ?_|refine callQ_f (pickI _ _ (by omega) (by omega) (by omega) (by omega)) rfl ?_|refine And.intro (by omega) ?_|refine And.intro (And.intro (by omega) (by omega)) ?_))
  exact Frz.sl rfl
def tbX (raw:List Int) (k:Nat):Int:=if raw=[] then (k:Int) else ((pickN (raw.getD (k%raw.length) 0) 50:Nat):Int)-9
def tbR (raw:List Int) (n:Nat):List Rat:=(List.range n).map fun k=>((tbX raw k:Int):Rat)
theorem tbR_len {raw:List Int} {n:Nat}:(tbR raw n).length=n:=by simp [tbR]
theorem tbR_next {raw:List Int} {n:Nat}:(tbR raw n).map fr++[fr ((tbX raw n:Int):Rat)]=(tbR raw (n+1)).map fr:=by simp [tbR,List.range_succ]
theorem tbX_le {raw:List Int} {k:Nat} (hk:k≤65536):-9≤tbX raw k∧tbX raw k≤65536:=by
 unfold tbX
 have:=pickN_lt (raw.getD (k%raw.length) 0) (n:=50) (by omega)
 split<;>omega
theorem tbR_row {raw:List Int} {n:Nat} (hn:n≤65536):Row 8 (tbR raw n):=fun q hq=>by
 obtain ⟨k,hk,rfl⟩:=List.mem_map.1 hq
 have:=List.mem_range.1 hk
 have:=tbX_le (raw:=raw) (k:=k) (by omega)
 exact Fz.int (by omega)
theorem tmT {a b:Nat}:(a:Int).tmod (b:Int)=((a%b:Nat):Int):=rfl
set_option maxRecDepth 100000 in
set_option maxHeartbeats 4000000 in
theorem tableOf_w {Z l:List Nat} (raw:List Int) (h:OkT Z l) (hw:∀x∈raw,-9223372036854775808≤x∧x≤9223372036854775807) (hl:raw.length≤1000000) :
  Good Tryz.prog 7 [.fz 1 (Ns Z),.fz 1 (Ns l),ints raw] (tabV l ((tbR raw (cntS (szT Z) l)).map fr)):=by
 have hrc:=rcountT_w h
 have hc:=h.cnt
 have hc1:=h.cnt1
 obtain ⟨n,hn⟩:∃n,n=cntS (szT Z) l:=⟨_,rfl⟩
 rw [←hn] at hrc hc hc1 ⊢
 refine good_of Tryz.func7 rfl (by kernel_rfl) fun X hO hrd=>?_;rw [Tryz.ntmps7,Tryz.results7];simp only [ast0,List.map_cons,List.map_nil,List.length_cons,List.length_nil,Nat.reduceAdd,Nat.reduceSub,List.replicate_succ,List.replicate_zero,List.cons_append,List.nil_append]
 (repeat (first|(with_reducible first|refine W_seq fun K hK=>?_|refine J_block ?_|refine J_skip ?_|refine J_exit ?_|refine J_ret ?_|refine J_region ?_|refine J_orders (id:=9) [5] (.one 0 (.one 1 (.one 2 (.one 3 (.one 4 (.one 5 (.one 6 (.one 7 .leaf)))))))) mixed (by kernel_rfl) ?_ |refine J_drawn mixed (by kernel_rfl) ?_|refine aApp_sl ?_|refine aApp_old ?_|refine J_c ?_|refine Jc_true ?_|refine Jc_false ?_|exact Frz.f _|(refine Kont.go (by assumption) ?_)|(simp (config:={ maxSteps:=3000000 }) (disch:=omega) only [go_sem,Nat.reduceEqDiff,↓reduceIte,Nat.reduceAdd,Nat.reduceLT,Nat.reduceLeDiff,Int.reduceLT,Int.reduceLE,Int.reduceEq,Int.reduceNe,Int.reduceAdd,Int.reduceSub,Int.reduceMul,Int.reduceNeg,Int.reduceToNat]))|refine call_f (pickI _ _ (by omega) (by omega) (by omega) (by omega)) rfl ?_|refine callQ_f (pickI _ _ (by omega) (by omega) (by omega) (by omega)) rfl ?_|refine call_f (rof_frac (by omega) (by omega)) rfl ?_|refine callQ_f (rof_frac (by omega) (by omega)) rfl ?_|refine And.intro (by omega) ?_|refine And.intro (And.intro (by omega) (by omega)) ?_))
 (first|refine call_f (hrc) rfl ?_|refine callQ_f (hrc) rfl ?_|refine callHK_f (hrc) rfl ?_|refine callH_f (hrc) rfl ?_)
 (repeat (first|(with_reducible first|refine W_seq fun K hK=>?_|refine J_block ?_|refine J_skip ?_|refine J_exit ?_|refine J_ret ?_|((fail_if_success refine J_region (id:=4) ?_);refine J_region ?_)|refine J_orders (id:=9) [5] (.one 0 (.one 1 (.one 2 (.one 3 (.one 4 (.one 5 (.one 6 (.one 7 .leaf)))))))) mixed (by kernel_rfl) ?_ |((fail_if_success refine J_isD (id:=4) ?_);refine J_drawn mixed (by kernel_rfl) ?_)|refine aApp_sl ?_|refine aApp_old ?_|refine J_c ?_|refine Jc_true ?_|refine Jc_false ?_|exact Frz.f _|(refine Kont.go (by assumption) ?_)|(simp (config:={ maxSteps:=3000000 }) (disch:=omega) only [go_sem,Nat.reduceEqDiff,↓reduceIte,Nat.reduceAdd,Nat.reduceLT,Nat.reduceLeDiff,Int.reduceLT,Int.reduceLE,Int.reduceEq,Int.reduceNe,Int.reduceAdd,Int.reduceSub,Int.reduceMul,Int.reduceNeg,Int.reduceToNat]))|refine call_f (pickI _ _ (by omega) (by omega) (by omega) (by omega)) rfl ?_|refine callQ_f (pickI _ _ (by omega) (by omega) (by omega) (by omega)) rfl ?_|refine call_f (rof_frac (by omega) (by omega)) rfl ?_|refine callQ_f (rof_frac (by omega) (by omega)) rfl ?_|refine And.intro (by omega) ?_|refine And.intro (And.intro (by omega) (by omega)) ?_))
 refine J_reserve ?_
 simp only [go_sem,Nat.reduceAdd,Nat.reduceLT,Nat.reduceEqDiff]
 have h00:AV.f (.agg [.fz 1 (Ns l),.v (.slice none 0 0)])=tbA 2 (Ns l) ((tbR raw 0).map fr):=rfl
 refine J_mask [13] (by refine weak_of ?_ ?_<;>simp (disch:=omega) only [go_sem,Nat.reduceAdd,Nat.reduceLT,Nat.reduceEqDiff]<;>first|rfl|exact ⟨rfl,rfl⟩|exact Or.inl rfl|exact ⟨Or.inl rfl,Or.inl rfl⟩|trivial|assumption|omega|(symm;assumption)|((repeat' apply And.intro)<;>first|rfl|omega|trivial|exact .inr ⟨rfl,rfl⟩|exact .inr rfl|(right;symm;assumption)|(symm;assumption)|assumption)) ?_;simp only [go_sem,Nat.reduceAdd,Nat.reduceLT,Nat.reduceEqDiff]
 rw [h00]
 refine W_loop [10,11,20,21,22,23,24,25,26,27,28,29,30,31,32,33,34,35,36,37,38,39,40,41,42,43,44] (fun x:Nat=>[(10,.f (I x))]) (fun x:Nat=>[oT tab0,some ⟨27,2,[tbA 2 (Ns l) ((tbR raw x).map fr)]⟩,ob 50 3 ((tbR raw x).map fr)]) (fun x:Nat=>x≤n) (fun x:Nat=>n-x) (0) (Nat.zero_le _) (by refine weak_of ?_ ?_<;>simp (disch:=omega) only [go_sem,Nat.reduceAdd,Nat.reduceLT,Nat.reduceEqDiff]<;>first|rfl|exact ⟨rfl,rfl⟩|exact Or.inl rfl|exact ⟨Or.inl rfl,Or.inl rfl⟩|trivial|assumption|omega|(symm;assumption)|((repeat' apply And.intro)<;>first|rfl|omega|trivial|exact .inl rfl|exact .inr ⟨rfl,rfl⟩|exact .inr rfl|(right;symm;assumption)|(symm;assumption)|assumption)) ?_
 rintro x hx
 simp only [go_sem,Nat.reduceAdd,Nat.reduceLT,Nat.reduceEqDiff]
 (repeat (first|(with_reducible first|refine W_seq fun K hK=>?_|refine J_block ?_|refine J_skip ?_|refine J_exit ?_|refine J_ret ?_|refine J_region ?_|refine J_orders (id:=9) [5] (.one 0 (.one 1 (.one 2 (.one 3 (.one 4 (.one 5 (.one 6 (.one 7 .leaf)))))))) mixed (by kernel_rfl) ?_ |refine J_drawn mixed (by kernel_rfl) ?_|refine aApp_sl ?_|refine aApp_old ?_|refine J_c ?_|refine Jc_true ?_|refine Jc_false ?_|exact Frz.f _|(refine Kont.go (by assumption) ?_)|(simp (config:={ maxSteps:=3000000 }) (disch:=omega) only [go_sem,Nat.reduceEqDiff,↓reduceIte,Nat.reduceAdd,Nat.reduceLT,Nat.reduceLeDiff,Int.reduceLT,Int.reduceLE,Int.reduceEq,Int.reduceNe,Int.reduceAdd,Int.reduceSub,Int.reduceMul,Int.reduceNeg,Int.reduceToNat]))|refine call_f (pickI _ _ (by omega) (by omega) (by omega) (by omega)) rfl ?_|refine callQ_f (pickI _ _ (by omega) (by omega) (by omega) (by omega)) rfl ?_|refine call_f (rof_frac (by omega) (by omega)) rfl ?_|refine callQ_f (rof_frac (by omega) (by omega)) rfl ?_|refine And.intro (by omega) ?_|refine And.intro (And.intro (by omega) (by omega)) ?_))
 refine Jc_if (fun hxn=>?_) (fun hxn=>?_)<;>try simp only [decide_eq_true_eq,decide_eq_false_iff_not,Bool.not_eq_true',Bool.not_eq_false',Bool.not_true,Bool.not_false,Int.ofNat_lt,Int.ofNat_le,Int.natCast_inj,Classical.not_not] at hxn
 ·have htk:=tbR_next (raw:=raw) (n:=x)
  have hxle:=tbX_le (raw:=raw) (k:=x) (by omega)
  obtain ⟨q,hq⟩:∃q:Rat,q=((tbX raw x:Int):Rat):=⟨_,rfl⟩
  have hPl:((tbR raw x).map fr).length=x:=by rw [List.length_map,tbR_len]
  rw [←hq] at htk
  by_cases hr0:raw=[]
  ·have hrl:raw.length=0:=by rw [hr0];rfl
   have hxx:tbX raw x=(x:Int):=by unfold tbX;rw [if_pos hr0]
   have hqx:fr (((x:Nat):Int):Rat)=fr q:=by rw [hq,hxx]
   by_cases x0:x=0
   ·subst x0
    have e1:ob 50 3 ((tbR raw 0).map fr)=none:=rfl
    have e2:(tbR raw (0+1)).map fr=[fr q]:=htk.symm
    have e3:ob 50 3 [fr q]=some ⟨50,3,[.f (fr q)]⟩:=rfl
    have e4:tbA 2 (Ns l) [fr q]=.agg [.f (.fz 1 (Ns l)),.own 2 3 0 1]:=rfl
    have hqx0:fr ((0:Int):Rat)=fr q:=hqx
    rw [←h00,e1]
    (repeat (first|(with_reducible first|refine W_seq fun K hK=>?_|refine J_block ?_|refine J_skip ?_|refine J_exit ?_|refine J_ret ?_|refine J_region ?_|refine J_orders (id:=9) [5] (.one 0 (.one 1 (.one 2 (.one 3 (.one 4 (.one 5 (.one 6 (.one 7 .leaf)))))))) mixed (by kernel_rfl) ?_ |refine J_drawn mixed (by kernel_rfl) ?_|refine aApp_sl ?_|refine aApp_old ?_|refine J_c ?_|refine Jc_true ?_|refine Jc_false ?_|exact Frz.f _|(refine Kont.go (by assumption) ?_)|(simp (config:={ maxSteps:=3000000 }) (disch:=omega) only [go_sem,Nat.reduceEqDiff,↓reduceIte,Nat.reduceAdd,Nat.reduceLT,Nat.reduceLeDiff,Int.reduceLT,Int.reduceLE,Int.reduceEq,Int.reduceNe,Int.reduceAdd,Int.reduceSub,Int.reduceMul,Int.reduceNeg,Int.reduceToNat,List.length_map,hrl,hqx0]))|refine call_f (pickI _ _ (by omega) (by omega) (by omega) (by omega)) rfl ?_|refine callQ_f (pickI _ _ (by omega) (by omega) (by omega) (by omega)) rfl ?_|refine call_f (rof_frac (by omega) (by omega)) rfl ?_|refine callQ_f (rof_frac (by omega) (by omega)) rfl ?_|refine And.intro (by omega) ?_|refine And.intro (And.intro (by omega) (by omega)) ?_))
    refine ⟨0+1,by omega,by omega,weak_ren [0,1,4] ⟨by decide,by first|decide|(simp;done)⟩ ?_ ?_⟩<;>(try simp (disch:=omega) only [go_sem,Nat.reduceAdd,Nat.reduceLT,Nat.reduceEqDiff,e2,e3,e4,map_ren_f,List.map_append,List.map_cons,List.map_nil])<;>(try first|done|omega|rfl|exact ⟨rfl,rfl⟩|trivial)
   ·have hne:(tbR raw x).map fr≠[]:=fun h=>by have:=hPl;rw [h,List.length_nil] at this;omega
    have hne1:(tbR raw (x+1)).map fr≠[]:=by rw [←htk];simp
    have hln1:((tbR raw (x+1)).map fr).length=x+1:=by rw [←htk,List.length_append,hPl];rfl
    obtain ⟨T,hT⟩:∃T,T=(tbR raw x).map fr:=⟨_,rfl⟩
    rw [←hT] at hne hPl htk ⊢
    have e1:ob 50 3 T=some ⟨50,3,T.map .f⟩:=ob_pos hne
    have e2:tbA 2 (Ns l) T=.agg [.f (.fz 1 (Ns l)),.own 2 3 0 x]:=by rw [tbA_pos hne,hPl]
    have e3:ob 50 3 ((tbR raw (x+1)).map fr)=some ⟨50,3,T.map .f++[.f (fr q)]⟩:=by rw [ob_pos hne1,←htk,List.map_append];rfl
    have e4:tbA 2 (Ns l) ((tbR raw (x+1)).map fr)=.agg [.f (.fz 1 (Ns l)),.own 2 3 0 (x+1)]:=by rw [tbA_pos hne1,hln1]
    have e5:(T.map AV.f).take x=T.map .f:=List.take_of_length_le (by rw [List.length_map];omega)
    have e6:(x+1)*40≤140737488355328:=by omega
    rw [e1,e2]
    (repeat (first|(with_reducible first|refine W_seq fun K hK=>?_|refine J_block ?_|refine J_skip ?_|refine J_exit ?_|refine J_ret ?_|refine J_region ?_|refine J_orders (id:=9) [5] (.one 0 (.one 1 (.one 2 (.one 3 (.one 4 (.one 5 (.one 6 (.one 7 .leaf)))))))) mixed (by kernel_rfl) ?_ |refine J_drawn mixed (by kernel_rfl) ?_|refine aApp_sl ?_|refine aApp_old ?_|refine J_c ?_|refine Jc_true ?_|refine Jc_false ?_|exact Frz.f _|(refine Kont.go (by assumption) ?_)|(simp (config:={ maxSteps:=3000000 }) (disch:=omega) only [go_sem,Nat.reduceEqDiff,↓reduceIte,Nat.reduceAdd,Nat.reduceLT,Nat.reduceLeDiff,Int.reduceLT,Int.reduceLE,Int.reduceEq,Int.reduceNe,Int.reduceAdd,Int.reduceSub,Int.reduceMul,Int.reduceNeg,Int.reduceToNat,List.length_map,hrl,hPl,e5,e6,hqx]))|refine call_f (pickI _ _ (by omega) (by omega) (by omega) (by omega)) rfl ?_|refine callQ_f (pickI _ _ (by omega) (by omega) (by omega) (by omega)) rfl ?_|refine call_f (rof_frac (by omega) (by omega)) rfl ?_|refine callQ_f (rof_frac (by omega) (by omega)) rfl ?_|refine And.intro (by omega) ?_|refine And.intro (And.intro (by omega) (by omega)) ?_))
    refine ⟨x+1,by omega,by omega,weak_ren [0,1,4] ⟨by decide,by first|decide|(simp;done)⟩ ?_ ?_⟩<;>(try simp (disch:=omega) only [go_sem,Nat.reduceAdd,Nat.reduceLT,Nat.reduceEqDiff,e3,e4,map_ren_f,List.map_append,List.map_cons,List.map_nil])<;>(try first|done|omega|rfl|exact ⟨rfl,rfl⟩|trivial)
  ·have hwp:0<raw.length:=List.length_pos_iff.2 hr0
   have hm:x%raw.length<raw.length:=Nat.mod_lt _ hwp
   have g1:=map_get I raw hm
   have g2:=i64_get hw hm
   have hp5:=pickN_lt raw[x%raw.length] (n:=50) (by omega)
   have hxx:tbX raw x=((pickN raw[x%raw.length] 50:Nat):Int)-9:=by unfold tbX;rw [if_neg hr0,lget_lt raw 0 hm]
   have hqx:fr ((((pickN raw[x%raw.length] 50:Nat):Int)-9:Int):Rat)=fr q:=by rw [hq,hxx]
   have hmod:(x:Int).tmod (raw.length:Int)=((x%raw.length:Nat):Int):=tmT
   by_cases x0:x=0
   ·subst x0
    have e1:ob 50 3 ((tbR raw 0).map fr)=none:=rfl
    have e2:(tbR raw (0+1)).map fr=[fr q]:=htk.symm
    have e3:ob 50 3 [fr q]=some ⟨50,3,[.f (fr q)]⟩:=rfl
    have e4:tbA 2 (Ns l) [fr q]=.agg [.f (.fz 1 (Ns l)),.own 2 3 0 1]:=rfl
    have hmod0:(0:Int).tmod (raw.length:Int)=((0%raw.length:Nat):Int):=hmod
    rw [←h00,e1]
    (repeat (first|(with_reducible first|refine W_seq fun K hK=>?_|refine J_block ?_|refine J_skip ?_|refine J_exit ?_|refine J_ret ?_|refine J_region ?_|refine J_orders (id:=9) [5] (.one 0 (.one 1 (.one 2 (.one 3 (.one 4 (.one 5 (.one 6 (.one 7 .leaf)))))))) mixed (by kernel_rfl) ?_ |refine J_drawn mixed (by kernel_rfl) ?_|refine aApp_sl ?_|refine aApp_old ?_|refine J_c ?_|refine Jc_true ?_|refine Jc_false ?_|exact Frz.f _|(refine Kont.go (by assumption) ?_)|(simp (config:={ maxSteps:=3000000 }) (disch:=omega) only [go_sem,Nat.reduceEqDiff,↓reduceIte,Nat.reduceAdd,Nat.reduceLT,Nat.reduceLeDiff,Int.reduceLT,Int.reduceLE,Int.reduceEq,Int.reduceNe,Int.reduceAdd,Int.reduceSub,Int.reduceMul,Int.reduceNeg,Int.reduceToNat,List.length_map,hwp,hmod0,g1,hqx]))|refine call_f (pickI _ _ (by omega) (by omega) (by omega) (by omega)) rfl ?_|refine callQ_f (pickI _ _ (by omega) (by omega) (by omega) (by omega)) rfl ?_|refine call_f (rof_frac (by omega) (by omega)) rfl ?_|refine callQ_f (rof_frac (by omega) (by omega)) rfl ?_|refine And.intro (by omega) ?_|refine And.intro (And.intro (by omega) (by omega)) ?_))
    refine ⟨0+1,by omega,by omega,weak_ren [0,1,4] ⟨by decide,by first|decide|(simp;done)⟩ ?_ ?_⟩<;>(try simp (disch:=omega) only [go_sem,Nat.reduceAdd,Nat.reduceLT,Nat.reduceEqDiff,e2,e3,e4,map_ren_f,List.map_append,List.map_cons,List.map_nil])<;>(try first|done|omega|rfl|exact ⟨rfl,rfl⟩|trivial)
   ·have hne:(tbR raw x).map fr≠[]:=fun h=>by have:=hPl;rw [h,List.length_nil] at this;omega
    have hne1:(tbR raw (x+1)).map fr≠[]:=by rw [←htk];simp
    have hln1:((tbR raw (x+1)).map fr).length=x+1:=by rw [←htk,List.length_append,hPl];rfl
    obtain ⟨T,hT⟩:∃T,T=(tbR raw x).map fr:=⟨_,rfl⟩
    rw [←hT] at hne hPl htk ⊢
    have e1:ob 50 3 T=some ⟨50,3,T.map .f⟩:=ob_pos hne
    have e2:tbA 2 (Ns l) T=.agg [.f (.fz 1 (Ns l)),.own 2 3 0 x]:=by rw [tbA_pos hne,hPl]
    have e3:ob 50 3 ((tbR raw (x+1)).map fr)=some ⟨50,3,T.map .f++[.f (fr q)]⟩:=by rw [ob_pos hne1,←htk,List.map_append];rfl
    have e4:tbA 2 (Ns l) ((tbR raw (x+1)).map fr)=.agg [.f (.fz 1 (Ns l)),.own 2 3 0 (x+1)]:=by rw [tbA_pos hne1,hln1]
    have e5:(T.map AV.f).take x=T.map .f:=List.take_of_length_le (by rw [List.length_map];omega)
    have e6:(x+1)*40≤140737488355328:=by omega
    rw [e1,e2]
    (repeat (first|(with_reducible first|refine W_seq fun K hK=>?_|refine J_block ?_|refine J_skip ?_|refine J_exit ?_|refine J_ret ?_|refine J_region ?_|refine J_orders (id:=9) [5] (.one 0 (.one 1 (.one 2 (.one 3 (.one 4 (.one 5 (.one 6 (.one 7 .leaf)))))))) mixed (by kernel_rfl) ?_ |refine J_drawn mixed (by kernel_rfl) ?_|refine aApp_sl ?_|refine aApp_old ?_|refine J_c ?_|refine Jc_true ?_|refine Jc_false ?_|exact Frz.f _|(refine Kont.go (by assumption) ?_)|(simp (config:={ maxSteps:=3000000 }) (disch:=omega) only [go_sem,Nat.reduceEqDiff,↓reduceIte,Nat.reduceAdd,Nat.reduceLT,Nat.reduceLeDiff,Int.reduceLT,Int.reduceLE,Int.reduceEq,Int.reduceNe,Int.reduceAdd,Int.reduceSub,Int.reduceMul,Int.reduceNeg,Int.reduceToNat,List.length_map,hwp,hmod,g1,hPl,e5,e6,hqx]))|refine call_f (pickI _ _ (by omega) (by omega) (by omega) (by omega)) rfl ?_|refine callQ_f (pickI _ _ (by omega) (by omega) (by omega) (by omega)) rfl ?_|refine call_f (rof_frac (by omega) (by omega)) rfl ?_|refine callQ_f (rof_frac (by omega) (by omega)) rfl ?_|refine And.intro (by omega) ?_|refine And.intro (And.intro (by omega) (by omega)) ?_))
    refine ⟨x+1,by omega,by omega,weak_ren [0,1,4] ⟨by decide,by first|decide|(simp;done)⟩ ?_ ?_⟩<;>(try simp (disch:=omega) only [go_sem,Nat.reduceAdd,Nat.reduceLT,Nat.reduceEqDiff,e3,e4,map_ren_f,List.map_append,List.map_cons,List.map_nil])<;>(try first|done|omega|rfl|exact ⟨rfl,rfl⟩|trivial)
 ·have he:x=n:=by omega
  subst he
  have hne:(tbR raw x).map fr≠[]:=fun h=>by have:=congrArg List.length h;rw [List.length_map,tbR_len,List.length_nil] at this;omega
  have e1:ob 50 3 ((tbR raw x).map fr)=some ⟨50,3,((tbR raw x).map fr).map .f⟩:=ob_pos hne
  have e2:tbA 2 (Ns l) ((tbR raw x).map fr)=.agg [.f (.fz 1 (Ns l)),.own 2 3 0 ((tbR raw x).map fr).length]:=tbA_pos hne
  rw [e1,e2]
  (repeat (first|(with_reducible first|refine W_seq fun K hK=>?_|refine J_block ?_|refine J_skip ?_|refine J_exit ?_|refine J_ret ?_|refine J_region ?_|refine J_orders (id:=9) [5] (.one 0 (.one 1 (.one 2 (.one 3 (.one 4 (.one 5 (.one 6 (.one 7 .leaf)))))))) mixed (by kernel_rfl) ?_ |refine J_drawn mixed (by kernel_rfl) ?_|refine aApp_sl ?_|refine aApp_old ?_|refine J_c ?_|refine Jc_true ?_|refine Jc_false ?_|exact Frz.f _|(refine Kont.go (by assumption) ?_)|(simp (config:={ maxSteps:=3000000 }) (disch:=omega) only [go_sem,Nat.reduceEqDiff,↓reduceIte,Nat.reduceAdd,Nat.reduceLT,Nat.reduceLeDiff,Int.reduceLT,Int.reduceLE,Int.reduceEq,Int.reduceNe,Int.reduceAdd,Int.reduceSub,Int.reduceMul,Int.reduceNeg,Int.reduceToNat]))|refine call_f (pickI _ _ (by omega) (by omega) (by omega) (by omega)) rfl ?_|refine callQ_f (pickI _ _ (by omega) (by omega) (by omega) (by omega)) rfl ?_|refine call_f (rof_frac (by omega) (by omega)) rfl ?_|refine callQ_f (rof_frac (by omega) (by omega)) rfl ?_|refine And.intro (by omega) ?_|refine And.intro (And.intro (by omega) (by omega)) ?_))
  exact Frz.aggL (FrzL.cons (.f _) (FrzL.cons (Frz.own0 rfl (by rw [List.length_map])) (FrzL.nil _)))
end Go.Proofs.YtmcgeppgfjlclaaGreatDoor
set_option linter.unusedVariables false
set_option linter.unusedSimpArgs false
namespace Go.Proofs.YtmcgeppgfjlclaaGreatDoor
open Go Go.RowKit
end Go.Proofs.YtmcgeppgfjlclaaGreatDoor
set_option linter.unusedVariables false
set_option linter.unusedSimpArgs false
namespace Go.Proofs.YtmcgeppgfjlclaaGreatDoor
open Go Go.RowKit
set_option maxRecDepth 100000 in
theorem sameInts_w (l:List Int) (hn:l.length≤140737488355328):Good Tryz.prog 24 [ints l,ints l] (Bo true):=by
 refine good_of Tryz.func24 rfl (by kernel_rfl) fun X hO hrd=>?_;rw [Tryz.ntmps24,Tryz.results24];simp only [ast0,List.map_cons,List.map_nil,List.length_cons,List.length_nil,Nat.reduceAdd,Nat.reduceSub,List.replicate_succ,List.replicate_zero,List.cons_append,List.nil_append]
 (repeat (first|(with_reducible first|refine W_seq fun K hK=>?_|refine J_block ?_|refine J_skip ?_|refine J_exit ?_|refine J_ret ?_|refine J_region ?_ |refine J_drawn mixed (by kernel_rfl) ?_|refine aApp_sl ?_|refine aApp_old ?_|refine J_c ?_|refine Jc_true ?_|refine Jc_false ?_|exact Frz.f _|(refine Kont.go (by assumption) ?_)|(simp (config:={ maxSteps:=3000000 }) (disch:=omega) only [go_sem,Nat.reduceEqDiff,↓reduceIte,Nat.reduceAdd,Nat.reduceLT,Nat.reduceLeDiff,Int.reduceLT,Int.reduceLE,Int.reduceEq,Int.reduceNe,Int.reduceAdd,Int.reduceSub,Int.reduceMul,Int.reduceNeg,Int.reduceToNat,List.length_map]))|refine And.intro (by omega) ?_|refine And.intro (And.intro (by omega) (by omega)) ?_))
 refine W_loop [4,5,11,12,13,14,15,16,17,18,19,20,21,22,23,24,25] (fun x:Nat=>[(5,.f (I x))]) (fun x:Nat=>[]) (fun x:Nat=>x≤l.length) (fun x:Nat=>l.length-x) (0) (Nat.zero_le _) (by refine weak_of ?_ ?_<;>simp (disch:=omega) only [go_sem,Nat.reduceAdd,Nat.reduceLT,Nat.reduceEqDiff]<;>first|rfl|exact ⟨rfl,rfl⟩|exact Or.inl rfl|exact ⟨Or.inl rfl,Or.inl rfl⟩|trivial|assumption|omega|(symm;assumption)|((repeat' apply And.intro)<;>first|rfl|omega|trivial|exact .inl rfl|exact .inr ⟨rfl,rfl⟩|exact .inr rfl|(right;symm;assumption)|(symm;assumption)|assumption)) ?_
 rintro i hi
 simp only [go_sem,Nat.reduceAdd,Nat.reduceLT,Nat.reduceEqDiff]
 (repeat (first|(with_reducible first|refine W_seq fun K hK=>?_|refine J_block ?_|refine J_skip ?_|refine J_exit ?_|refine J_ret ?_|refine J_region ?_ |refine J_drawn mixed (by kernel_rfl) ?_|refine aApp_sl ?_|refine aApp_old ?_|refine J_c ?_|refine Jc_true ?_|refine Jc_false ?_|exact Frz.f _|(refine Kont.go (by assumption) ?_)|(simp (config:={ maxSteps:=3000000 }) (disch:=omega) only [go_sem,Nat.reduceEqDiff,↓reduceIte,Nat.reduceAdd,Nat.reduceLT,Nat.reduceLeDiff,Int.reduceLT,Int.reduceLE,Int.reduceEq,Int.reduceNe,Int.reduceAdd,Int.reduceSub,Int.reduceMul,Int.reduceNeg,Int.reduceToNat,List.length_map]))|refine And.intro (by omega) ?_|refine And.intro (And.intro (by omega) (by omega)) ?_))
 refine Jc_if (fun hlt=>?_) (fun hlt=>?_)<;>try simp only [decide_eq_true_eq,decide_eq_false_iff_not,Bool.not_eq_true',Bool.not_eq_false',Bool.not_true,Bool.not_false,Int.ofNat_lt,Int.ofNat_le,Int.natCast_inj,Classical.not_not] at hlt
 ·(repeat (first|(with_reducible first|refine W_seq fun K hK=>?_|refine J_block ?_|refine J_skip ?_|refine J_exit ?_|refine J_ret ?_|refine J_region ?_ |refine J_drawn mixed (by kernel_rfl) ?_|refine aApp_sl ?_|refine aApp_old ?_|refine J_c ?_|refine Jc_true ?_|refine Jc_false ?_|exact Frz.f _|(refine Kont.go (by assumption) ?_)|(simp (config:={ maxSteps:=3000000 }) (disch:=omega) only [go_sem,Nat.reduceEqDiff,↓reduceIte,Nat.reduceAdd,Nat.reduceLT,Nat.reduceLeDiff,Int.reduceLT,Int.reduceLE,Int.reduceEq,Int.reduceNe,Int.reduceAdd,Int.reduceSub,Int.reduceMul,Int.reduceNeg,Int.reduceToNat,map_get I l hlt,hlt]))|refine And.intro (by omega) ?_|refine And.intro (And.intro (by omega) (by omega)) ?_))
  refine ⟨i+1,by omega,by omega,weak_of ?_ ?_⟩<;>(try simp (disch:=omega) only [go_sem,Nat.reduceAdd,Nat.reduceLT,Nat.reduceEqDiff])<;>(try first|done|omega|rfl|exact ⟨rfl,rfl⟩|trivial)
 ·(repeat (first|(with_reducible first|refine W_seq fun K hK=>?_|refine J_block ?_|refine J_skip ?_|refine J_exit ?_|refine J_ret ?_|refine J_region ?_ |refine J_drawn mixed (by kernel_rfl) ?_|refine aApp_sl ?_|refine aApp_old ?_|refine J_c ?_|refine Jc_true ?_|refine Jc_false ?_|exact Frz.f _|(refine Kont.go (by assumption) ?_)|(simp (config:={ maxSteps:=3000000 }) (disch:=omega) only [go_sem,Nat.reduceEqDiff,↓reduceIte,Nat.reduceAdd,Nat.reduceLT,Nat.reduceLeDiff,Int.reduceLT,Int.reduceLE,Int.reduceEq,Int.reduceNe,Int.reduceAdd,Int.reduceSub,Int.reduceMul,Int.reduceNeg,Int.reduceToNat]))|refine And.intro (by omega) ?_|refine And.intro (And.intro (by omega) (by omega)) ?_))
end Go.Proofs.YtmcgeppgfjlclaaGreatDoor
