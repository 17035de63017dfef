/- walk.Draw, of the program and of the document. Conditions: at most 1000 numbers, of 10^6 bytes each. -/
import Derived.Test.YtcgagiimlkjcpaaGreatDoorZB12
import Derived.Test.YtcgagiimlkjcpaaGreatDoorZB21
import Derived.Test.YtcgagiimlkjcpaaGreatDoorZB08
import Derived.Test.YtcgagiimlkjcpaaGreatDoorZB31
set_option linter.unusedVariables false
set_option linter.unusedSimpArgs false
namespace Go.Proofs.YtcgagiimlkjcpaaGreatDoor
open Go Go.RowKit
theorem Frs.take {k:Nat} {xs:List FV} {l:List Rat} (h:Frs k xs l) (n:Nat):Frs k (xs.take n) (l.take n):=⟨by simp [h.len],fun i q hq=>by
 rw [List.getElem?_take] at hq ⊢
 split at hq
 ·rename_i hi
  rw [if_pos hi];exact h.get i q hq
 ·cases hq⟩
end Go.Proofs.YtcgagiimlkjcpaaGreatDoor
set_option linter.unusedVariables false
set_option linter.unusedSimpArgs false
namespace Go.Proofs.YtcgagiimlkjcpaaGreatDoor
open Go Go.RowKit
abbrev qN (n:Nat):Rat:=((n:Int):Rat)
end Go.Proofs.YtcgagiimlkjcpaaGreatDoor
set_option linter.unusedVariables false
set_option linter.unusedSimpArgs false
namespace Go.Proofs.YtcgagiimlkjcpaaGreatDoor
open Go Go.RowKit
theorem qN_mk (a b:Nat):qN a/qN b=mkRat (a:Int) b:=by rw [Rat.mkRat_eq_div];rfl
section
variable (w : List Int) (k n : Nat)
theorem rowOf_row (h:1≤n) (hn:n≤1000):Row 8 (rowOf w k n):=fun q hq=>by
 obtain ⟨x,hx,rfl⟩:=List.mem_map.1 hq
 show Fz (qN x/qN (rowS w k n)) 8
 rw [qN_mk]
 have h1:=rowM_lt w k n x hx
 have h2:=rowS_le w k n h
 have e:(256:Nat)^8=18446744073709551616:=by decide
 exact Fz.mk (by rw [e];omega) (by rw [e];omega) (by omega)
end
end Go.Proofs.YtcgagiimlkjcpaaGreatDoor
set_option linter.unusedVariables false
set_option linter.unusedSimpArgs false
namespace Go.Proofs.YtcgagiimlkjcpaaGreatDoor
open Go Go.RowKit
def matX (w:List Int) (n i k:Nat):Nat:=if w=[] then 1 else pickN (w.getD ((i*n+k)%w.length) 0) 9-3
def matL (w:List Int) (n i m:Nat):List Int:=(List.range m).map fun k=>((matX w n i k:Nat):Int)
def matR (w:List Int) (n m:Nat):List (List Rat):=(List.range m).map fun i=>rowOf (matL w n i n) 0 n
theorem matX_le (w:List Int) (n i k:Nat):matX w n i k≤5:=by
 unfold matX
 split
 ·omega
 ·have:=pickN_lt (w.getD ((i*n+k)%w.length) 0) (n:=9) (by omega);omega
theorem matL_len (w:List Int) (n i m:Nat):(matL w n i m).length=m:=by simp [matL]
theorem matR_len (w:List Int) (n m:Nat):(matR w n m).length=m:=by simp [matR]
theorem matL_next (w:List Int) (n i m:Nat):(matL w n i m).map I++[I (matX w n i m:Nat)]=(matL w n i (m+1)).map I:=by simp [matL,List.range_succ]
theorem matR_next (w:List Int) (n m:Nat):(matR w n m).map frs++[frs (rowOf (matL w n m n) 0 n)]=(matR w n (m+1)).map frs:=by simp [matR,List.range_succ]
theorem matL_64 (w:List Int) (n i m:Nat):∀x∈matL w n i m,-9223372036854775808≤x∧x≤9223372036854775807:=fun x hx=>by
 obtain ⟨k,_,rfl⟩:=List.mem_map.1 hx
 have:=matX_le w n i k
 omega
set_option maxRecDepth 100000 in
set_option maxHeartbeats 2000000 in
theorem matrixOf_w (w:List Int) (n:Nat) (hw:∀x∈w,-9223372036854775808≤x∧x≤9223372036854775807) (h1:1≤n) (hn:n≤1000) (hwl:w.length≤140737488355328):Good Tryz.prog 34 [ints w,I n] (rowsF (matR w n n)):=by
 refine good_of Tryz.func34 rfl (by kernel_rfl) fun X hO hrd=>?_;rw [Tryz.ntmps34,Tryz.results34];simp only [ast0,List.map_cons,List.map_nil,List.length_cons,List.length_nil,Nat.reduceAdd,Nat.reduceSub,List.replicate_succ,List.replicate_zero,List.cons_append,List.nil_append]
 repeat (with_reducible first|refine W_seq fun K hK=>?_|refine J_block ?_|refine J_region ?_ |(refine Kont.go (by assumption) ?_)|(simp (config:={ maxSteps:=3000000 }) (disch:=omega) only [go_sem]))
 refine J_reserve ?_
 refine W_loop [5,6,7,8,9,10,11,12,13,14,15,16,17,18,19,20,21,22,23,24,25,26,27,28,29,30,31,32,33,34,35,36,37,38,39,40,41,42,43,44,45,46,47,48,49] (fun x:Nat=>[(6,.f (I x)),(5,sl 0 1 ((matR w n x).map frs))]) (fun x:Nat=>[ob 23 1 ((matR w n x).map frs)]) (fun x:Nat=>x≤n) (fun x:Nat=>n-x) (0) (Nat.zero_le _) (by refine weak_of ?_ ?_<;>simp (disch:=omega) only [go_sem]<;>first|rfl|exact ⟨rfl,rfl⟩|exact Or.inl rfl|exact ⟨Or.inl rfl,Or.inl rfl⟩|trivial|assumption|omega|(symm;assumption)|((repeat' apply And.intro)<;>first|rfl|omega|trivial|exact .inr ⟨rfl,rfl⟩|exact .inr rfl|(right;symm;assumption)|(symm;assumption)|assumption)) ?_
 rintro i hi
 simp only [go_sem]
 repeat (with_reducible first|refine W_seq fun K hK=>?_|refine J_region ?_ |refine J_c ?_|(refine Kont.go (by assumption) ?_)|(simp (config:={ maxSteps:=3000000 }) (disch:=omega) only [go_sem]))
 refine Jc_if (fun hlt=>?_) (fun hlt=>?_)<;>try simp only [decide_eq_true_eq,decide_eq_false_iff_not] at hlt
 ·have hnn:i*n≤1000000:=Nat.mul_le_mul (show i≤1000 by omega) hn
  have hcin:((i:Int)*(n:Int))=((i*n:Nat):Int):=(Int.natCast_mul i n).symm
  repeat (with_reducible first|refine W_seq fun K hK=>?_|refine J_block ?_|refine J_skip ?_|refine J_region ?_ |(refine Kont.go (by assumption) ?_)|(simp (config:={ maxSteps:=3000000 }) (disch:=omega) only [go_sem]))
  refine J_reserve ?_
  refine W_loop [7,8,9,16,17,18,19,20,21,22,23,24,25,26,27,28,29,30,31,32,33,34,35,36,37,38,39,40,41,42] (fun x:Nat=>[(8,.f (I x)),(7,sl 1 1 ((matL w n i x).map I))]) (fun x:Nat=>[ob 23 1 ((matR w n i).map frs),ob 3 1 ((matL w n i x).map I)]) (fun x:Nat=>x≤n) (fun x:Nat=>n-x) (0) (Nat.zero_le _) (by refine weak_of ?_ ?_<;>simp (disch:=omega) only [go_sem,Nat.reduceAdd]<;>first|rfl|exact ⟨rfl,rfl⟩|exact Or.inl rfl|exact ⟨Or.inl rfl,Or.inl rfl⟩|trivial|assumption|omega|(symm;assumption)|((repeat' apply And.intro)<;>first|rfl|omega|trivial|exact .inr ⟨rfl,rfl⟩|exact .inr rfl|(right;symm;assumption)|(symm;assumption)|assumption)) ?_
  rintro k hk
  simp only [go_sem]
  repeat (with_reducible first|refine W_seq fun K hK=>?_|refine J_region ?_ |refine J_c ?_|(refine Kont.go (by assumption) ?_)|(simp (config:={ maxSteps:=3000000 }) (disch:=omega) only [go_sem]))
  refine Jc_if (fun hlt2=>?_) (fun hlt2=>?_)<;>try simp only [decide_eq_true_eq,decide_eq_false_iff_not] at hlt2
  ·have hx5:=matX_le w n i k
   have hnx:=matL_next w n i k
   by_cases hw0:w=[]
   ·have hx1:matX w n i k=1:=by unfold matX;rw [if_pos hw0]
    rw [hx1] at hnx
    have hwl0:w.length=0:=by rw [hw0];rfl
    have hnx1:(matL w n i k).map I++[.v (.int .i64 1)]=(matL w n i (k+1)).map I:=hnx
    repeat (first|(with_reducible first|refine W_seq fun K hK=>?_|refine J_block ?_|refine J_skip ?_|refine J_region ?_ |refine aApp_sl ?_|refine J_c ?_|refine Jc_false ?_|(refine Kont.go (by assumption) ?_)|(simp (config:={ maxSteps:=3000000 }) (disch:=omega) only [go_sem,Nat.reduceEqDiff,↓reduceIte,Nat.reduceAdd,Nat.reduceLeDiff,Int.reduceLT,List.length_map,matL_len,hwl0,hnx1]))|refine And.intro (by omega) ?_)
    refine ⟨k+1,by omega,by omega,weak_of ?_ ?_⟩<;>(try simp (disch:=omega) only [go_sem,Nat.reduceAdd])<;>(try first|done|omega|rfl|exact ⟨rfl,rfl⟩|trivial)
   ·have hwp:0<w.length:=List.length_pos_iff.2 hw0
    have hm:(i*n+k)%w.length<w.length:=Nat.mod_lt _ hwp
    have hx:=i64_get hw hm
    have hp9:=pickN_lt w[(i*n+k)%w.length] (n:=9) (by omega)
    have hxx:matX w n i k=pickN w[(i*n+k)%w.length] 9-3:=by unfold matX;rw [if_neg hw0,lget_lt w 0 hm]
    have hmod:(((i*n:Nat):Int)+(k:Int)).tmod (w.length:Int)=(((i*n+k)%w.length:Nat):Int):=tmod_nat (by omega)
    by_cases hneg:pickN w[(i*n+k)%w.length] 9<3
    ·have hlt3:(pickN w[(i*n+k)%w.length] 9:Int)<3:=by omega
     have hlt0:(pickN w[(i*n+k)%w.length] 9:Int)-3<0:=by omega
     have hx0:matX w n i k=0:=by omega
     rw [hx0] at hnx
     have hnx0:(matL w n i k).map I++[.v (.int .i64 0)]=(matL w n i (k+1)).map I:=hnx
     repeat (first|(with_reducible first|refine W_seq fun K hK=>?_|refine J_block ?_|refine J_skip ?_|refine J_region ?_ |refine aApp_sl ?_|refine J_c ?_|refine Jc_true ?_|(refine Kont.go (by assumption) ?_)|(simp (config:={ maxSteps:=3000000 }) (disch:=omega) only [go_sem,Nat.reduceEqDiff,↓reduceIte,Nat.reduceAdd,Nat.reduceLeDiff,Int.reduceToNat,List.length_map,matL_len,hwp,hcin,hmod,map_get I w hm,hlt0,hnx0]))|refine call_f (pickI _ _ (by omega) (by omega) (by omega) (by omega)) rfl ?_|refine And.intro (by omega) ?_)
     refine ⟨k+1,by omega,by omega,weak_of ?_ ?_⟩<;>(try simp (disch:=omega) only [go_sem,Nat.reduceAdd])<;>(try first|done|omega|rfl|exact ⟨rfl,rfl⟩|trivial)
    ·have hlt0:¬((matX w n i k:Nat):Int)<0:=by omega
     have hx3:(pickN w[(i*n+k)%w.length] 9:Int)-3=(matX w n i k:Nat):=by omega
     repeat (first|(with_reducible first|refine W_seq fun K hK=>?_|refine J_block ?_|refine J_skip ?_|refine J_region ?_ |refine aApp_sl ?_|refine J_c ?_|refine Jc_true ?_|refine Jc_false ?_|(refine Kont.go (by assumption) ?_)|(simp (config:={ maxSteps:=3000000 }) (disch:=omega) only [go_sem,Nat.reduceEqDiff,↓reduceIte,Nat.reduceAdd,Nat.reduceLeDiff,Int.reduceToNat,List.length_map,matL_len,hwp,hcin,hmod,map_get I w hm,hlt0,hx3,hnx]))|refine call_f (pickI _ _ (by omega) (by omega) (by omega) (by omega)) rfl ?_|refine And.intro (by omega) ?_)
     refine ⟨k+1,by omega,by omega,weak_of ?_ ?_⟩<;>(try simp (disch:=omega) only [go_sem,Nat.reduceAdd])<;>(try first|done|omega|rfl|exact ⟨rfl,rfl⟩|trivial)
  ·have he:k=n:=by omega
   subst he
   refine J_freeze (j:=7) rfl rfl ?_
   repeat (with_reducible first|refine W_seq fun K hK=>?_|refine J_exit ?_|refine J_region ?_ |(refine Kont.go (by assumption) ?_)|(simp (config:={ maxSteps:=3000000 }) (disch:=omega) only [go_sem,↓reduceIte]))
   refine call_f (rowI (k':=0) (n':=k) (by omega) rfl (matL_64 w k i k) (by omega) (by omega) (by omega) (by rw [matL_len];omega)) rfl ?_
   repeat (first|(with_reducible first|refine J_region ?_ |refine aApp_sl ?_|(refine Kont.go (by assumption) ?_)|(simp (config:={ maxSteps:=3000000 }) (disch:=omega) only [go_sem,Nat.reduceEqDiff,↓reduceIte,Nat.reduceAdd,Nat.reduceLeDiff,matR_next,List.length_map,matR_len]))|refine And.intro (by omega) ?_)
   refine ⟨i+1,by omega,by omega,weak_of ?_ ?_⟩<;>(try simp (disch:=omega) only [go_sem])<;>(try first|done|omega|rfl|exact ⟨rfl,rfl⟩|trivial)
 ·have he:i=n:=by omega
  subst he
  repeat (with_reducible first|refine W_seq fun K hK=>?_|refine J_exit ?_|refine J_ret ?_|refine J_region ?_ |(refine Kont.go (by assumption) ?_)|(simp (config:={ maxSteps:=3000000 }) (disch:=omega) only [go_sem,↓reduceIte]))
  exact Frz.sl rfl
section
variable {w : List Int} {n : Nat}
theorem matR_row:∀r∈matR w n n,r.length=n:=fun r hr=>by
 obtain ⟨i,_,rfl⟩:=List.mem_map.1 hr
 exact rowOf_len _ _ _
theorem matR_Row (h:1≤n) (hn:n≤1000):∀r∈matR w n n,Row 8 r:=fun r hr=>by
 obtain ⟨i,_,rfl⟩:=List.mem_map.1 hr
 exact rowOf_row _ _ _ h hn
end
end Go.Proofs.YtcgagiimlkjcpaaGreatDoor
set_option linter.unusedVariables false
set_option linter.unusedSimpArgs false
namespace Go.Proofs.YtcgagiimlkjcpaaGreatDoor
open Go Go.RowKit
def toF (l:List Rat):List F3:=l.map fun q=>(cg q,cn q,cd q)
theorem toF_raws (l:List Rat):frs l=raws (toF l):=by
 unfold toF
 show FV.fz 3 (l.map fr)=FV.fz 3 ((l.map fun q=>(cg q,cn q,cd q)).map frF)
 rw [List.map_map];rfl
theorem toF_ok {l:List Rat} (h:Row 8 l) (hl:l.length≤1000):OkFs (toF l):=by
 refine ⟨by unfold toF;rw [List.length_map];omega,fun x hx=>?_⟩
 unfold toF at hx
 obtain ⟨q,hq,rfl⟩:=List.mem_map.1 hx
 obtain ⟨_,h1,h2⟩:=Is.c (h q hq)
 show (cn q).size≤_∧(cd q).size≤_
 omega
set_option maxRecDepth 100000 in
set_option maxHeartbeats 4000000 in
theorem chainMade_good (w:List Int) (n:Int) (tl:List Int) (k i:Int) (hw:OkIs w) (hn:OkI n) (htl:OkIs tl) (hk:OkI k) (hi:OkI i) :
  Good Tryz.prog 4 [ints w,I n,ints tl,I k,I i] (Bo true):=by
 have hwl:=hw.1
 have htll:=htl.1
 by_cases hg1:w.length+tl.length≤256
 case neg =>
  have hg:(256:Int)<(w.length:Int)+(tl.length:Int):=by omega
  refine good_of Tryz.func4 rfl (by kernel_rfl) fun X hO hrd=>?_;rw [Tryz.ntmps4,Tryz.results4];simp only [ast0,List.map_cons,List.map_nil,List.length_cons,List.length_nil,Nat.reduceAdd,Nat.reduceSub,List.replicate_succ,List.replicate_zero,List.cons_append,List.nil_append]
  repeat (with_reducible first|refine W_seq fun K hK=>?_|refine J_ret ?_|refine J_region ?_ |refine J_c ?_|refine Jc_true ?_|exact Frz.f _|(refine Kont.go (by assumption) ?_)|(simp (config:={ maxSteps:=3000000 }) (disch:=omega) only [go_sem,hg,List.length_map]))
 have hg:¬(256:Int)<(w.length:Int)+(tl.length:Int):=by omega
 obtain ⟨hn0,hn1⟩:=hn
 have hq4:=pickN_lt n (n:=4) (by omega)
 obtain ⟨z,hz⟩:∃z,z=1+pickN n 4:=⟨_,rfl⟩
 have hz1:1≤z:=by omega
 have hz4:z≤4:=by omega
 have hnz:(1:Int)+(pickN n 4:Int)=(z:Int):=by omega
 have hM:=matrixOf_w w z hw.2 hz1 (by omega) hwl
 obtain ⟨m,hm⟩:∃m,m=matR w z z:=⟨_,rfl⟩
 have hlen:m.length=z:=by rw [hm];exact matR_len w z z
 have hRow:∀r∈m,Row 8 r:=by rw [hm];exact matR_Row hz1 (by omega)
 have hrl:∀r∈m,r.length=z:=by rw [hm];exact matR_row
 rw [←hm] at hM
 obtain ⟨r,m',hmc⟩:=List.exists_cons_of_ne_nil (show m≠[] from fun e=>by rw [e] at hlen;simp at hlen;omega)
 have hr:r∈m:=by rw [hmc];simp
 have hS:=rsome_w tl z (fun x hx=>htl.2 x hx) hz1 (by omega) htll
 obtain ⟨hk0,hk1⟩:=hk
 obtain ⟨hi0,hi1⟩:=hi
 have hk6:=pickN_lt k (n:=6) (by omega)
 have hiz:=pickN_lt i (n:=z) (by omega)
 have hRF:rowsF m=.fz 1 ((m.map toF).map raws):=by
  show FV.fz 1 (m.map frs)=_
  rw [List.map_map]
  congr 1
  exact List.map_congr_left fun l _=>toF_raws l
 have hsl:(someL tl z z).length≤z:=by have:=someL_len (l:=tl) (n:=z) (x:=z);rw [Ns_len] at this;exact this
 have hSi:FV.fz 1 (Ns (someL tl z z))=ints ((someL tl z z).map Int.ofNat):=by unfold Ns;simp [ints]
 have hsm:∀s∈someL tl z z,s<z:=fun s hs=>List.mem_range.1 (List.mem_filter.1 hs).1
 have hex:=chainExact_good (m.map toF) (toF r) (pickN k 6:Nat) ((someL tl z z).map Int.ofNat) (pickN i z:Nat)
  ⟨by rw [List.length_map];omega,fun x hx=>by
   obtain ⟨l,hl,rfl⟩:=List.mem_map.1 hx
   exact toF_ok (hRow l hl) (by rw [hrl l hl];omega)⟩ (toF_ok (hRow r hr) (by rw [hrl r hr];omega)) (by unfold OkI;omega)
  ⟨by rw [List.length_map];omega,fun x hx=>by
   obtain ⟨s,hs,rfl⟩:=List.mem_map.1 hx
   have:=hsm s hs
   show -9223372036854775808≤((s:Nat):Int)∧((s:Nat):Int)≤9223372036854775807
   omega⟩ (by unfold OkI;omega)
 rw [←hRF,←toF_raws,←hSi] at hex
 have g0:(m.map frs)[0]?=some (frs r):=by rw [hmc];rfl
 have hRF2:rowsF m=.fz 1 (m.map frs):=rfl
 refine good_of Tryz.func4 rfl (by kernel_rfl) fun X hO hrd=>?_;rw [Tryz.ntmps4,Tryz.results4];simp only [ast0,List.map_cons,List.map_nil,List.length_cons,List.length_nil,Nat.reduceAdd,Nat.reduceSub,List.replicate_succ,List.replicate_zero,List.cons_append,List.nil_append]
 repeat (first|(with_reducible first|refine W_seq fun K hK=>?_|refine J_skip ?_|refine J_region ?_ |refine J_c ?_|refine Jc_false ?_|(refine Kont.go (by assumption) ?_)|(simp (config:={ maxSteps:=3000000 }) (disch:=omega) only [go_sem,Int.reduceToNat,hg,List.length_map,hnz]))|refine call_f (pickI _ _ (by omega) (by omega) (by omega) (by omega)) rfl ?_)
 refine call_f hM rfl ?_
 rw [hRF2]
 rw [hRF2] at hex
 have pz:=pick_good i z hi0 hi1 (by omega) (by omega)
 repeat (first|(with_reducible first|refine W_seq fun K hK=>?_|refine J_drawn mixed (by kernel_rfl) ?_|(refine Kont.go (by assumption) ?_)|(simp (config:={ maxSteps:=3000000 }) (disch:=omega) only [go_sem,↓reduceIte,Int.reduceLE,Int.reduceToNat,g0,true_and]))|refine callQ_f (pickI _ _ (by omega) (by omega) (by omega) (by omega)) rfl ?_)
 refine callQ_f hS rfl ?_
 refine callQ_f pz rfl ?_
 refine callQ_f hex rfl ?_
 repeat (with_reducible first|refine J_ret ?_|exact Frz.f _|(refine Kont.go (by assumption) ?_)|(simp (config:={ maxSteps:=3000000 }) (disch:=omega) only [go_sem]))
end Go.Proofs.YtcgagiimlkjcpaaGreatDoor
