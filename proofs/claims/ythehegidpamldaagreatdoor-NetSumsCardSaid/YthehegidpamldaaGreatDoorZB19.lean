/- augurref.RowOf, by the abstract machine. Conditions: none. -/
import Derived.Test.YthehegidpamldaaGreatDoorZB18
import Derived.Test.YthehegidpamldaaGreatDoorZB09
import Derived.Test.YthehegidpamldaaGreatDoorZB08
import Derived.Shelf.Sort.Plain
import Derived.Test.YthehegidpamldaaGreatDoorZB14
set_option linter.unusedVariables false
set_option linter.unusedSimpArgs false
namespace Go.Proofs.YthehegidpamldaaGreatDoor
open Go Go.RowKit
def rowX (w:List Int) (k i:Nat):Nat:=if w=[] then 1 else pickN (w.getD ((k+i)%w.length) 0) 7
def rowL (w:List Int) (k n:Nat):List Nat:=(List.range n).map (rowX w k)
theorem rowX_lt (w:List Int) (k i:Nat):rowX w k i<7:=by
 unfold rowX pickN
 split
 ·omega
 ·exact Nat.mod_lt _ (by omega)
theorem rowL_succ (w:List Int) (k n:Nat):rowL w k (n+1)=rowL w k n++[rowX w k n]:=by simp [rowL,List.range_succ]
theorem rowL_len (w:List Int) (k n:Nat):(rowL w k n).length=n:=by simp [rowL]
theorem rowL_sum (w:List Int) (k n:Nat):(rowL w k n).sum≤n*6:=by
 induction n with
 | zero=>simp [rowL]
 | succ n ih=>rw [rowL_succ,List.sum_append];have:=rowX_lt w k n;simp;omega
def rowS (w:List Int) (k n:Nat):Nat:=if (rowL w k n).sum=0 then 1 else (rowL w k n).sum
def rowM (w:List Int) (k n:Nat):List Nat:=if (rowL w k n).sum=0 then (rowL w k n).set 0 1 else rowL w k n
def rowOf (w:List Int) (k n:Nat):List Rat:=(rowM w k n).map fun x:Nat=>((x:Int):Rat)/((rowS w k n:Int):Rat)
abbrev nI (n:Nat):FV:=I (n:Int)
theorem i64_get {w:List Int} (hw:∀x∈w,-9223372036854775808≤x∧x≤9223372036854775807) {i:Nat} (h:i<w.length):-9223372036854775808≤w[i]∧w[i]≤9223372036854775807:=hw _ (List.getElem_mem h)
theorem rowM_len (w:List Int) (k n:Nat):(rowM w k n).length=n:=by unfold rowM;split<;>simp [rowL_len]
theorem rowM_lt (w:List Int) (k n:Nat):∀x∈rowM w k n,x<7:=by
 have h:∀x∈rowL w k n,x<7:=fun x hx=>by
  obtain ⟨i,_,rfl⟩:=List.mem_map.1 hx
  exact rowX_lt w k i
 intro x hx
 unfold rowM at hx
 split at hx
 ·rcases List.mem_or_eq_of_mem_set hx with hx|rfl
  ·exact h x hx
  ·omega
 ·exact h x hx
set_option maxRecDepth 100000 in
set_option maxHeartbeats 2000000 in
theorem rowOf_good (w:List Int) (k n:Nat) (hw:∀x∈w,-9223372036854775808≤x∧x≤9223372036854775807) (hk:k≤1000000000) (h1:1≤n) (hn:n≤1000) (hwl:w.length≤140737488355328):Good Tryz.prog 62 [ints w,I k,I n] (frs (rowOf w k n)):=by
 have hsn:=rowL_sum w k n
 refine good_of Tryz.func62 rfl (by kernel_rfl) fun X hO hrd=>?_;rw [Tryz.ntmps62,Tryz.results62];simp only [ast0,List.map_cons,List.map_nil,List.length_cons,List.length_nil,Nat.reduceAdd,Nat.reduceSub,List.replicate_succ,List.replicate_zero,List.cons_append,List.nil_append]
 (repeat (with_reducible first|refine W_seq fun K hK=>?_|refine J_block ?_|refine J_region ?_ |(refine Kont.go (by assumption) ?_)|(simp (config:={ maxSteps:=3000000 }) (disch:=omega) only [go_sem])))
 refine J_reserve ?_
 refine W_loop [7,8,9,10,15,16,17,18,19,20,21,22,23,24,25,26,27,28,29,30,31,32,33,34,35,36,37,38,39] (fun x:Nat=>[(9,.f (I x)),(8,.f (I ((rowL w k x).sum:Nat))),(7,sl 0 1 ((rowL w k x).map nI))]) (fun x:Nat=>[ob 3 1 ((rowL w k x).map nI)]) (fun x:Nat=>x≤n) (fun x:Nat=>n-x) (0) (Nat.zero_le _) (by refine weak_of ?_ ?_<;>simp (disch:=omega) only [go_sem]<;>first|rfl|exact ⟨rfl,rfl⟩|exact Or.inl rfl|exact ⟨Or.inl rfl,Or.inl rfl⟩|trivial|assumption|omega|(symm;assumption)|((repeat' apply And.intro)<;>first|rfl|omega|trivial|exact .inl rfl|exact .inr ⟨rfl,rfl⟩|exact .inr rfl|(right;symm;assumption)|(symm;assumption)|assumption)) ?_
 rintro i hi
 simp only [go_sem]
 (repeat (with_reducible first|refine W_seq fun K hK=>?_|refine J_region ?_ |refine J_c ?_|(refine Kont.go (by assumption) ?_)|(simp (config:={ maxSteps:=3000000 }) (disch:=omega) only [go_sem])))
 refine Jc_if (fun hlt=>?_) (fun hlt=>?_)<;>try simp only [decide_eq_true_eq,decide_eq_false_iff_not] at hlt
 ·have hsum:=rowL_sum w k i
  have hsi:=rowL_sum w k (i+1)
  have hx7:=rowX_lt w k i
  have hs2:(rowL w k (i+1)).sum=(rowL w k i).sum+rowX w k i:=by rw [rowL_succ,List.sum_append];simp
  have hmap:(rowL w k i).map nI++[I (rowX w k i:Nat)]=(rowL w k (i+1)).map nI:=by rw [rowL_succ,List.map_append];rfl
  by_cases hw0:w=[]
  ·have hx1:rowX w k i=1:=by unfold rowX;rw [if_pos hw0]
   rw [hx1] at hs2 hmap
   have hwl0:w.length=0:=by rw [hw0];rfl
   have hmap1:(rowL w k i).map nI++[.v (.int .i64 1)]=(rowL w k (i+1)).map nI:=hmap
   (repeat (first|(with_reducible first|refine W_seq fun K hK=>?_|refine J_block ?_|refine J_skip ?_|refine J_region ?_ |refine aApp_sl ?_|refine J_c ?_|refine Jc_false ?_|(refine Kont.go (by assumption) ?_)|(simp (config:={ maxSteps:=3000000 }) (disch:=omega) only [go_sem,Nat.reduceEqDiff,↓reduceIte,Nat.reduceLeDiff,List.length_map,rowL_len,hwl0,hmap1]))|refine And.intro (by omega) ?_))
   refine ⟨i+1,by omega,by omega,weak_of ?_ ?_⟩<;>(try simp (disch:=omega) only [go_sem])<;>(try first|done|omega|rfl|exact ⟨rfl,rfl⟩|trivial)
  ·have hwp:0<w.length:=List.length_pos_iff.2 hw0
   have hm:(k+i)%w.length<w.length:=Nat.mod_lt _ hwp
   have hx:=i64_get hw hm
   have hxx:rowX w k i=pickN w[(k+i)%w.length] 7:=by unfold rowX;rw [if_neg hw0,lget_lt w 0 hm]
   have hmod:((k:Int)+(i:Int)).tmod (w.length:Int)=(((k+i)%w.length:Nat):Int):=tmod_nat (by omega)
   rw [hxx] at hs2 hmap hx7
   (repeat (first|(with_reducible first|refine W_seq fun K hK=>?_|refine J_block ?_|refine J_skip ?_|refine J_region ?_ |refine aApp_sl ?_|refine J_c ?_|refine Jc_true ?_|(refine Kont.go (by assumption) ?_)|(simp (config:={ maxSteps:=3000000 }) (disch:=omega) only [go_sem,Nat.reduceEqDiff,↓reduceIte,Nat.reduceLeDiff,Int.reduceToNat,List.length_map,rowL_len,hwp,hmod,map_get I w hm,hmap]))|refine call_f (pickI _ _ (by omega) (by omega) (by omega) (by omega)) rfl ?_|refine And.intro (by omega) ?_))
   refine ⟨i+1,by omega,by omega,weak_of ?_ ?_⟩<;>(try simp (disch:=omega) only [go_sem])<;>(try first|done|omega|rfl|exact ⟨rfl,rfl⟩|trivial)
 ·have he:i=n:=by omega
  subst he
  have hlen:((rowL w k i).map nI)≠[]:=fun h=>by have:=congrArg List.length h;simp [rowL_len] at this;omega
  have hlen2:((rowM w k i).map nI)≠[]:=fun h=>by have:=congrArg List.length h;simp [rowM_len] at this;omega
  (repeat (with_reducible first|refine W_seq fun K hK=>?_|refine J_exit ?_|refine J_region ?_ |refine J_c ?_|(refine Kont.go (by assumption) ?_)|(simp (config:={ maxSteps:=3000000 }) (disch:=omega) only [go_sem,↓reduceIte])))
  refine Jc_join (by assumption) [7,8,40,41,42,43] (fun z:Unit=>[(7,sl 0 1 ((rowM w k i).map nI)),(8,.f (I (rowS w k i)))]) (fun z:Unit=>[ob 3 1 ((rowM w k i).map nI)]) (fun z:Unit=>True) ?_ ?_
  ·by_cases hz:(rowL w k i).sum=0
   ·have hM:rowM w k i=(rowL w k i).set 0 1:=by unfold rowM;rw [if_pos hz]
    have hS:rowS w k i=1:=by unfold rowS;rw [if_pos hz]
    have h0:=mm_get nI (rowL w k i) (i:=0) (by rw [rowL_len];omega)
    (repeat (first|(with_reducible first|refine W_seq fun K hK=>?_|refine J_region ?_ |refine Jc_true ?_|(refine Kont.go (by assumption) ?_)|(simp (config:={ maxSteps:=3000000 }) (disch:=omega) only [go_sem,↓reduceIte,Int.reduceLE,hz,List.length_map,rowL_len,h0]))|refine And.intro (by omega) ?_))
    refine weak_of ?_ ?_<;>simp only [go_sem]
    ·rw [sl_pos hlen,sl_pos hlen2];simp [rowL_len,rowM_len,hS]
    ·rw [ob_pos hlen2,hM];right;simp [List.map_set];rfl
   ·have hM:rowM w k i=rowL w k i:=by unfold rowM;rw [if_neg hz]
    have hS:rowS w k i=(rowL w k i).sum:=by unfold rowS;rw [if_neg hz]
    (repeat (with_reducible first|refine J_skip ?_|refine Jc_false ?_|(simp (config:={ maxSteps:=3000000 }) (disch:=omega) only [go_sem,hz])))
    rw [hM,hS]
    refine weak_of ?_ ?_<;>simp only [go_sem]
  ·rintro _ _
   simp only [go_sem]
   have hS1:1≤rowS w k i:=by unfold rowS;split<;>omega
   have hS2:rowS w k i≤6000:=by unfold rowS;split<;>omega
   have hRl:(rowOf w k i).length=i:=by simp [rowOf,rowM_len]
   (repeat (with_reducible first|refine W_seq fun K hK=>?_|refine J_block ?_|refine J_region ?_ |(refine Kont.go (by assumption) ?_)|(simp (config:={ maxSteps:=3000000 }) (disch:=omega) only [go_sem])))
   refine J_reserve ?_
   refine W_loop [11,12,13,14,44,45,46,47,48,49,50,51,52,53,54,55,56,57,58,59,60,61,62,63] (fun x:Nat=>[(12,.f (I x)),(11,sl 1 3 (((rowOf w k i).take x).map fr))]) (fun x:Nat=>[ob 3 1 ((rowM w k i).map nI),ob 39 3 (((rowOf w k i).take x).map fr)]) (fun x:Nat=>x≤i) (fun x:Nat=>i-x) (0) (Nat.zero_le _) (by refine weak_of ?_ ?_<;>simp (disch:=omega) only [go_sem,Nat.reduceAdd]<;>first|rfl|exact ⟨rfl,rfl⟩|exact Or.inl rfl|exact ⟨Or.inl rfl,Or.inl rfl⟩|trivial|assumption|omega|(symm;assumption)|((repeat' apply And.intro)<;>first|rfl|omega|trivial|exact .inl rfl|exact .inr ⟨rfl,rfl⟩|exact .inr rfl|(right;symm;assumption)|(symm;assumption)|assumption)) ?_
   rintro j hj
   simp only [go_sem]
   (repeat (with_reducible first|refine W_seq fun K hK=>?_|refine J_region ?_ |refine J_c ?_|(refine Kont.go (by assumption) ?_)|(simp (config:={ maxSteps:=3000000 }) (disch:=omega) only [go_sem])))
   refine Jc_if (fun hlt2=>?_) (fun hlt2=>?_)<;>try simp only [decide_eq_true_eq,decide_eq_false_iff_not] at hlt2
   ·have hjm:j<(rowM w k i).length:=by rw [rowM_len];exact hlt2
    have hx7:=rowM_lt w k i _ (List.getElem_mem hjm)
    have hjr:j<(rowOf w k i).length:=by rw [hRl];exact hlt2
    have hrj:(rowOf w k i)[j]=(((rowM w k i)[j]:Int):Rat)/((rowS w k i:Int):Rat):=by simp [rowOf]
    (repeat (first|(with_reducible first|refine W_seq fun K hK=>?_|refine J_block ?_|refine J_skip ?_|refine J_region ?_ |(refine Kont.go (by assumption) ?_)|(simp (config:={ maxSteps:=3000000 }) (disch:=omega) only [go_sem,↓reduceIte,List.length_map,rowM_len,mm_get nI (rowM w k i) hjm,hlt2]))|refine call_f (rof_frac (by omega) (by omega)) rfl ?_|refine And.intro (by omega) ?_))
    refine call_f (rdiv_w (IsFr.int (by omega) (by omega)) (IsFr.int (by omega) (by omega)) (by omega) (by omega) (fun h=>by have:=Rat.intCast_eq_zero_iff.1 h;omega)) rfl ?_
    rw [←hrj]
    (repeat (first|(with_reducible first|refine J_region ?_ |refine aApp_sl ?_|(refine Kont.go (by assumption) ?_)|(simp (config:={ maxSteps:=3000000 }) (disch:=omega) only [go_sem,Nat.reduceEqDiff,↓reduceIte,Nat.reduceAdd,Nat.reduceLeDiff,List.length_map,List.length_take,tk_next fr (rowOf w k i) hjr]))|refine And.intro (by omega) ?_))
    refine ⟨j+1,by omega,by omega,weak_of ?_ ?_⟩<;>(try simp (disch:=omega) only [go_sem,Nat.reduceAdd])<;>(try first|done|omega|rfl|exact ⟨rfl,rfl⟩|trivial)
    done
   ·have he:j=i:=by omega
    subst he
    (repeat (with_reducible first|refine W_seq fun K hK=>?_|refine J_exit ?_|refine J_ret ?_|refine J_region ?_ |(refine Kont.go (by assumption) ?_)|(simp (config:={ maxSteps:=3000000 }) (disch:=omega) only [go_sem,↓reduceIte])))
    rw [tk_all fr _ (by omega)]
    exact Frz.sl rfl
theorem rowOf_len (w:List Int) (k n:Nat):(rowOf w k n).length=n:=by simp [rowOf,rowM_len]
theorem rowS_pos (w:List Int) (k n:Nat):1≤rowS w k n:=by unfold rowS;split<;>omega
theorem rowS_le (w:List Int) (k n:Nat) (h:1≤n):rowS w k n≤n*6:=by have:=rowL_sum w k n;unfold rowS;split<;>omega
theorem rowM_sum (w:List Int) (k n:Nat) (h:1≤n):(rowM w k n).sum=rowS w k n:=by
 unfold rowM rowS
 split
 ·rename_i h0
  have e:∀l:List Nat,l≠[]→l.sum=0→(l.set 0 1).sum=1:=fun l hl hall=>by
   cases l with
   | nil=>exact absurd rfl hl
   | cons a l=>simp at hall ⊢;exact hall.2
  exact e _ (fun hh=>by have:=congrArg List.length hh;rw [rowL_len] at this;simp at this;omega) h0
 ·rfl
end Go.Proofs.YthehegidpamldaaGreatDoor
set_option linter.unusedVariables false
set_option linter.unusedSimpArgs false
namespace Go.Proofs.YthehegidpamldaaGreatDoor
open Go Go.RowKit
abbrev qN (n:Nat):Rat:=((n:Int):Rat)
theorem qN_add (a b:Nat):qN (a+b)=qN a+qN b:=by unfold qN;rw [Int.natCast_add,Rat.intCast_add]
def cnt (s:Nat→Nat) (k j:Nat):Nat:=min k (s (j+1))-min k (s j)
end Go.Proofs.YthehegidpamldaaGreatDoor
set_option linter.unusedVariables false
set_option linter.unusedSimpArgs false
namespace Go.Proofs.YthehegidpamldaaGreatDoor
open Go Go.RowKit
theorem qN_nonneg (n:Nat):0≤qN n:=by unfold qN;exact Rat.intCast_nonneg.2 (by omega)
theorem qN_pos {n:Nat} (h:0<n):0<qN n:=by unfold qN;exact Rat.intCast_pos.2 (by omega)
theorem qN_mk (a b:Nat):qN a/qN b=mkRat (a:Int) b:=by rw [Rat.mkRat_eq_div];rfl
theorem sumTo_div (L:List Nat) (S:Rat) (i:Nat) (h:i≤L.length):sumTo (L.map fun x:Nat=>qN x/S) i=qN (L.take i).sum/S:=by
 induction i with
 | zero=>show 0=_;rw [Rat.div_def];simp [qN]
 | succ i ih =>
  show sumTo _ i+(L.map _).getD i 0=_
  rw [ih (by omega),lget_lt _ 0 (by simp;omega),List.getElem_map,List.take_add_one,List.getElem?_eq_getElem (by omega),List.sum_append]
  simp only [Option.toList_some,List.sum_cons,List.sum_nil,Nat.add_zero]
  rw [qN_add,Rat.div_def,Rat.div_def,Rat.div_def,Rat.add_mul]
section
variable (w : List Int) (k n : Nat)
theorem rowOf_eq:rowOf w k n=(rowM w k n).map fun x:Nat=>qN x/qN (rowS w k n):=rfl
theorem rowOf_nonneg:∀q∈rowOf w k n,0≤q:=fun q hq=>by
 obtain ⟨x,_,rfl⟩:=List.mem_map.1 hq
 exact Rat.mul_nonneg (qN_nonneg x) (Rat.le_of_lt (Rat.inv_pos.2 (qN_pos (rowS_pos w k n))))
theorem rowOf_sum (h:1≤n):sumR (rowOf w k n)=1:=by
 unfold sumR
 rw [rowOf_eq,sumTo_div _ _ _ (by simp),List.take_of_length_le (by simp),rowM_sum w k n h,Rat.div_def]
 exact Rat.mul_inv_cancel _ (fun e=>by have:=qN_pos (rowS_pos w k n);rw [e] at this;exact Rat.lt_irrefl this)
theorem rowOf_chances (h:1≤n):chancesB (rowOf w k n)=true:=decide_eq_true ⟨rowOf_nonneg w k n,rowOf_sum w k n h⟩
theorem rowOf_row (h:1≤n) (hn:n≤1000):Row 8 (rowOf w k n):=fun q hq=>by
 obtain ⟨x,hx,rfl⟩:=List.mem_map.1 hq
 show Fz (qN x/qN (rowS w k n)) 8
 rw [qN_mk]
 have h1:=rowM_lt w k n x hx
 have h2:=rowS_le w k n h
 have e:(256:Nat)^8=18446744073709551616:=by decide
 exact Fz.mk (by rw [e];omega) (by rw [e];omega) (by omega)
end
end Go.Proofs.YthehegidpamldaaGreatDoor
set_option linter.unusedVariables false
set_option linter.unusedSimpArgs false
namespace Go.Proofs.YthehegidpamldaaGreatDoor
open Go Go.RowKit
theorem all_len:∀{n:Nat} {l:List Nat},(∀v,v<n→v∈l)→n≤l.length:=by
 intro n
 induction n with
 | zero=>intro l _;exact Nat.zero_le _
 | succ n ih =>
  intro l h
  have h1:=ih (l:=l.erase n) fun v hv=>(List.mem_erase_of_ne (by omega)).2 (h v (by omega))
  have hm:=h n (by omega)
  have h2:=List.length_pos_of_mem hm
  rw [List.length_erase_of_mem hm] at h1
  omega
section
variable {P : List Nat} {n : Nat} {rk : Nat → Nat}
theorem free_some (hP:∀u v,paO P u v=true→u<n∧v<n) (hr:∀u v,paO P u v=true→rk u<rk v) {done:List Nat}:∀(r v:Nat),v<n→v∉done→rk v≤r→∃w,w<n∧freB P n done w=true:=by
 intro r
 induction r with
 | zero =>
  intro v hv hd h0
  exact ⟨v,hv,(freB_iff hP).2 ⟨hd,fun u hu=>absurd (hr u v hu) (by omega)⟩⟩
 | succ r ih =>
  intro v hv hd h0
  by_cases hf:freB P n done v=true
  ·exact ⟨v,hv,hf⟩
  ·have:∃u,paO P u v=true∧u∉done:=by
    refine Classical.byContradiction fun hno=>hf ((freB_iff hP).2 ⟨hd,fun u hu=>?_⟩)
    exact Classical.byContradiction fun hu2=>hno ⟨u,hu,hu2⟩
   obtain ⟨u,hu,hud⟩:=this
   exact ih u (hP u v hu).1 hud (by have:=hr u v hu;omega)
theorem ordN_some (hP:∀u v,paO P u v=true→u<n∧v<n) (hr:∀u v,paO P u v=true→rk u<rk v):∀(k:Nat) {done:List Nat},done.length+k≤n→OrdI P n done→(ordN P n k done).isSome=true:=by
 intro k
 induction k with
 | zero=>intro done _ _;rfl
 | succ k ih =>
  intro done hl hi
  have hex:∃v,v<n∧v∉done:=by
   refine Classical.byContradiction fun hno=>?_
   have:=all_len (n:=n) (l:=done) fun v hv=>Classical.byContradiction fun h=>hno ⟨v,hv,h⟩
   omega
  obtain ⟨v,hv,hd⟩:=hex
  obtain ⟨w,hw,hf⟩:=free_some hP hr (rk v) v hv hd (Nat.le_refl _)
  cases hn:nxtV P n done with
  | none =>
   unfold nxtV at hn
   have:=List.find?_eq_none.1 hn w (List.mem_range.2 hw)
   exact absurd hf this
  | some x =>
   show (match nxtV P n done with|none=>none|some v=>ordN P n k (done++[v])).isSome=true
   rw [hn]
   exact ih (by rw [List.length_append];simp;omega) (hi.next hP hn)
end
theorem ordE_ok {Q:Nat→List Nat} {n:Nat} {rk:Nat→Nat} (h1:1≤n) (h8:n≤8) (hs:∀v,v<n→(Q v).Pairwise (·< ·)) (hlt:∀v,v<n→∀u∈Q v,u<n) (hr:∀v,v<n→∀u∈Q v,rk u<rk v):ordE ((List.range n).map fun v=>(Q v).map Int.ofNat)=0:=by
 obtain ⟨L,hL⟩:∃L,L=(List.range n).map fun v=>(Q v).map Int.ofNat:=⟨_,rfl⟩
 have hLl:L.length=n:=by rw [hL];simp
 have hLg:∀v,v<n→L.getD v []=(Q v).map Int.ofNat:=fun v hv=>by
  rw [lget_lt L [] (by omega)];simp [hL]
 have hris:∀v,v<n→risB n ((Q v).map Int.ofNat)=true:=fun v hv=>pwT.2 ⟨by
  rw [List.pairwise_map]
  exact List.Pairwise.imp (fun {a b} hab=>by show (a:Int)<(b:Int);omega) (hs v hv),fun x hx=>by
  obtain ⟨u,hu,rfl⟩:=List.mem_map.1 hx
  have:=hlt v hv u hu
  exact ⟨by show (0:Int)≤(u:Int);omega,by show (u:Int)<(n:Int);omega⟩⟩
 have hset:∀v u,v<n→((setI ((Q v).map Int.ofNat)).testBit u=true↔u∈Q v):=fun v u hv=>by
  rw [setI_bit,List.any_eq_true]
  constructor
  ·rintro ⟨x,hx,he⟩
   obtain ⟨w,hw,rfl⟩:=List.mem_map.1 hx
   have:w=u:=of_decide_eq_true he
   rwa [this] at hw
  ·intro hu
   exact ⟨(u:Int),List.mem_map.2 ⟨u,hu,rfl⟩,decide_eq_true rfl⟩
 have hrd:∀v,v<n→readS n ((Q v).map Int.ofNat)=setI ((Q v).map Int.ofNat):=fun v hv=>by unfold readS;rw [if_pos (hris v hv)]
 have hb:listsB L=true:=by
  refine listsB_iff.2 ⟨by omega,fun v hv=>?_⟩
  rw [hLl] at hv
  unfold nodeB
  rw [hLl,hLg v hv,hris v hv,hrd v hv,Bool.true_and,Bool.not_eq_true']
  cases ht:(setI ((Q v).map Int.ofNat)).testBit v with
  | false=>rfl
  | true=>exact absurd (hr v hv v ((hset v v hv).1 ht)) (Nat.lt_irrefl _)
 rw [←hL]
 have hg:=GP.of hb
 have hpa:∀u v,paO (setsOf L) u v=true→u<n∧v<n:=fun u v h=>by have:=hg.pa u v h;rw [hLl] at this;exact this
 have hso:=ordN_some (P:=setsOf L) (n:=n) (rk:=rk) hpa (fun u v h=>by
  have hv:=(hpa u v h).2
  unfold paO at h
  rw [setsOf_get (by omega),←lget_lt L [] (by omega),hLl,hLg v hv,hrd v hv] at h
  exact hr v hv u ((hset v u hv).1 h)) n (done:=[]) (by simp) OrdI.nil
 have h0:=(ok_ord (L:=L) hb (o:=ordN (setsOf L) L.length L.length []) rfl).2
 rw [h0,hLl,if_pos hso]
def mdN (sz:List Int):Nat:=if sz.length<1 then 1 else if 6<sz.length then 6 else sz.length
def mdK (sz:List Int) (v:Nat):Nat:=if v<sz.length then [2,2,3,2,1].getD (pickN (sz.getD v 0) 5) 0 else 2
def vlB (k:Nat):List ByteArray:=(List.range k).map (nmd 118)
def mdV (sz:List Int) (n:Nat):List VarD:=(List.range n).map fun v=>(nmd 110 v,vlB (mdK sz v))
def mdZ (sz:List Int) (n:Nat):List Nat:=(List.range n).map (mdK sz)
def edB (E:List Int) (e:Nat):Bool:=decide (0<E.length)&&decide (pickN (E.getD (e%E.length) 0) 2=0)
def skB (back:Bool) (v u:Nat) (l:List Nat):Bool:=(back&&decide (u≤v))||((!back&&decide (v≤u))||decide (l.length=3))
def edS (E:List Int) (back:Bool) (v:Nat):Nat→Nat × List Nat→Nat × List Nat
 | 0,s=>s
 | u+1,s=>if skB back v u (edS E back v u s).2=true then edS E back v u s else ((edS E back v u s).1+1,if edB E (edS E back v u s).1=true then (edS E back v u s).2++[u] else (edS E back v u s).2)
def mdE (E:List Int) (back:Bool) (n:Nat):Nat→Nat
 | 0=>0
 | v+1=>(edS E back v n (mdE E back n v,[])).1
def mdP (E:List Int) (back:Bool) (n v:Nat):List Nat:=(edS E back v n (mdE E back n v,[])).2
def mdA (Z:List Nat) (Q:Nat→List Nat):Nat→Nat
 | 0=>0
 | v+1=>mdA Z Q v+cntS (szT Z) (Q v)*szT Z v
def mdL (W:List Int) (a s:Nat):Nat→List Rat
 | 0=>[]
 | j+1=>mdL W a s j++rowOf W (a+j*s) s
def mdR (W:List Int) (Z:List Nat) (Q:Nat→List Nat) (v:Nat):List Rat:=mdL W (mdA Z Q v) (szT Z v) (cntS (szT Z) (Q v))
section
variable {sz E W : List Int} {back : Bool} {n v u e m : Nat}
theorem mdN_le:1≤mdN sz∧mdN sz≤6:=by
 unfold mdN
 split
 ·omega
 ·split<;>omega
theorem mdK_le:1≤mdK sz v∧mdK sz v≤3:=by
 unfold mdK
 split
 ·have h:∀i,i<5→1≤[2,2,3,2,1].getD i 0∧[2,2,3,2,1].getD i 0≤3:=by decide
  exact h _ (by unfold pickN;exact Nat.mod_lt _ (by omega))
 ·omega
theorem mdZ_len:(mdZ sz n).length=n:=by simp [mdZ]
theorem mdZ_get (h:v<n):szT (mdZ sz n) v=mdK sz v:=by
 unfold szT;rw [lget_lt _ 0 (by rw [mdZ_len];exact h)];simp [mdZ]
theorem vlB_len {k:Nat}:(vlB k).length=k:=by simp [vlB]
theorem szN_mdV:szN (mdV sz n)=mdZ sz n:=by
 unfold szN mdV mdZ
 rw [List.map_map]
 exact List.map_congr_left fun v _=>vlB_len
theorem mdV_len:(mdV sz n).length=n:=by simp [mdV]
theorem mdV_get (h:v<n):(mdV sz n).getD v (⟨#[]⟩,[])=(nmd 110 v,vlB (mdK sz v)):=by
 rw [lget_lt _ _ (by rw [mdV_len];exact h)];simp [mdV]
theorem edS_spec:∀{m:Nat} {s:Nat × List Nat},(∀u∈s.2,False)→(∀u∈(edS E back v m s).2,u<m∧if back=true then v<u else u<v)∧(edS E back v m s).2.Pairwise (·< ·)∧(edS E back v m s).2.length≤3∧(edS E back v m s).1≤s.1+m:=by
 intro m s hs
 have h0:s.2=[]:=List.eq_nil_iff_forall_not_mem.2 fun u hu=>hs u hu
 induction m with
 | zero =>
  show (∀u∈s.2,_)∧s.2.Pairwise _∧s.2.length≤3∧s.1≤s.1+0
  rw [h0]
  refine ⟨?_,List.Pairwise.nil,by simp,Nat.le_refl _⟩
  intro u hu
  cases hu
 | succ m ih =>
  obtain ⟨h1,h2,h3,h4⟩:=ih
  unfold edS
  split
  ·exact ⟨fun u hu=>⟨by have:=(h1 u hu).1;omega,(h1 u hu).2⟩,h2,h3,by omega⟩
  ·rename_i hsk
   rw [Bool.not_eq_true] at hsk
   unfold skB at hsk
   rw [Bool.or_eq_false_iff,Bool.or_eq_false_iff,decide_eq_false_iff_not] at hsk
   obtain ⟨k1,k2,k3⟩:=hsk
   have hside:if back=true then v<m else m<v:=by
    cases back with
    | true=>rw [if_pos rfl];simpa using k1
    | false=>rw [if_neg (by decide)];simpa using k2
   simp only
   refine ⟨fun u hu=>?_,?_,?_,by omega⟩
   ·split at hu
    ·rcases List.mem_append.1 hu with hu|hu
     ·exact ⟨by have:=(h1 u hu).1;omega,(h1 u hu).2⟩
     ·rw [List.mem_singleton.1 hu];exact ⟨by omega,hside⟩
    ·exact ⟨by have:=(h1 u hu).1;omega,(h1 u hu).2⟩
   ·split
    ·refine List.pairwise_append.2 ⟨h2,by simp,fun a ha b hb=>?_⟩
     rw [List.mem_singleton.1 hb];exact (h1 a ha).1
    ·exact h2
   ·split
    ·rw [List.length_append];simp;omega
    ·exact h3
theorem mdP_spec:(∀u∈mdP E back n v,u<n∧if back=true then v<u else u<v)∧(mdP E back n v).Pairwise (·< ·)∧(mdP E back n v).length≤3 :=
 have h:=edS_spec (E:=E) (back:=back) (v:=v) (m:=n) (s:=(mdE E back n v,[])) (fun u hu=>by cases hu)
 ⟨h.1,h.2.1,h.2.2.1⟩
theorem mdE_le:∀{v:Nat},mdE E back n v≤v*n:=by
 intro v
 induction v with
 | zero=>exact Nat.zero_le _
 | succ v ih =>
  have h:=(edS_spec (E:=E) (back:=back) (v:=v) (m:=n) (s:=(mdE E back n v,[])) (fun u hu=>by cases hu)).2.2.2
  show (edS E back v n (mdE E back n v,[])).1≤_
  simp only at h
  rw [Nat.add_mul];omega
theorem md_okT (h1:1≤n) (h6:n≤6):OkT (mdZ sz n) (mdP E back n v) :=
 ⟨by rw [mdZ_len];exact h1,by rw [mdZ_len];omega,fun k hk=>by obtain ⟨u,_,rfl⟩:=List.mem_map.1 hk;exact (mdK_le (sz:=sz)).1,fun k hk=>by obtain ⟨u,_,rfl⟩:=List.mem_map.1 hk;have:=(mdK_le (sz:=sz) (v:=u)).2;omega,mdP_spec.2.1,fun u hu=>by rw [mdZ_len];exact (mdP_spec.1 u hu).1⟩
theorem mdA_le (h1:1≤n) (h6:n≤6):∀{v:Nat},v≤n→mdA (mdZ sz n) (mdP E back n) v≤v*262144:=by
 intro v
 induction v with
 | zero=>intro _;exact Nat.zero_le _
 | succ v ih =>
  intro hv
  have hT:=md_okT (sz:=sz) (E:=E) (back:=back) (v:=v) h1 h6
  have hc:=hT.cnt
  have hs:=hT.sz4 (v:=v) (by rw [mdZ_len];omega)
  have:=Nat.mul_le_mul hc hs
  have:=ih (by omega)
  show mdA _ _ v+_≤_
  omega
theorem mdL_len {a s j:Nat}:(mdL W a s j).length=j*s:=by
 induction j with
 | zero=>rw [Nat.zero_mul];rfl
 | succ j ih=>show (mdL W a s j++_).length=_;rw [List.length_append,ih,rowOf_len,Nat.add_mul,Nat.one_mul]
theorem mdL_row {a s c j:Nat} (h:j<c):rwQ (mdL W a s c) s j=rowOf W (a+j*s) s:=by
 unfold rwQ
 induction c with
 | zero=>omega
 | succ c ih =>
  show ((mdL W a s c++rowOf W (a+c*s) s).drop (j*s)).take s=_
  by_cases e:j=c
  ·subst e
   rw [List.drop_append,List.drop_of_length_le (by rw [mdL_len];exact Nat.le_refl _),mdL_len,Nat.sub_self,List.drop_zero,List.nil_append,List.take_of_length_le (by rw [rowOf_len];exact Nat.le_refl _)]
  ·have hjc:j<c:=by omega
   have h2:=Nat.mul_le_mul_right s (show j+1≤c by omega)
   rw [Nat.add_mul,Nat.one_mul] at h2
   rw [List.drop_append_of_le_length (by rw [mdL_len];omega),List.take_append_of_le_length (by rw [List.length_drop,mdL_len];omega)]
   exact ih hjc
theorem mdL_mem {a s c:Nat}:∀q∈mdL W a s c,∃k,q∈rowOf W k s:=by
 induction c with
 | zero=>intro q hq;cases hq
 | succ c ih =>
  intro q hq
  rcases List.mem_append.1 hq with hq|hq
  ·exact ih q hq
  ·exact ⟨_,hq⟩
theorem nm_ok:∀n,n≤6→namesE ((List.range n).map (nmd 110))=0:=by decide +kernel
theorem vl_ok:∀k,k≤3→namesE (vlB k)=0:=by decide +kernel
def mdI (E:List Int) (back:Bool) (n:Nat):List (List Int):=(List.range n).map fun v=>(mdP E back n v).map Int.ofNat
def mdM (sz E W:List Int) (back:Bool) (n:Nat):List (List Rat):=(List.range n).map (mdR W (mdZ sz n) (mdP E back n))
theorem paN_md (h:v<n):paN (mdI E back n) v=mdP E back n v:=by
 unfold paN mdI
 rw [lget_lt _ [] (by simpa using h)]
 simp only [List.getElem_map,List.getElem_range,List.map_map]
 conv=>rhs;rw [←List.map_id (mdP E back n v)]
 exact List.map_congr_left fun x _=>rfl
theorem mdM_get (h:v<n):(mdM sz E W back n).getD v []=mdR W (mdZ sz n) (mdP E back n) v:=by
 unfold mdM;rw [lget_lt _ [] (by simpa using h)];simp
theorem md_netE (h1:1≤n) (h6:n≤6):netE (ordE (mdI E back n)) (mdV sz n) (mdI E back n) (mdM sz E W back n)=0:=by
 have hI:(mdI E back n).length=n:=by simp [mdI]
 have hM:(mdM sz E W back n).length=n:=by simp [mdM]
 have ho:ordE (mdI E back n)=0:=ordE_ok (rk:=fun v=>if back=true then n-v else v) h1 (by omega) (fun v _=>mdP_spec.2.1) (fun v _ u hu=>(mdP_spec.1 u hu).1) (fun v hv u hu=>by
  have:=mdP_spec.1 u hu
  cases back with
  | true=>rw [if_pos rfl] at this;simp only [if_true];omega
  | false=>rw [if_neg (by decide)] at this;simp only [Bool.false_eq_true,if_false];omega)
 have hn:namesE ((mdV sz n).map Prod.fst)=0:=by
  have e:(mdV sz n).map Prod.fst=(List.range n).map (nmd 110):=by unfold mdV;rw [List.map_map];rfl
  rw [e];exact nm_ok n h6
 have hv:fe (varsE (mdV sz n)) (mdV sz n).length=0:=fe_zero.2 fun i hi=>by
  rw [mdV_len] at hi
  unfold varsE
  rw [mdV_get hi]
  have hk:=mdK_le (sz:=sz) (v:=i)
  unfold varE
  rw [if_pos (by simp only [vlB_len];omega)]
  exact vl_ok _ hk.2
 have hr:fe (rowsE (mdV sz n) (mdI E back n) (mdM sz E W back n)) (mdV sz n).length=0:=fe_zero.2 fun i hi=>by
  rw [mdV_len] at hi
  unfold rowsE rowQ
  rw [paN_md hi,mdM_get hi,szN_mdV]
  unfold mdR
  rw [if_pos mdL_len,if_pos]
  refine List.all_eq_true.2 fun j hj=>?_
  rw [mdL_row (List.mem_range.1 hj)]
  refine rowOf_chances _ _ _ ?_
  rw [mdZ_get hi];exact (mdK_le (sz:=sz)).1
 unfold netE
 rw [if_pos ⟨by rw [hI,mdV_len],by rw [hM,mdV_len]⟩,if_pos ho,if_pos hn,if_pos hv,hr]
theorem md_row (hv:v<n):Row 8 (mdR W (mdZ sz n) (mdP E back n) v):=fun q hq=>by
 obtain ⟨k,hk⟩:=mdL_mem q hq
 have:=mdK_le (sz:=sz) (v:=v)
 rw [mdZ_get hv] at hk
 exact rowOf_row _ _ _ (by omega) (by omega) q hk
theorem md_ok (h1:1≤n) (h6:n≤6):NetOk 8 (mdV sz n) (mdI E back n) ((mdM sz E W back n).map frs) (mdM sz E W back n):=by
 refine ⟨by rw [mdV_len];omega,fun x hx=>?_,fun x hx=>?_,fun x hx s hs=>?_,⟨by simp [mdI];omega,fun l hl=>?_⟩,FrM.c fun r hr=>?_,by decide,by decide,fun r hr=>?_⟩
 ·obtain ⟨v,_,rfl⟩:=List.mem_map.1 hx
  have:(nmd 110 v).size=2:=rfl
  simp only [this];decide
 ·obtain ⟨v,_,rfl⟩:=List.mem_map.1 hx
  have:=mdK_le (sz:=sz) (v:=v)
  simp only [vlB_len];omega
 ·obtain ⟨v,_,rfl⟩:=List.mem_map.1 hx
  obtain ⟨k,_,rfl⟩:=List.mem_map.1 hs
  have:(nmd 118 k).size=2:=rfl
  rw [this];decide
 ·obtain ⟨v,_,rfl⟩:=List.mem_map.1 hl
  have h:=mdP_spec (E:=E) (back:=back) (n:=n) (v:=v)
  refine ⟨by rw [List.length_map];omega,fun x hx=>?_⟩
  obtain ⟨u,hu,rfl⟩:=List.mem_map.1 hx
  have:=(h.1 u hu).1
  exact ⟨by show _≤(u:Int);omega,by show (u:Int)≤_;omega⟩
 ·obtain ⟨v,hv,rfl⟩:=List.mem_map.1 hr
  exact md_row (List.mem_range.1 hv)
 ·obtain ⟨v,hv,rfl⟩:=List.mem_map.1 hr
  have hT:=md_okT (sz:=sz) (E:=E) (back:=back) (v:=v) h1 h6
  have hc:=hT.cnt
  have hs:=hT.sz4 (v:=v) (by rw [mdZ_len];exact List.mem_range.1 hv)
  have:=Nat.mul_le_mul hc hs
  unfold mdR
  rw [mdL_len];omega
end
end Go.Proofs.YthehegidpamldaaGreatDoor
set_option linter.unusedVariables false
set_option linter.unusedSimpArgs false
namespace Go.Proofs.YthehegidpamldaaGreatDoor
open Go Go.RowKit
def CellLe (c c':AV):Prop:=∀(w:World) (F:Nat→Prop) (loc:Nat→Nat × Nat) (N:Nat) (u:Value),Rep w F loc N c u→Rep w F loc N c' u
theorem CellLe.refl (c:AV):CellLe c c:=fun _ _ _ _ _ h=>h
theorem CellLe.nil (sz:Nat):CellLe (.f (.v (.slice none 0 0))) (.f (.fz sz [])):=fun w F loc N u h=>by
 cases h with
 | f _ _ h =>
  cases h with
  | v=>exact .f _ _ (.fz0 _ _ _ (by unfold maxLen;omega))
theorem J_wkO {X:Cx} {P:Program} {Q:Exit→AS→Prop} {s:AS} {c:Code} {r:Nat} {o o':AO} (hr:s.H[r]?=some (some o)) (he:o'.e=o.e) (hf:∀(j:Nat) c',(flat o'.es)[j]?=some c'→∃c,(flat o.es)[j]?=some c∧CellLe c c') (hu:Uni o'.sz o'.es) (h:J X P c Q ⟨s.t,s.H.set r (some o')⟩):J X P c Q s:=fun hk a w ⟨F,loc,R⟩=>by
 have hrl:=glt hr
 have hget:∀(q:Nat) p,(s.H.set r (some o'))[q]?=some (some p)→(q=r∧p=o')∨(q≠r∧s.H[q]?=some (some p)):=fun q p hq=>by
  by_cases e:q=r
  ·subst e;rw [List.getElem?_set_self hrl] at hq;cases hq;exact .inl ⟨rfl,rfl⟩
  ·rw [List.getElem?_set_ne (Ne.symm e)] at hq;exact .inr ⟨e,hq⟩
 have hany:∀(q:Nat) p,(s.H.set r (some o'))[q]?=some (some p)→∃p',s.H[q]?=some (some p'):=fun q p hq=>by
  rcases hget q p hq with ⟨rfl,_⟩|⟨_,h⟩
  ·exact ⟨o,hr⟩
  ·exact ⟨p,h⟩
 have hl:(s.H.set r (some o')).length=s.H.length:=List.length_set
 refine h hk a w ⟨F,loc,R.hF,R.hG,R.hN,R.below,R.defers,R.len,fun j x hj=>?_,fun q p hq=>?_,fun q p hq=>?_,fun q p hq=>?_,fun q q' p p' hq hq' e=>?_⟩
 ·show Rep w F loc (s.H.set r (some o')).length x _
  rw [hl];exact R.tmps j x hj
 ·show ObjAt w F loc (s.H.set r (some o')).length q p
  rw [hl]
  rcases hget q p hq with ⟨rfl,rfl⟩|⟨_,h⟩
  ·obtain ⟨_,vs,h1,h2,h3⟩:=R.obj q o hr
   refine ⟨hu,vs,by rw [he];exact h1,h2,fun j c hj=>?_⟩
   obtain ⟨c0,hc0,hle⟩:=hf j c hj
   obtain ⟨u,h4,h5⟩:=h3 j c0 hc0
   exact ⟨u,h4,hle _ _ _ _ _ h5⟩
  ·exact R.obj q p h
 ·obtain ⟨p',h'⟩:=hany q p hq;exact R.new q p' h'
 ·obtain ⟨p',h'⟩:=hany q p hq;exact R.nF q p' h'
 ·obtain ⟨p1,h1⟩:=hany q p hq;obtain ⟨p2,h2⟩:=hany q' p' hq';exact R.inj q q' p1 p2 h1 h2 e
end Go.Proofs.YthehegidpamldaaGreatDoor
set_option linter.unusedVariables false
set_option linter.unusedSimpArgs false
namespace Go.Proofs.YthehegidpamldaaGreatDoor
open Go Go.RowKit Go.Shelf
def sortRen:Go.Shelf.Ren:=⟨fun|189=>37|125=>79|257=>78|128=>120|129=>121|294=>111|295=>112|296=>113|297=>114|298=>115|299=>116|216=>117|300=>118|301=>119|328=>142|329=>143|330=>144|331=>145|332=>146|215=>147|343=>166|n=>n,fun|28=>31|3=>3|46=>111|0=>0|51=>145|53=>147|4=>4|183=>138|182=>137|131=>128|5=>5|9=>9|218=>164|222=>168|228=>189|229=>190|n=>n,fun n=>n⟩
theorem sortLays:Lays.n189 Tryz.prog sortRen where
 mixed:=by kernel_rfl
 f125:=Tryz.func79.trans (congrArg some (by kernel_rfl))
 f128:=Tryz.func120.trans (congrArg some (by kernel_rfl))
 f129:=Tryz.func121.trans (congrArg some (by kernel_rfl))
 f189:=Tryz.func37.trans (congrArg some (by kernel_rfl))
 f215:=Tryz.func147.trans (congrArg some (by kernel_rfl))
 f216:=Tryz.func117.trans (congrArg some (by kernel_rfl))
 f257:=Tryz.func78.trans (congrArg some (by kernel_rfl))
 f294:=Tryz.func111.trans (congrArg some (by kernel_rfl))
 f295:=Tryz.func112.trans (congrArg some (by kernel_rfl))
 f296:=Tryz.func113.trans (congrArg some (by kernel_rfl))
 f297:=Tryz.func114.trans (congrArg some (by kernel_rfl))
 f298:=Tryz.func115.trans (congrArg some (by kernel_rfl))
 f299:=Tryz.func116.trans (congrArg some (by kernel_rfl))
 f300:=Tryz.func118.trans (congrArg some (by kernel_rfl))
 f301:=Tryz.func119.trans (congrArg some (by kernel_rfl))
 f328:=Tryz.func142.trans (congrArg some (by kernel_rfl))
 f329:=Tryz.func143.trans (congrArg some (by kernel_rfl))
 f330:=Tryz.func144.trans (congrArg some (by kernel_rfl))
 f331:=Tryz.func145.trans (congrArg some (by kernel_rfl))
 f332:=Tryz.func146.trans (congrArg some (by kernel_rfl))
 f343:=Tryz.func166.trans (congrArg some (by kernel_rfl))
 t0:=Tryz.underlying0
 a0:=Tryz.isAgg0
 z0:=Tryz.sizeOf0
 v0:=Tryz.zeroValue0
 t3:=Tryz.underlying3
 a3:=Tryz.isAgg3
 z3:=Tryz.sizeOf3
 v3:=Tryz.zeroValue3
 t4:=Tryz.underlying4
 a4:=Tryz.isAgg4
 z4:=Tryz.sizeOf4
 v4:=Tryz.zeroValue4
 t5:=Tryz.underlying5
 a5:=Tryz.isAgg5
 z5:=Tryz.sizeOf5
 v5:=Tryz.zeroValue5
 t9:=Tryz.underlying9
 a9:=Tryz.isAgg9
 z9:=Tryz.sizeOf9
 v9:=Tryz.zeroValue9
 t28:=Tryz.underlying31
 a28:=Tryz.isAgg31
 z28:=Tryz.sizeOf31
 v28:=Tryz.zeroValue31
 t46:=Tryz.underlying111
 a46:=Tryz.isAgg111
 z46:=Tryz.sizeOf111
 v46:=Tryz.zeroValue111
 t51:=Tryz.underlying145
 a51:=Tryz.isAgg145
 z51:=Tryz.sizeOf145
 v51:=Tryz.zeroValue145
 t53:=Tryz.underlying147
 a53:=Tryz.isAgg147
 z53:=Tryz.sizeOf147
 v53:=Tryz.zeroValue147
 t131:=Tryz.underlying128
 a131:=Tryz.isAgg128
 z131:=Tryz.sizeOf128
 v131:=Tryz.zeroValue128
 t182:=Tryz.underlying137
 a182:=Tryz.isAgg137
 z182:=Tryz.sizeOf137
 v182:=Tryz.zeroValue137
 t183:=Tryz.underlying138
 a183:=Tryz.isAgg138
 z183:=Tryz.sizeOf138
 v183:=Tryz.zeroValue138
 t218:=Tryz.underlying164
 a218:=Tryz.isAgg164
 z218:=Tryz.sizeOf164
 v218:=Tryz.zeroValue164
 t222:=Tryz.underlying168
 a222:=Tryz.isAgg168
 z222:=Tryz.sizeOf168
 v222:=Tryz.zeroValue168
 t228:=Tryz.underlying189
 a228:=Tryz.isAgg189
 z228:=Tryz.sizeOf189
 v228:=Tryz.zeroValue189
 t229:=Tryz.underlying190
 a229:=Tryz.isAgg190
 z229:=Tryz.sizeOf190
 v229:=Tryz.zeroValue190
theorem flatF_I (zs:List Int):flatF (zs.map I)=zs.map I:=by
 unfold flatF
 induction zs with
 | nil=>rfl
 | cons z zs ih=>rw [List.map_cons,List.flatMap_cons,ih];rfl
theorem own_cellsI {X:Cx} {w:World} {F:Nat→Prop} {loc:Nat→Nat × Nat} {t:List AV} {a:Act} {H:AH} {q:Nat} {zs:List Int} {ys:Array Value} (R:RelF X F loc ⟨t,H⟩ a w) (hq:H[q]?=some (some ⟨3,1,(zs.map I).map .f⟩))
  (hys:[AV.own q 1 0 zs.length].length=ys.size∧∀(j:Nat) x,[AV.own q 1 0 zs.length][j]?=some x→Rep w F loc H.length x (ys.getD j undef)) :
  ∃cap vs,ys=#[.slice (some ⟨(loc q).1,0,none⟩) zs.length cap]∧zs.length≤cap∧cap≤maxLen∧(loc q).2=cap∧q<H.length∧w.heap[(loc q).1]?=some (.cells vs 3 (0,0))∧vs.size=cap∧∀j,j<zs.length→vs[j]?=some (.int .i64 (zs.getD j 0)):=by
 obtain ⟨hyl,hyr⟩:=hys
 obtain ⟨y,rfl⟩:=Array.size_eq_one_iff.1 hyl.symm
 have h0:Rep w F loc H.length (.own q 1 0 zs.length) y:=hyr 0 _ rfl
 obtain ⟨hu,vs,hv,hvs,hc⟩:=R.obj q _ hq
 cases h0 with
 | own _ _ _ _ cap hr hk hm hs =>
  refine ⟨cap,vs,rfl,hk,hm,by omega,hr,hv,by rw [hvs,hs];omega,fun j hj=>?_⟩
  obtain ⟨u,h1,h2⟩:=hc j (.f (I zs[j])) (by
   show (flat ((zs.map I).map AV.f))[j]?=_
   rw [flat_f,flatF_I,List.getElem?_map,List.getElem?_map,List.getElem?_eq_getElem hj];rfl)
  rw [v_rep h2] at h1
  rw [h1,lget_lt zs 0 hj]
theorem holds_own {w:World} {blk:Nat} {vs:Array Value} {zs:List Int} (hv:w.heap[blk]?=some (.cells vs 3 (0,0))) (hcell:∀j,j<zs.length→vs[j]?=some (.int .i64 (zs.getD j 0))):Go.Sort.Holds (Value.int .i64) w blk 0 zs.toArray:=by
 intro j hj
 have hj':j<zs.length:=by simpa using hj
 refine ⟨?_,by simp [World.frozen?,hv]⟩
 have:=hcell j hj'
 simp only [World.cell?,hv,Nat.zero_add]
 simp only [Option.isSome_none,Bool.false_eq_true,if_false]
 rw [this,lget_lt zs 0 hj']
 simp [hj']
theorem put_rel {X:Cx} {w:World} {F:Nat→Prop} {loc:Nat→Nat × Nat} {t:List AV} {a:Act} {H:AH} {q n:Nat} {os:Array Obj} {zs ts:List Int} {vs:Array Value} (R:RelF X F loc ⟨t,H⟩ a w) (hq:H[q]?=some (some ⟨3,1,(zs.map I).map .f⟩)) (hr:q<H.length)
  (hv:w.heap[(loc q).1]?=some (.cells vs 3 (0,0))) (hvs:vs.size=(loc q).2) (htl:ts.length≤vs.size) :
  RelF X F loc ⟨t,H.set q (some ⟨3,1,(ts.map I).map .f⟩)⟩ a (Go.Sort.grow (Go.Sort.putRow (Value.int .i64) (Go.Sort.ahead w n) (loc q).1 0 ts.toArray) os):=by
 have hqn:=R.new q _ hq
 have hqF:=R.nF q _ hq
 have hblk:(loc q).1<w.heap.size:=(Array.getElem?_eq_some_iff.1 hv).1
 have hheap:(Go.Sort.grow (Go.Sort.putRow (Value.int .i64) (Go.Sort.ahead w n) (loc q).1 0 ts.toArray) os).heap[(loc q).1]?=some (.cells (Go.Sort.putCells (Value.int .i64) 0 ts.toArray vs) 3 (0,0)):=by
  rw [Go.Sort.heap_grow_old _ _ (by simpa [Go.Sort.putRow,Go.Sort.mapBlock,Go.Sort.ahead] using hblk)]
  simp [Go.Sort.putRow,Go.Sort.mapBlock,Go.Sort.ahead,Array.getElem?_modify,hv,Go.Sort.onCells]
 have hby:Beyond (fun b=>b=(loc q).1) w (Go.Sort.grow (Go.Sort.putRow (Value.int .i64) (Go.Sort.ahead w n) (loc q).1 0 ts.toArray) os):=⟨rfl,rfl,rfl,by simp [Go.Sort.grow,Go.Sort.putRow,Go.Sort.mapBlock,Go.Sort.ahead],fun k hk hne=>by
  have hne':¬(loc q).1=k:=fun e=>hne e.symm
  rw [Go.Sort.heap_grow_old _ _ (by simpa [Go.Sort.putRow,Go.Sort.mapBlock,Go.Sort.ahead] using hk)]
  simp [Go.Sort.putRow,Go.Sort.mapBlock,Go.Sort.ahead,Array.getElem?_modify,hne']⟩
 have hdead:∀(r:Nat) o,(H.set q none)[r]?=some (some o)→r≠q∧H[r]?=some (some o):=fun r o h=>by
  by_cases e:r=q
  ·subst e;rw [List.getElem?_set_self hr] at h;cases h
  ·rw [List.getElem?_set_ne (Ne.symm e)] at h;exact ⟨e,h⟩
 have R1:RelF X F loc ⟨t,H.set q none⟩ a w:=R.drop (by simp) fun r o h=>(hdead r o h).2
 have R2:=R1.stepO (F':=F) (O:=fun b=>b=(loc q).1) (fun b hb=>by rw [hb];exact hqn.symm) (fun b hf hb=>hqF (hb▸hf)) (fun r o h e=>(hdead r o h).1 (R.inj r q _ _ (hdead r o h).2 hq e)) hby (fun _ h=>h) (fun b hb=>Nat.lt_of_lt_of_le (R.hF b hb) hby.size) (fun b h=>.inl h)
 refine R2.revive hr hqn hqF (fun r o h e=>(hdead r o h).1 (R.inj r q _ _ (hdead r o h).2 hq e)) ⟨fun e he=>?_,_,hheap,by simp [Go.Sort.putCells];rw [hvs],fun j c hj=>?_⟩
 ·obtain ⟨x,hx,rfl⟩:=List.mem_map.1 he
  obtain ⟨z,_,rfl⟩:=List.mem_map.1 hx
  exact ⟨rfl,rfl⟩
 ·replace hj:(flat ((ts.map I).map AV.f))[j]?=some c:=hj
  rw [flat_f,flatF_I,List.getElem?_map,List.getElem?_map] at hj
  cases hz:ts[j]? with
  | none=>rw [hz] at hj;cases hj
  | some z =>
   rw [hz] at hj
   cases hj
   obtain ⟨hjl,hjz⟩:=List.getElem?_eq_some_iff.1 hz
   refine ⟨.int .i64 z,?_,.f _ _ (.v _)⟩
   have hjv:j<vs.size:=by omega
   simp [Go.Sort.putCells,hjl,hjv,hjz]
theorem sort_u {H:AH} {q:Nat} {zs:List Int} (hq:H[q]?=some (some ⟨3,1,(zs.map I).map .f⟩)) (hz:zs.length<4611686018427387904) :
  CallU Tryz.prog 37 [.own q 1 0 zs.length] H (fun u G=>u=.f (.v (.tuple #[]))∧G=H.set q (some ⟨3,1,((zs.mergeSort fun x y=>decide (x≤y)).map I).map .f⟩)):=by
 refine ⟨by kernel_rfl,fun X w F loc t a ys R hys=>?_⟩
 obtain ⟨cap,vs,rfl,hk,hm,hl2,hr,hv,hvs,hcell⟩:=own_cellsI R hq hys
 have hblk:(loc q).1<w.heap.size:=(Array.getElem?_eq_some_iff.1 hv).1
 refine (Any.slices_Sort_int sortLays (loc q).1 0 cap zs w (holds_own hv hcell) hblk hz).mono ?_
 rintro e w' ⟨rfl,n,os,rfl⟩
 exact ⟨_,F,loc,_,_,⟨rfl,rfl⟩,rfl,put_rel R hq hr hv (by omega) (by rw [List.length_mergeSort];omega),.f _ _ (.v _)⟩
end Go.Proofs.YthehegidpamldaaGreatDoor
set_option linter.unusedVariables false
set_option linter.unusedSimpArgs false
namespace Go.Proofs.YthehegidpamldaaGreatDoor
open Go Go.RowKit
section
variable {P : Program} {X : Cx} {w : World} {F : Nat → Prop} {loc : Nat → Nat × Nat} {s : AS} {a : Act}
end
end Go.Proofs.YthehegidpamldaaGreatDoor
