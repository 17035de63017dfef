/- Chains: a step, products, powers: walked. Conditions: numbers of 10^7 bytes each. -/
import Derived.Test.YtcgagiimlkjcpaaGreatDoorZB08
import Derived.Test.YtcgagiimlkjcpaaGreatDoorZB12
import Derived.Test.YtcgagiimlkjcpaaGreatDoorZB13
set_option linter.unusedVariables false
set_option linter.unusedSimpArgs false
namespace Go.Proofs.YtcgagiimlkjcpaaGreatDoor
open Go Go.RowKit
def tmR (p:List Rat) (m:List (List Rat)):List Rat:=(List.range m.length).map fun k=>sumF (fun i=>p.getD i 0*at2 m i k) p.length
theorem tmR_len {p:List Rat} {m:List (List Rat)}:(tmR p m).length=m.length:=by simp [tmR]
theorem sumF_fz {f:Nat→Rat} {s:Nat}:∀{n:Nat},(∀k,k<n→Fz (f k) s)→Fz (sumF f n) (8+n*(s+1)):=by
 intro n
 induction n with
 | zero=>intro _;exact (Fz.int (n:=0) (by decide)).up (by omega)
 | succ n ih=>intro h;exact ((ih fun k hk=>h k (by omega)).add (h n (by omega))).up (by rw [Nat.add_mul];omega)
theorem Row.getD {k:Nat} {l:List Rat} (h:Row k l) {i:Nat} (hi:i<l.length):Fz (l.getD i 0) k:=by rw [lget_lt l 0 hi];exact h.get hi
structure SqM (k : Nat) (ys : List FV) (m : List (List Rat)) : Prop where
  fr : FrM k ys m
  sq : ∀ r ∈ m, List.length r = m.length
  le : m.length ≤ 6
section
variable {a b : Nat} {ps ys : List FV} {p : List Rat} {m : List (List Rat)} {i j : Nat}
theorem SqM.e2 (h:SqM b ys m) (hi:i<m.length) (hj:j<m.length):at2 m i j=(m[i]'hi)[j]'(by rw [h.sq _ (List.getElem_mem hi)];exact hj):=by unfold at2;rw [lget_lt m [] hi,lget_lt _ 0]
theorem SqM.at2 (h:SqM b ys m) (hi:i<m.length) (hj:j<m.length):∃xs g n d,ys[i]?=some (.fz 3 xs)∧xs[j]?=some (frR g n d)∧IsFr (frR g n d) (at2 m i j) b:=by
 obtain ⟨xs,h1,h2⟩:=h.fr.at hi
 obtain ⟨g,n,d,h3,h4⟩:=h2.at3 (i:=j) (by rw [h.sq _ (List.getElem_mem hi)];exact hj)
 exact ⟨xs,g,n,d,h1,h3,by rw [h.e2 hi hj];exact h4⟩
theorem SqM.f2 (h:SqM b ys m) (h1:1≤b) (hi:i<m.length) (hj:j<m.length):Fz (Go.Proofs.YtcgagiimlkjcpaaGreatDoor.at2 m i j) b:=by
 obtain ⟨xs,g,n,d,_,_,h4⟩:=h.at2 hi hj
 exact h4.fz h1
theorem SqM.c {A:Mx} {n:Nat} (hn:n≤6) (h:∀i k,i<n→k<n→Fz (A i k) b):SqM b ((mxL n A).map frs) (mxL n A) where
 fr:=FrM.c fun r hr=>by
  obtain ⟨i,hi,rfl⟩:=List.mem_map.1 hr
  intro q hq
  obtain ⟨k,hk,rfl⟩:=List.mem_map.1 hq
  exact h i k (List.mem_range.1 hi) (List.mem_range.1 hk)
 sq:=fun r hr=>by rw [mxL_len];exact mxL_row r hr
 le:=by rw [mxL_len];exact hn
theorem SqM.up (h:SqM a ys m) (hab:a≤b):SqM b ys m:=⟨⟨h.fr.len,fun i r hr=>by obtain ⟨xs,h1,h2⟩:=h.fr.get i r hr;exact ⟨xs,h1,h2.up hab⟩⟩,h.sq,h.le⟩
set_option maxRecDepth 100000 in
set_option maxHeartbeats 4000000 in
theorem times_w (hp:Frs a ps p) (hm:SqM b ys m) (h1:1≤a) (h2:1≤b) (ha:a≤1000000000) (hb:b≤1000000000) (hl:p.length=m.length):Good Tryz.prog 91 [.fz 3 ps,.fz 1 ys] (frs (tmR p m)):=by
 have hr:=hp.row h1
 have h6:=hm.le
 have hrep:List.replicate m.length (AV.f frN)=(fillL m.length 0 (fun k=>fr (sumF (fun i=>p.getD i 0*at2 m i k) p.length)) frN).map .f:=by rw [fill_zero,List.map_replicate]
 refine good_of Tryz.func91 rfl (by kernel_rfl) fun X hO hrd=>?_;rw [Tryz.ntmps91,Tryz.results91];simp only [ast0,List.map_cons,List.map_nil,List.length_cons,List.length_nil,Nat.reduceAdd,Nat.reduceSub,List.replicate_succ,List.replicate_zero,List.cons_append,List.nil_append]
 repeat (first|(with_reducible first|refine W_seq fun K hK=>?_|refine J_block ?_|refine J_region ?_ |(refine Kont.go (by assumption) ?_)|(simp (config:={ maxSteps:=3000000 }) (disch:=omega) only [go_sem,Nat.reduceAdd,hm.fr.len,hrep]))|refine And.intro (by omega) ?_)
 refine W_loop [6,7,8,14,15,16,17,18,19,20,21,22,23,24,25,26,27,28,29,30,31,32,33,34,35,36,37,38,39,40,41,42,43,44,45,46] (fun x:Nat=>[(14,.f (I x))]) (fun x:Nat=>[some ⟨44,3,(fillL m.length x (fun k=>fr (sumF (fun i=>p.getD i 0*at2 m i k) p.length)) frN).map .f⟩]) (fun x:Nat=>x≤m.length) (fun x:Nat=>m.length-x) (0) (Nat.zero_le _) (by refine weak_of ?_ ?_<;>simp (disch:=omega) only [go_sem]<;>first|rfl|exact ⟨rfl,rfl⟩|exact Or.inl rfl|exact ⟨Or.inl rfl,Or.inl rfl⟩|trivial|assumption|omega|(symm;assumption)|((repeat' apply And.intro)<;>first|rfl|omega|trivial|exact .inr ⟨rfl,rfl⟩|exact .inr rfl|(right;symm;assumption)|(symm;assumption)|assumption)) ?_
 rintro k hk
 simp only [go_sem]
 repeat (with_reducible first|refine W_seq fun K hK=>?_|refine J_region ?_ |refine J_c ?_|(refine Kont.go (by assumption) ?_)|(simp (config:={ maxSteps:=3000000 }) (disch:=omega) only [go_sem]))
 refine Jc_if (fun hkl=>?_) (fun hkl=>?_)<;>try simp only [decide_eq_true_eq,decide_eq_false_iff_not] at hkl
 ·have hgetL:∀y,(((fillL m.length k (fun k=>fr (sumF (fun i=>p.getD i 0*at2 m i k) p.length)) frN).map AV.f).set k y)[k]?=some y:=fun y=>List.getElem?_set_self (by simp [fill_len,hkl])
  have z0:fr ((0:Int):Rat)=fr (sumF (fun i=>p.getD i 0*at2 m i k) 0):=rfl
  repeat (first|(with_reducible first|refine W_seq fun K hK=>?_|refine J_block ?_|refine J_skip ?_|refine J_region ?_ |(refine Kont.go (by assumption) ?_)|(simp (config:={ maxSteps:=3000000 }) (disch:=omega) only [go_sem,↓reduceIte,Nat.reduceAdd,fillA_get hkl,hkl,hp.len,z0]))|refine call_f (of_good (by omega) (by omega)) rfl ?_)
  refine W_loop [7,8,23,24,25,26,27,28,29,30,31,32,33,34,35,36,37,38,39,40,41,42,43,44,45] (fun x:Nat=>[(23,.f (I x))]) (fun x:Nat=>[some ⟨44,3,((fillL m.length k (fun k=>fr (sumF (fun i=>p.getD i 0*at2 m i k) p.length)) frN).map .f).set k (.f (fr (sumF (fun i=>p.getD i 0*at2 m i k) x)))⟩]) (fun x:Nat=>x≤p.length) (fun x:Nat=>p.length-x) (0) (Nat.zero_le _) (by refine weak_of ?_ ?_<;>simp (disch:=omega) only [go_sem]<;>first|rfl|exact ⟨rfl,rfl⟩|exact Or.inl rfl|exact ⟨Or.inl rfl,Or.inl rfl⟩|trivial|assumption|omega|(symm;assumption)|((repeat' apply And.intro)<;>first|rfl|omega|trivial|exact .inr ⟨rfl,rfl⟩|exact .inr rfl|(right;symm;assumption)|(symm;assumption)|assumption)) ?_
  rintro i hi
  simp only [go_sem]
  repeat (with_reducible first|refine W_seq fun K hK=>?_|refine J_region ?_ |refine J_c ?_|(refine Kont.go (by assumption) ?_)|(simp (config:={ maxSteps:=3000000 }) (disch:=omega) only [go_sem]))
  refine Jc_if (fun hil=>?_) (fun hil=>?_)<;>try simp only [decide_eq_true_eq,decide_eq_false_iff_not] at hil
  ·obtain ⟨g1,n1,d1,x1,f1⟩:=hp.at3 hil
   rw [←lget_lt p 0 hil] at f1
   obtain ⟨xs,g2,n2,d2,y2,x2,f2⟩:=hm.at2 (i:=i) (j:=k) (by omega) hkl
   have fs:=sumF_fz (f:=fun i=>p.getD i 0*at2 m i k) (n:=i) (s:=a+b) fun q hq=>(hr.getD (by omega)).mul (hm.f2 h2 (by omega) hkl)
   have so:=Nat.mul_le_mul_right (a+b+1) (show i≤6 by omega)
   have c1:=IsFr.c fs
   have c2:=IsFr.c ((f1.fz h1).mul (f2.fz h2))
   have en:sumF (fun i=>p.getD i 0*at2 m i k) i+p.getD i 0*at2 m i k=sumF (fun i=>p.getD i 0*at2 m i k) (i+1):=rfl
   repeat (first|(with_reducible first|refine W_seq fun K hK=>?_|refine J_block ?_|refine J_skip ?_|refine J_region ?_ |refine J_drawn mixed (by kernel_rfl) ?_|(refine Kont.go (by assumption) ?_)|(simp (config:={ maxSteps:=3000000 }) (disch:=omega) only [go_sem,↓reduceIte,Nat.reduceAdd,x1,y2,x2,hgetL,List.set_set,hkl,en]))|refine callQ_f (mul_w (by assumption) (by assumption) (by omega) (by omega)) rfl ?_|refine callQ_f (add_w (by assumption) (by assumption) (by omega) (by omega)) rfl ?_)
   refine ⟨i+1,by omega,by omega,weak_of ?_ ?_⟩<;>(try simp (disch:=omega) only [go_sem])<;>(try first|done|omega|rfl|exact ⟨rfl,rfl⟩|trivial)
  ·have he:i=p.length:=by omega
   subst he
   have hset:=fillA_set (f:=fun k=>fr (sumF (fun i=>p.getD i 0*at2 m i k) p.length)) (z:=frN) hkl rfl
   repeat (with_reducible first|refine J_exit ?_|refine J_region ?_ |(refine Kont.go (by assumption) ?_)|(simp (config:={ maxSteps:=3000000 }) (disch:=omega) only [go_sem,↓reduceIte,hset]))
   refine ⟨k+1,by omega,by omega,weak_of ?_ ?_⟩<;>(try simp (disch:=omega) only [go_sem])<;>(try first|done|omega|rfl|exact ⟨rfl,rfl⟩|trivial)
 ·have he:k=m.length:=by omega
  subst he
  have hfa:fillL m.length m.length (fun k=>fr (sumF (fun i=>p.getD i 0*at2 m i k) p.length)) frN=(tmR p m).map fr:=by rw [fill_all,tmR,List.map_map];rfl
  repeat (with_reducible first|refine W_seq fun K hK=>?_|refine J_exit ?_|refine J_ret ?_|refine J_region ?_ |(refine Kont.go (by assumption) ?_)|(simp (config:={ maxSteps:=3000000 }) (disch:=omega) only [go_sem,↓reduceIte,hfa]))
  exact Frz.own0 rfl (by rw [List.length_map,tmR_len])
def stpR (p:List Rat) (m:List (List Rat)):List Rat:=if chkM m=0∧p.length=m.length then tmR p m else []
def stpE (p:List Rat) (m:List (List Rat)):Int:=if chkM m≠0 then chkM m else if p.length≠m.length then 8 else 0
theorem chk_sq (hm:FrM b ys m) (h:chkM m=0):SqM b ys m∧1≤m.length∧∀r∈m,chancesB r=true:=by
 unfold chkM at h
 split at h
 ·cases h
 unfold sqM at h
 split at h
 ·cases h
 split at h
 ·cases h
 rename_i a b c
 exact ⟨⟨hm,Classical.not_not.1 b,by omega⟩,by omega,Classical.not_not.1 c⟩
set_option maxRecDepth 100000 in
theorem step_w (hp:Frs a ps p) (hm:FrM b ys m) (h1:1≤a) (h2:1≤b) (ha:a≤10000000) (hb:b≤10000000) (hpx:p.length≤140737488355328) (hmx:m.length≤140737488355328):Good Tryz.prog 13 [.fz 3 ps,.fz 1 ys] (.tup [frs (stpR p m),I (stpE p m)]):=by
 have hc:=check_w hm h2 hb hmx
 by_cases h0:chkM m=0
 case neg =>
  rw [show stpR p m=[] by unfold stpR;rw [if_neg fun h=>h0 h.1],show stpE p m=chkM m by unfold stpE;rw [if_pos h0]]
  refine good_of Tryz.func13 rfl (by kernel_rfl) fun X hO hrd=>?_;rw [Tryz.ntmps13,Tryz.results13];simp only [ast0,List.map_cons,List.map_nil,List.length_cons,List.length_nil,Nat.reduceAdd,Nat.reduceSub,List.replicate_succ,List.replicate_zero,List.cons_append,List.nil_append]
  repeat (with_reducible first|refine W_seq fun K hK=>?_|refine J_region ?_ |(refine Kont.go (by assumption) ?_)|(simp (config:={ maxSteps:=3000000 }) (disch:=omega) only [go_sem]))
  refine call_f hc rfl ?_
  repeat (with_reducible first|refine W_seq fun K hK=>?_|refine J_ret ?_|refine J_region ?_ |refine J_c ?_|refine Jc_true ?_|(refine Kont.go (by assumption) ?_)|(simp (config:={ maxSteps:=3000000 }) (disch:=omega) only [go_sem,h0]))
  exact ⟨_,rfl,FrzL.cons (.nil _) (FrzL.cons (.f _) (FrzL.nil _))⟩
 rw [h0] at hc
 by_cases hl:p.length=m.length
 case neg =>
  rw [show stpR p m=[] by unfold stpR;rw [if_neg fun h=>hl h.2],show stpE p m=8 by unfold stpE;rw [if_neg (by omega),if_pos hl]]
  refine good_of Tryz.func13 rfl (by kernel_rfl) fun X hO hrd=>?_;rw [Tryz.ntmps13,Tryz.results13];simp only [ast0,List.map_cons,List.map_nil,List.length_cons,List.length_nil,Nat.reduceAdd,Nat.reduceSub,List.replicate_succ,List.replicate_zero,List.cons_append,List.nil_append]
  repeat (with_reducible first|refine W_seq fun K hK=>?_|refine J_region ?_ |(refine Kont.go (by assumption) ?_)|(simp (config:={ maxSteps:=3000000 }) (disch:=omega) only [go_sem]))
  refine call_f hc rfl ?_
  repeat (with_reducible first|refine W_seq fun K hK=>?_|refine J_skip ?_|refine J_ret ?_|refine J_region ?_ |refine J_c ?_|refine Jc_true ?_|refine Jc_false ?_|(refine Kont.go (by assumption) ?_)|(simp (config:={ maxSteps:=3000000 }) (disch:=omega) only [go_sem,hp.len,hm.len,hl,Int.natCast_inj]))
  exact ⟨_,rfl,FrzL.cons (.nil _) (FrzL.cons (.f _) (FrzL.nil _))⟩
 rw [show stpR p m=tmR p m by unfold stpR;rw [if_pos ⟨h0,hl⟩],show stpE p m=0 by unfold stpE;rw [if_neg (by omega),if_neg (by omega)]]
 refine good_of Tryz.func13 rfl (by kernel_rfl) fun X hO hrd=>?_;rw [Tryz.ntmps13,Tryz.results13];simp only [ast0,List.map_cons,List.map_nil,List.length_cons,List.length_nil,Nat.reduceAdd,Nat.reduceSub,List.replicate_succ,List.replicate_zero,List.cons_append,List.nil_append]
 repeat (with_reducible first|refine W_seq fun K hK=>?_|refine J_region ?_ |(refine Kont.go (by assumption) ?_)|(simp (config:={ maxSteps:=3000000 }) (disch:=omega) only [go_sem]))
 refine call_f hc rfl ?_
 repeat (with_reducible first|refine W_seq fun K hK=>?_|refine J_skip ?_|refine J_region ?_ |refine J_c ?_|refine Jc_false ?_|(refine Kont.go (by assumption) ?_)|(simp (config:={ maxSteps:=3000000 }) (disch:=omega) only [go_sem,hp.len,hm.len,hl]))
 refine call_f (times_w hp (chk_sq hm h0).1 h1 h2 (by omega) (by omega) hl) rfl ?_
 repeat (with_reducible first|refine J_ret ?_|(refine Kont.go (by assumption) ?_)|(simp (config:={ maxSteps:=3000000 }) (disch:=omega) only [go_sem]))
 exact ⟨_,rfl,FrzL.fs [_,_]⟩
end
end Go.Proofs.YtcgagiimlkjcpaaGreatDoor
set_option linter.unusedVariables false
set_option linter.unusedSimpArgs false
namespace Go.Proofs.YtcgagiimlkjcpaaGreatDoor
open Go Go.RowKit
theorem nodup_le:∀{n:Nat} {l:List Nat},l.Nodup→(∀a∈l,a<n)→l.length≤n:=by
 intro n
 induction n with
 | zero =>
  intro l _ h
  cases l with
  | nil=>exact Nat.le_refl _
  | cons a l=>exact absurd (h a (by simp)) (by omega)
 | succ n ih =>
  intro l hd h
  by_cases hm:n∈l
  ·have h1:=ih (l:=l.erase n) (hd.erase n) fun a ha=>by
    obtain ⟨h2,h3⟩:=hd.mem_erase_iff.1 ha
    have:=h a h3
    omega
   rw [List.length_erase_of_mem hm] at h1
   omega
  ·have h1:=ih hd fun a ha=>by
    have:=h a ha
    have:a≠n:=fun e=>hm (e▸ha)
    omega
   omega
structure Bfs (n : Nat) (E : Bx) (i : Nat) (l : List Nat) (k : Nat) : Prop where
  nd : l.Nodup
  at0 : i ∈ l
  lt : ∀ a ∈ l, a < n
  star : ∀ a ∈ l, Star n E i a
  out : ∀ a, a < k → ∀ b, b < n → E (l.getD a 0) b = true → b ∈ l
section
variable {n i k j : Nat} {E : Bx} {l : List Nat}
theorem Bfs.first (hi:i<n):Bfs n E i [i] 0:=⟨by simp,by simp,fun a h=>by simp at h;omega,fun a h=>by simp at h;rw [h];exact .refl,fun a h=>by omega⟩
theorem Bfs.len (h:Bfs n E i l k):l.length≤n:=nodup_le h.nd h.lt
theorem getD_snoc {l:List Nat} {a j:Nat} (h:a<l.length):(l++[j]).getD a 0=l.getD a 0:=by
 rw [List.getD_eq_getElem?_getD,List.getD_eq_getElem?_getD,List.getElem?_append_left h]
theorem Bfs.add (h:Bfs n E i l k) (hk:k<l.length) (hj:j<n) (he:E (l.getD k 0) j=true) (hn:j∉l):Bfs n E i (l++[j]) k where
 nd:=List.nodup_append.2 ⟨h.nd,by simp,fun a ha b hb=>by simp at hb;exact fun e=>hn (by rw [←hb,←e];exact ha)⟩
 at0:=List.mem_append_left _ h.at0
 lt a ha:=by
  rcases List.mem_append.1 ha with ha|ha
  ·exact h.lt a ha
  ·simp at ha;omega
 star a ha:=by
  rcases List.mem_append.1 ha with ha|ha
  ·exact h.star a ha
  ·simp at ha;subst ha
   have hm:l.getD k 0∈l:=by rw [lget_lt l 0 hk];exact List.getElem_mem _
   exact .step (h.star _ hm) hj he
 out a ha b hb hE:=by
  rw [getD_snoc (by omega)] at hE
  exact List.mem_append_left _ (h.out a ha b hb hE)
theorem Bfs.next (h:Bfs n E i l k) (ho:∀b,b<n→E (l.getD k 0) b=true→b∈l):Bfs n E i l (k+1) :=
 ⟨h.nd,h.at0,h.lt,h.star,fun a ha b hb hE=>by
  by_cases e:a=k
  ·subst e;exact ho b hb hE
  ·exact h.out a (by omega) b hb hE⟩
theorem Bfs.done (h:Bfs n E i l k) (hk:l.length≤k) (a:Nat):a∈l↔Star n E i a:=⟨h.star a,fun hs=>by
 induction hs with
 | refl=>exact h.at0
 | step _ hk' he ih =>
  obtain ⟨c,hc,e⟩:=List.getElem_of_mem ih
  exact h.out c (by omega) _ hk' (by rw [lget_lt l 0 hc,e];exact he)⟩
def bPart (E:Bx) (l:List Nat) (k:Nat):Nat→List Nat
 | 0=>l
 | j+1=>if E (l.getD k 0) j=true∧j∉bPart E l k j then bPart E l k j++[j] else bPart E l k j
def bfsN (n:Nat) (E:Bx):Nat→List Nat→Nat→List Nat
 | 0,l,_=>l
 | f+1,l,k=>if k<l.length then bfsN n E f (bPart E l k n) (k+1) else l
def comL (n:Nat) (E:Bx) (i:Nat):List Nat:=bfsN n E (n+1) [i] 0
theorem bPart_spec (h:Bfs n E i l k) (hk:k<l.length):∀{j:Nat},j≤n→Bfs n E i (bPart E l k j) k∧(∀b,b<j→E (l.getD k 0) b=true→b∈bPart E l k j)∧(∀a,a<l.length→(bPart E l k j).getD a 0=l.getD a 0)∧l.length≤(bPart E l k j).length:=by
 intro j
 induction j with
 | zero=>intro _;exact ⟨h,fun b hb=>by omega,fun a _=>rfl,Nat.le_refl _⟩
 | succ j ih =>
  intro hj
  obtain ⟨h1,h2,h3,h4⟩:=ih (by omega)
  by_cases hc:E (l.getD k 0) j=true∧j∉bPart E l k j
  ·have e:bPart E l k (j+1)=bPart E l k j++[j]:=if_pos hc
   rw [e]
   refine ⟨h1.add (by omega) (by omega) (by rw [h3 k hk];exact hc.1) hc.2,fun b hb he=>?_,fun a ha=>?_,by simp;omega⟩
   ·by_cases eb:b=j
    ·subst eb;simp
    ·exact List.mem_append_left _ (h2 b (by omega) he)
   ·rw [getD_snoc (by omega)];exact h3 a ha
  ·have e:bPart E l k (j+1)=bPart E l k j:=if_neg hc
   rw [e]
   refine ⟨h1,fun b hb he=>?_,h3,h4⟩
   by_cases eb:b=j
   ·subst eb
    exact Classical.byContradiction fun hn=>hc ⟨he,hn⟩
   ·exact h2 b (by omega) he
theorem bPart_next (h:Bfs n E i l k) (hk:k<l.length):Bfs n E i (bPart E l k n) (k+1):=by
 obtain ⟨h1,h2,h3,h4⟩:=bPart_spec h hk (Nat.le_refl n)
 exact h1.next fun b hb he=>h2 b hb (by rw [h3 k hk] at he;exact he)
theorem bfsN_spec:∀{f:Nat} {l:List Nat} {k:Nat},Bfs n E i l k→n<f+k→∃k',Bfs n E i (bfsN n E f l k) k'∧(bfsN n E f l k).length≤k':=by
 intro f
 induction f with
 | zero =>
  intro l k h hf
  have:=h.len
  exact ⟨k,h,by show l.length≤k;omega⟩
 | succ f ih =>
  intro l k h hf
  by_cases hk:k<l.length
  ·have e:bfsN n E (f+1) l k=bfsN n E f (bPart E l k n) (k+1):=if_pos hk
   rw [e]
   exact ih (bPart_next h hk) (by omega)
  ·have e:bfsN n E (f+1) l k=l:=if_neg hk
   rw [e]
   exact ⟨k,h,by omega⟩
theorem comL_mem (hi:i<n) (a:Nat):a∈comL n E i↔Star n E i a:=by
 obtain ⟨k',h,hk⟩:=bfsN_spec (f:=n+1) (Bfs.first (E:=E) hi) (by omega)
 exact h.done hk a
theorem comL_nd (hi:i<n):(comL n E i).Nodup:=by
 obtain ⟨k',h,hk⟩:=bfsN_spec (f:=n+1) (Bfs.first (E:=E) hi) (by omega)
 exact h.nd
theorem comL_lt (hi:i<n):∀a∈comL n E i,a<n:=by
 obtain ⟨k',h,hk⟩:=bfsN_spec (f:=n+1) (Bfs.first (E:=E) hi) (by omega)
 exact h.lt
end
end Go.Proofs.YtcgagiimlkjcpaaGreatDoor
set_option linter.unusedVariables false
set_option linter.unusedSimpArgs false
namespace Go.Proofs.YtcgagiimlkjcpaaGreatDoor
open Go Go.RowKit
def skp (j c:Nat):Nat:=if c<j then c else c+1
def prd (j k:Nat):Nat:=if k<j then k else k-1
def mnr (A:Mx) (j:Nat):Mx:=fun i c=>A (i+1) (skp j c)
def sgn (k:Nat):Rat:=if k%2=1 then -1 else 1
def det:Nat→Mx→Rat
 | 0,_=>1
 | n+1,A=>sumF (fun k=>sgn k*(A 0 k*det n (mnr A k))) (n+1)
def cset (A:Mx) (k:Nat) (v:Nat→Rat):Mx:=fun i j=>if j=k then v i else A i j
def swapC (A:Mx) (a b:Nat):Mx:=fun i j=>A i (if j=a then b else if j=b then a else j)
section
variable {n k j c a b : Nat} {A B : Mx} {u v x : Nat → Rat}
theorem skp_ne:skp j c≠j:=by unfold skp;split<;>omega
theorem skp_eq (h:k≠j):skp j c=k↔c=prd j k:=by unfold skp prd;split<;>split<;>omega
theorem skp_lt (h:c<n):skp j c<n+1:=by unfold skp;split<;>omega
theorem prd_lt (h:k≠j) (hk:k<n+1) (hj:j<n+1):prd j k<n:=by unfold prd;split<;>omega
theorem sgn_succ:sgn (k+1)=- sgn k:=by
 unfold sgn
 by_cases h:k%2=1
 ·rw [if_neg (by omega),if_pos h];decide
 ·rw [if_pos (by omega),if_neg h]
theorem mnr_self:mnr (cset A k v) k=mnr A k:=by
 funext i c
 unfold mnr cset
 rw [if_neg skp_ne]
theorem mnr_ne (h:k≠j):mnr (cset A k v) j=cset (mnr A j) (prd j k) (fun i=>v (i+1)):=by
 funext i c
 unfold mnr cset
 by_cases e:c=prd j k
 ·rw [if_pos ((skp_eq h).2 e),if_pos e]
 ·rw [if_neg (fun h'=>e ((skp_eq h).1 h')),if_neg e]
theorem det_congr:∀{n:Nat} {A B:Mx},EqM n A B→det n A=det n B:=by
 intro n
 induction n with
 | zero=>intro A B _;rfl
 | succ n ih =>
  intro A B h
  refine sumF_congr fun k hk=>?_
  rw [h 0 k (by omega) hk,ih (A:=mnr A k) (B:=mnr B k) fun i c hi hc=>h _ _ (by omega) (skp_lt hc)]
theorem det_add:∀{n:Nat} {A:Mx} {k:Nat} {u v:Nat→Rat},k<n→det n (cset A k (fun i=>u i+v i))=det n (cset A k u)+det n (cset A k v):=by
 intro n
 induction n with
 | zero=>intro A k u v h;omega
 | succ n ih =>
  intro A k u v hk
  show sumF _ (n+1)=sumF _ (n+1)+sumF _ (n+1)
  rw [←sumF_add]
  refine sumF_congr fun j hj=>?_
  by_cases e:k=j
  ·subst e
   rw [mnr_self,mnr_self,mnr_self]
   show sgn k*((if k=k then _ else _)*_)=sgn k*((if k=k then _ else _)*_)+sgn k*((if k=k then _ else _)*_)
   rw [if_pos rfl,if_pos rfl,if_pos rfl]
   grind
  ·rw [mnr_ne e,mnr_ne e,mnr_ne e,ih (prd_lt e hk hj)]
   show sgn j*((if j=k then _ else _)*_)=sgn j*((if j=k then _ else _)*_)+sgn j*((if j=k then _ else _)*_)
   rw [if_neg (Ne.symm e),if_neg (Ne.symm e),if_neg (Ne.symm e)]
   grind
theorem det_smul (q:Rat):∀{n:Nat} {A:Mx} {k:Nat} {u:Nat→Rat},k<n→det n (cset A k (fun i=>q*u i))=q*det n (cset A k u):=by
 intro n
 induction n with
 | zero=>intro A k u h;omega
 | succ n ih =>
  intro A k u hk
  show sumF _ (n+1)=q*sumF _ (n+1)
  rw [sumF_mul]
  refine sumF_congr fun j hj=>?_
  by_cases e:k=j
  ·subst e
   rw [mnr_self,mnr_self]
   show sgn k*((if k=k then _ else _)*_)=q*(sgn k*((if k=k then _ else _)*_))
   rw [if_pos rfl,if_pos rfl]
   grind
  ·rw [mnr_ne e,mnr_ne e,ih (prd_lt e hk hj)]
   show sgn j*((if j=k then _ else _)*_)=q*(sgn j*((if j=k then _ else _)*_))
   rw [if_neg (Ne.symm e),if_neg (Ne.symm e)]
   grind
theorem sumF_two {f:Nat→Rat} (h:∀j,j<n→j≠a→j≠b→f j=0) (hab:a<b) (hb:b<n):sumF f n=f a+f b:=by
 induction n with
 | zero=>omega
 | succ n ih =>
  show sumF f n+f n=_
  by_cases e:b=n
  ·subst e
   rw [sumF_single (i:=a) (fun j hj hne=>h j (by omega) hne (by omega)) hab]
  ·rw [ih (fun j hj=>h j (by omega)) (by omega),h n (by omega) (by omega) (by omega),Rat.add_zero]
theorem det_adj:∀{n:Nat} {A:Mx} {k:Nat},k+1<n→(∀i,A i k=A i (k+1))→det n A=0:=by
 intro n
 induction n with
 | zero=>intro A k h;omega
 | succ n ih =>
  intro A k hk he
  show sumF _ (n+1)=0
  rw [sumF_two (a:=k) (b:=k+1) (fun j hj h1 h2=>?_) (by omega) hk]
  ·have hm:det n (mnr A k)=det n (mnr A (k+1)):=det_congr fun i c _ _=>by
    show A (i+1) (skp k c)=A (i+1) (skp (k+1) c)
    by_cases e:c=k
    ·subst e
     rw [show skp c c=c+1 by unfold skp;rw [if_neg (by omega)],show skp (c+1) c=c by unfold skp;rw [if_pos (by omega)]]
     exact (he _).symm
    ·rw [show skp (k+1) c=skp k c by unfold skp;split<;>split<;>omega]
   rw [sgn_succ,hm,he 0]
   grind
  ·have hz:det n (mnr A j)=0:=ih (k:=prd j k) (by unfold prd;split<;>omega) fun i=>by
    show A (i+1) (skp j (prd j k))=A (i+1) (skp j (prd j k+1))
    rw [(skp_eq (Ne.symm h1)).2 rfl,show skp j (prd j k+1)=k+1 by unfold skp prd;split<;>split<;>omega]
    exact he _
   rw [hz];grind
theorem cset_comm (h:a≠b):cset (cset A a u) b v=cset (cset A b v) a u:=by
 funext i j
 unfold cset
 by_cases e1:j=a
 ·rw [if_neg (by omega),if_pos e1,if_pos e1]
 ·by_cases e2:j=b
  ·rw [if_pos e2,if_neg e1,if_pos e2]
  ·rw [if_neg e2,if_neg e1,if_neg e1,if_neg e2]
theorem det_swap (hab:a≠b) (ha:a<n) (hb:b<n) (hz:∀B:Mx,(∀i,B i a=B i b)→det n B=0):det n (swapC A a b)=- det n A:=by
 obtain ⟨u,hu⟩:∃u:Nat→Rat,u=fun i=>A i a:=⟨_,rfl⟩
 obtain ⟨v,hv⟩:∃v:Nat→Rat,v=fun i=>A i b:=⟨_,rfl⟩
 have zz:∀s:Nat→Rat,det n (cset (cset A a s) b s)=0:=fun s=>hz _ fun i=>by
  unfold cset;rw [if_neg hab,if_pos rfl,if_pos rfl]
 have e0:=zz fun i=>u i+v i
 rw [det_add hb] at e0
 have e1:∀t:Nat→Rat,det n (cset (cset A a (fun i=>u i+v i)) b t)=det n (cset (cset A a u) b t)+det n (cset (cset A a v) b t):=fun t=>by
  rw [cset_comm hab,det_add ha,←cset_comm hab,←cset_comm hab]
 rw [e1,e1,zz u,zz v] at e0
 have i1:cset (cset A a u) b v=A:=by
  funext i j
  unfold cset
  by_cases h1:j=b
  ·rw [if_pos h1,hv,h1]
  ·rw [if_neg h1]
   by_cases h2:j=a
   ·rw [if_pos h2,hu,h2]
   ·rw [if_neg h2]
 have i2:cset (cset A a v) b u=swapC A a b:=by
  funext i j
  unfold cset swapC
  by_cases h1:j=b
  ·rw [if_pos h1,if_neg (by omega),if_pos h1,hu]
  ·rw [if_neg h1]
   by_cases h2:j=a
   ·rw [if_pos h2,if_pos h2,hv]
   ·rw [if_neg h2,if_neg h2,if_neg h1]
 rw [i1,i2] at e0
 grind
theorem det_eq:∀{d a:Nat} {A:Mx},a+d+1<n→(∀i,A i a=A i (a+d+1))→det n A=0:=by
 intro d
 induction d with
 | zero=>intro a A h he;exact det_adj h he
 | succ d ih =>
  intro a A h he
  have hs:=det_swap (n:=n) (A:=A) (a:=a+d+1) (b:=a+d+1+1) (by omega) (by omega) (by omega) (fun B hB=>det_adj (by omega) hB)
  have h0:det n (swapC A (a+d+1) (a+d+1+1))=0:=ih (a:=a) (by omega) fun i=>by
   unfold swapC
   rw [if_neg (by omega),if_neg (by omega),if_pos rfl]
   exact he i
  rw [h0] at hs
  grind
theorem det_same (hab:a≠b) (ha:a<n) (hb:b<n) (h:∀i,A i a=A i b):det n A=0:=by
 rcases Nat.lt_or_gt_of_ne hab with hlt|hlt
 ·obtain ⟨d,rfl⟩:∃d,b=a+d+1:=⟨b-a-1,by omega⟩
  exact det_eq hb h
 ·obtain ⟨d,rfl⟩:∃d,a=b+d+1:=⟨a-b-1,by omega⟩
  exact det_eq ha fun i=>(h i).symm
theorem det_swp (hab:a≠b) (ha:a<n) (hb:b<n):det n (swapC A a b)=- det n A:=det_swap hab ha hb fun B hB=>det_same hab ha hb hB
theorem det_zero_col (hk:k<n):det n (cset A k (fun _=>0))=0:=by
 have:=det_smul (n:=n) (A:=A) (k:=k) (u:=fun _=>0) 0 hk
 rw [Rat.zero_mul,Rat.zero_mul] at this
 exact this
theorem det_sum (hk:k<n) (f:Nat→Nat→Rat):∀m,det n (cset A k (fun i=>sumF (fun j=>x j*f j i) m))=sumF (fun j=>x j*det n (cset A k (f j))) m:=by
 intro m
 induction m with
 | zero=>exact det_zero_col hk
 | succ m ih =>
  show det n (cset A k (fun i=>sumF (fun j=>x j*f j i) m+x m*f m i))=sumF _ m+_
  rw [det_add hk,ih,det_smul _ hk]
theorem cset_same:cset A k (fun i=>A i k)=A:=by
 funext i j
 unfold cset
 split
 ·rename_i h;rw [h]
 ·rfl
theorem cramer {b':Nat→Rat} (hk:k<n) (hx:∀i,i<n→sumF (fun j=>A i j*x j) n=b' i):det n (cset A k b')=x k*det n A:=by
 have e:det n (cset A k b')=det n (cset A k (fun i=>sumF (fun j=>x j*A i j) n)):=det_congr fun i j hi hj=>by
  unfold cset
  split
  ·rw [←hx i hi];exact sumF_congr fun j _=>Rat.mul_comm _ _
  ·rfl
 rw [e,det_sum hk (fun j i=>A i j),sumF_single (i:=k) (fun j hj hne=>?_) hk,cset_same]
 rw [det_same (a:=k) (b:=j) (Ne.symm hne) hk hj fun i=>by unfold cset;rw [if_pos rfl,if_neg hne],Rat.mul_zero]
theorem det_id:∀n,det n idM=1:=by
 intro n
 induction n with
 | zero=>rfl
 | succ n ih =>
  show sumF _ (n+1)=1
  rw [sumF_single (i:=0) (fun j hj hne=>by unfold idM;rw [if_neg (Ne.symm hne)];grind) (by omega)]
  have:mnr idM 0=idM:=by
   funext i c
   show (if i+1=skp 0 c then (1:Rat) else 0)=if i=c then 1 else 0
   rw [show skp 0 c=c+1 by unfold skp;rw [if_neg (by omega)]]
   by_cases e:i=c
   ·rw [if_pos e,if_pos (by omega)]
   ·rw [if_neg e,if_neg (by omega)]
  rw [this,ih]
  unfold sgn idM
  rw [if_neg (by omega),if_pos rfl,Rat.mul_one,Rat.mul_one]
def selC (A:Mx) (s:Nat→Nat):Mx:=fun i j=>A i (s j)
theorem det_sel (h0:det n A=0):∀{m:Nat} {s:Nat→Nat},m≤n→(∀j,j<n→s j<n)→(∀j,m≤j→j<n→s j=j)→det n (selC A s)=0:=by
 intro m
 induction m with
 | zero =>
  intro s _ _ hf
  rw [det_congr (B:=A) fun i j _ hj=>by show A i (s j)=A i j;rw [hf j (by omega) hj]]
  exact h0
 | succ m ih =>
  intro s hm hs hf
  by_cases hdup:∃i j,i<n∧j<n∧i≠j∧s i=s j
  ·obtain ⟨i,j,hi,hj,hne,e⟩:=hdup
   exact det_same hne hi hj fun r=>by show A r (s i)=A r (s j);rw [e]
  ·have inj:∀i j,i<n→j<n→s i=s j→i=j:=fun i j hi hj e=>Classical.byContradiction fun hne=>hdup ⟨i,j,hi,hj,hne,e⟩
   have hin:∀j,j<m+1→s j<m+1:=fun j hj=>Classical.byContradiction fun hn=>by
    have e:=hf (s j) (by omega) (hs j (by omega))
    have:=inj (s j) j (hs j (by omega)) (by omega) e
    omega
   have hex:∃c,c<m+1∧s c=m:=Classical.byContradiction fun hn=>by
    have hnd:((List.range (m+1)).map s).Nodup:=by
     refine List.nodup_iff_pairwise_ne.2 (List.pairwise_map.2 ?_)
     refine List.Pairwise.imp_of_mem (fun {a b} ha hb hab=>?_) (List.nodup_iff_pairwise_ne.1 List.nodup_range)
     exact fun e=>hab (inj a b (by have:=List.mem_range.1 ha;omega) (by have:=List.mem_range.1 hb;omega) e)
    have hl:=nodup_le (n:=m) hnd fun a ha=>by
     obtain ⟨c,hc,rfl⟩:=List.mem_map.1 ha
     have h1:=hin c (List.mem_range.1 hc)
     have h2:s c≠m:=fun e=>hn ⟨c,List.mem_range.1 hc,e⟩
     omega
    rw [List.length_map,List.length_range] at hl
    omega
   obtain ⟨c,hc,hcm⟩:=hex
   by_cases ec:c=m
   ·exact ih (s:=s) (by omega) hs fun j hj hjn=>by
     by_cases e:j=m
     ·rw [e,←ec,hcm,ec]
     ·exact hf j (by omega) hjn
   ·have hsw:=det_swp (n:=n) (A:=selC A s) ec (by omega) (by omega)
    have hz:det n (swapC (selC A s) c m)=0:=by
     have:=ih (s:=fun j=>s (if j=c then m else if j=m then c else j)) (by omega) (fun j hj=>by
      show s _<n
      split
      ·exact hs _ (by omega)
      ·split
       ·exact hs _ (by omega)
       ·exact hs _ hj) (fun j hj hjn=>by
      show s _=j
      by_cases e:j=m
      ·rw [if_neg (by omega),if_pos e,hcm,e]
      ·rw [if_neg (by omega),if_neg e];exact hf j (by omega) hjn)
     exact this
    rw [hz] at hsw
    grind
theorem det_ne (hsp:∀v:Nat→Rat,∃x:Nat→Rat,∀i,i<n→sumF (fun j=>A i j*x j) n=v i):det n A≠0:=fun h0=>by
 have key:∀(m:Nat) (C:Mx) (s:Nat→Nat),m≤n→(∀j,j<n→s j<n)→det n (fun i j=>if j<m then C i j else A i (s j))=0:=by
  intro m
  induction m with
  | zero =>
   intro C s _ hs
   have:(fun i j=>if j<0 then C i j else A i (s j))=selC A s:=by funext i j;rw [if_neg (by omega)];rfl
   rw [this]
   exact det_sel h0 (Nat.le_refl _) hs fun j hj hjn=>by omega
  | succ m ih =>
   intro C s hm hs
   obtain ⟨x,hx⟩:=hsp fun i=>C i m
   obtain ⟨D,hD⟩:∃D:Mx,D=fun i j=>if j<m then C i j else A i (s j):=⟨_,rfl⟩
   have e:det n (fun i j=>if j<m+1 then C i j else A i (s j))=det n (cset D m (fun i=>sumF (fun j=>x j*A i j) n)):=det_congr fun i j hi hj=>by
    unfold cset
    by_cases ej:j=m
    ·rw [if_pos ej,if_pos (by omega),ej,←hx i hi];exact sumF_congr fun q _=>Rat.mul_comm _ _
    ·rw [if_neg ej,hD]
     show (if j<m+1 then C i j else A i (s j))=if j<m then C i j else A i (s j)
     by_cases hl:j<m
     ·rw [if_pos hl,if_pos (by omega)]
     ·rw [if_neg hl,if_neg (by omega)]
   rw [e,det_sum (by omega) (fun j i=>A i j)]
   refine sumF_eq_zero fun q hq=>?_
   have hz:=ih C (fun j=>if j=m then q else s j) (by omega) fun j hj=>by
    show (if j=m then q else s j)<n
    split
    ·exact hq
    ·exact hs j hj
   have e2:det n (cset D m (fun i=>A i q))=0:=by
    rw [←hz]
    refine det_congr fun i j hi hj=>?_
    unfold cset
    by_cases ej:j=m
    ·rw [if_pos ej,if_neg (by omega),if_pos ej]
    ·rw [if_neg ej,hD]
     show (if j<m then C i j else A i (s j))=if j<m then C i j else A i (if j=m then q else s j)
     by_cases hl:j<m
     ·rw [if_pos hl,if_pos hl]
     ·rw [if_neg hl,if_neg hl,if_neg ej]
   rw [e2,Rat.mul_zero]
 have:=key n idM id (Nat.le_refl _) fun j hj=>hj
 rw [det_congr (B:=idM) fun i j _ hj=>by rw [if_pos hj],det_id] at this
 exact absurd this (by decide)
theorem det_hom (h:∀y,Hom n A y→∀k,k<n→y k=0):det n A≠0:=by
 refine det_ne fun v=>?_
 obtain ⟨M,hM⟩:∃M:Mx,M=fun i k=>if k=n then v i else A i k:=⟨_,rfl⟩
 have ent:∀i k,k<n→M i k=A i k:=fun i k hk=>by rw [hM];exact if_neg (by omega)
 obtain ⟨M',hM'⟩:=gs_some (M:=M) fun y hy=>h y fun i hi=>by
  rw [←hy i hi];exact sumF_congr fun k hk=>by rw [ent i k hk]
 refine ⟨fun i=>M' i n,fun i hi=>?_⟩
 have:=(gs_sol hM').2 (fun i _=>rfl) i hi
 rw [show M i n=v i by rw [hM];exact if_pos rfl] at this
 rw [←this]
 exact sumF_congr fun k hk=>by rw [ent i k hk]
theorem cramer_div {b':Nat→Rat} (hd:det n A≠0) (hk:k<n) (hx:∀i,i<n→sumF (fun j=>A i j*x j) n=b' i):det n (cset A k b')/det n A=x k:=by
 rw [cramer hk hx,Rat.div_def,Rat.mul_assoc,Rat.mul_inv_cancel _ hd,Rat.mul_one]
end
end Go.Proofs.YtcgagiimlkjcpaaGreatDoor
