/- Hidden chains: all ways to a state, and on from it: walked. Conditions: numbers of 1000 bytes each. -/
import Derived.Test.YtfjgijkhmhhkdaaGreatDoorYB13
import Derived.Test.YtfjgijkhmhhkdaaGreatDoorYB12
import Derived.Test.YtfjgijkhmhhkdaaGreatDoorYRefOne
import Derived.Test.YtfjgijkhmhhkdaaGreatDoorYB09
set_option linter.unusedVariables false
set_option linter.unusedSimpArgs false
namespace Go.Proofs.YtfjgijkhmhhkdaaGreatDoor
open Go Go.RowKit
def opF (op:Rat→Rat→Rat) (f:Nat→Rat):Nat→Rat
 | 0=>0
 | n+1=>op (opF op f n) (f n)
theorem opF_sum {f:Nat→Rat}:∀{n:Nat},opF (fun a b=>a+b) f n=sumF f n:=by
 intro n
 induction n with
 | zero=>rfl
 | succ n ih=>show opF _ f n+f n=sumF f n+f n;rw [ih]
theorem opF_max {f:Nat→Rat}:∀{n:Nat},opF grt f n=maxF f n:=by
 intro n
 induction n with
 | zero=>rfl
 | succ n ih=>show grt (opF _ f n) (f n)=grt (maxF f n) (f n);rw [ih]
def HM.gA (h:HM) (op:Rat→Rat→Rat):Nat→Nat→Rat
 | 0,i=>h.a i*h.sh i (h.s 0)
 | t+1,i=>opF op (fun k=>HM.gA h op t k*h.mv k i) h.n*h.sh i (h.s (t+1))
def HM.gU (h:HM) (op:Rat→Rat→Rat):Nat→Nat→Rat
 | 0,i=>1
 | u+1,i=>opF op (fun k=>h.mv i k*h.sh k (h.s (h.T-1-u))*HM.gU h op u k) h.n
def HM.gB (h:HM) (op:Rat→Rat→Rat) (t i:Nat):Rat:=h.gU op (h.T-1-t) i
theorem HM.gA_fw (h:HM):∀t i,h.gA (fun a b=>a+b) t i=h.fw t i:=by
 intro t
 induction t with
 | zero=>intro i;rfl
 | succ t ih=>intro i;show opF _ _ _*_=sumF _ _*_;rw [opF_sum];congr 1;exact sumF_congr fun k _=>by rw [ih]
theorem HM.gU_bw (h:HM):∀u i,h.gU (fun a b=>a+b) u i=h.bwU u i:=by
 intro u
 induction u with
 | zero=>intro i;rfl
 | succ u ih=>intro i;show opF _ _ _=sumF _ _;rw [opF_sum];exact sumF_congr fun k _=>by rw [ih]
theorem HM.gU_mx (h:HM):∀u i,h.gU grt u i=h.mxU u i:=by
 intro u
 induction u with
 | zero=>intro i;rfl
 | succ u ih=>intro i;show opF _ _ _=maxF _ _;rw [opF_max];exact maxF_congr fun k _=>by rw [ih]
def hm (st:List Rat) (mv sh:List (List Rat)) (seen:List Int):HM:=⟨st.length,fun i=>st.getD i 0,at2 mv,at2 sh,fun t=>(seen.getD t 0).toNat,seen.length⟩
structure Join (j : FuncId) (op : Rat → Rat → Rat) : Prop where
  good : ∀ {a b : Rat} {x y : Nat}, Fz a x → Fz b y → x ≤ 34359738368 → y ≤ 34359738368 → Good Tryz.prog j [fr a, fr b] (fr (op a b))
  fz : ∀ {a b : Rat} {x y : Nat}, Fz a x → Fz b y → Fz (op a b) (x + y + 1)
theorem join_add:Join 40 (fun a b=>a+b):=⟨fun ha hb h1 h2=>add_w (IsFr.c ha) (IsFr.c hb) h1 h2,fun ha hb=>ha.add hb⟩
set_option maxRecDepth 100000 in
theorem greater_w {a b:Rat} {x y:Nat} (ha:Fz a x) (hb:Fz b y) (h1:x≤34359738368) (h2:y≤34359738368):Good Tryz.prog 48 [fr a,fr b] (fr (grt a b)):=by
 have fa:=IsFr.c ha
 have fb:=IsFr.c hb
 refine good_of Tryz.func48 rfl (by kernel_rfl) fun X hO hrd=>?_;rw [Tryz.ntmps48,Tryz.results48];simp only [ast0,List.map_cons,List.map_nil,List.length_cons,List.length_nil,Nat.reduceAdd,Nat.reduceSub,List.replicate_succ,List.replicate_zero,List.cons_append,List.nil_append]
 (repeat (first|(with_reducible first|refine W_seq fun K hK=>?_|refine J_region ?_ |refine J_c ?_|(refine Kont.go (by assumption) ?_)|(simp (config:={ maxSteps:=3000000 }) (disch:=omega) only [go_sem,↓reduceIte,Nat.reduceAdd]))|refine call_f (cmp_w (by assumption) (by assumption) (by omega) (by omega)) rfl ?_))
 refine Jc_if (fun hlt=>?_) (fun hlt=>?_)<;>try simp only [decide_eq_true_eq,decide_eq_false_iff_not] at hlt
 ·have e:grt a b=b:=by unfold grt;rw [if_pos (cmpR_lt.1 hlt)]
  (repeat (with_reducible first|refine W_seq fun K hK=>?_|refine J_ret ?_|refine J_region ?_ |(refine Kont.go (by assumption) ?_)|(simp (config:={ maxSteps:=3000000 }) (disch:=omega) only [go_sem,↓reduceIte,Nat.reduceAdd])))
  rw [e];exact Frz.f _
 ·have e:grt a b=a:=by unfold grt;rw [if_neg fun hh=>hlt (cmpR_lt.2 hh)]
  (repeat (with_reducible first|refine W_seq fun K hK=>?_|refine J_skip ?_|refine J_ret ?_|refine J_region ?_ |(refine Kont.go (by assumption) ?_)|(simp (config:={ maxSteps:=3000000 }) (disch:=omega) only [go_sem,↓reduceIte,Nat.reduceAdd])))
  rw [e];exact Frz.f _
theorem join_grt:Join 48 grt:=⟨greater_w,fun ha hb=>by
 unfold grt
 split
 ·exact hb.up (by omega)
 ·exact ha.up (by omega)⟩
structure HOk (k : Nat) (fs ms ss : List FV) (st : List Rat) (mv sh : List (List Rat)) (seen : List Int) : Prop where
  f : HidF k fs ms ss st mv sh
  n1 : 1 ≤ st.length
  n4 : st.length ≤ 4
  lm : mv.length = st.length
  ls : sh.length = st.length
  rm : ∀ i, i < st.length → (mv.getD i []).length = st.length
  rs : ∀ i, i < st.length → (sh.getD i []).length = hidN sh
  t8 : seen.length ≤ 8
  se : ∀ t, t < seen.length → 0 ≤ seen.getD t 0 ∧ seen.getD t 0 < hidN sh
theorem mayE_ok {k:Nat} {fs ms ss:List FV} {st:List Rat} {mv sh:List (List Rat)} {seen:List Int} (hf:HidF k fs ms ss st mv sh) (h:mayE st mv sh seen=0):HOk k fs ms ss st mv sh seen:=by
 unfold mayE at h
 split at h
 ·rename_i hh;exact absurd h hh
 split at h
 ·cases h
 split at h
 ·cases h
 rename_i a b c
 obtain ⟨a1,a2,a3,a4,a5,a6,a7,_⟩:=hidE_ok (Classical.not_not.1 a)
 exact ⟨hf,a1,a2,a3,a4,fun i hi=>(a7 i hi).1,fun i hi=>(a7 i hi).2,by omega,Classical.not_not.1 c⟩
section
variable {k : Nat} {fs ms ss : List FV} {st : List Rat} {mv sh : List (List Rat)} {seen : List Int} {i j t : Nat}
theorem HOk.a3 (h:HOk k fs ms ss st mv sh seen) (hi:i<st.length):∃g n d,fs[i]?=some (frR g n d)∧IsFr (frR g n d) (st.getD i 0) k:=by
 obtain ⟨g,n,d,h1,h2⟩:=h.f.ist.at3 hi
 exact ⟨g,n,d,h1,by rw [lget_lt st 0 hi];exact h2⟩
theorem HOk.m3 (h:HOk k fs ms ss st mv sh seen) (hi:i<st.length) (hj:j<st.length):∃xs g n d,ms[i]?=some (.fz 3 xs)∧xs[j]?=some (frR g n d)∧IsFr (frR g n d) (at2 mv i j) k:=by
 have hi':i<mv.length:=by rw [h.lm];exact hi
 have hr:=h.rm i hi
 obtain ⟨xs,h1,h2⟩:=h.f.imv.at hi'
 rw [lget_lt mv [] hi'] at hr
 obtain ⟨g,n,d,h3,h4⟩:=h2.at3 (i:=j) (by rw [hr];exact hj)
 exact ⟨xs,g,n,d,h1,h3,by unfold at2;rw [lget_lt mv [] hi',lget_lt _ 0 (by rw [hr];exact hj)];exact h4⟩
theorem HOk.s3 (h:HOk k fs ms ss st mv sh seen) (hi:i<st.length) (ht:t<seen.length):∃xs g n d,ss[i]?=some (.fz 3 xs)∧xs[(seen.getD t 0).toNat]?=some (frR g n d)∧IsFr (frR g n d) (at2 sh i (seen.getD t 0).toNat) k:=by
 have hi':i<sh.length:=by rw [h.ls];exact hi
 have hr:=h.rs i hi
 have hs:=h.se t ht
 obtain ⟨xs,h1,h2⟩:=h.f.ish.at hi'
 rw [lget_lt sh [] hi'] at hr
 obtain ⟨g,n,d,h3,h4⟩:=h2.at3 (i:=(seen.getD t 0).toNat) (by rw [hr];omega)
 exact ⟨xs,g,n,d,h1,h3,by unfold at2;rw [lget_lt sh [] hi',lget_lt _ 0 (by rw [hr];omega)];exact h4⟩
theorem IsFr.of3 {g:Bool} {n d:ByteArray} {q:Rat} (h:IsFr (frR g n d) q k) (hk:1≤k):Fz q k:=h.fz hk
def szH (k:Nat):Nat→Nat
 | 0=>2*k+8
 | t+1=>4*szH k t+9*k+12
theorem szH_eq (k t:Nat):szH k t+3*k+4=(5*k+12)*4^t:=by
 induction t with
 | zero=>show 2*k+8+3*k+4=(5*k+12)*1;omega
 | succ t ih =>
  show 4*szH k t+9*k+12+3*k+4=(5*k+12)*4^(t+1)
  rw [Nat.pow_succ,←Nat.mul_assoc,←ih]
  omega
theorem szH_le {k t:Nat} (hk:k≤1000) (ht:t≤8):szH k t≤400000000:=by
 have h1:=szH_eq k t
 have h2:4^t≤4^8:=Nat.pow_le_pow_right (by decide) ht
 have h3:=Nat.mul_le_mul (show 5*k+12≤5012 by omega) h2
 have h4:(5012:Nat)*4^8≤400000000:=by decide
 omega
theorem opF_fz {op:Rat→Rat→Rat} {jj:FuncId} (hj:Join jj op) {f:Nat→Rat} {s:Nat}:∀{n:Nat},(∀k,k<n→Fz (f k) s)→Fz (opF op f n) (8+n*(s+1)):=by
 intro n
 induction n with
 | zero=>intro _;exact (Fz.int (n:=0) (by decide)).up (by omega)
 | succ n ih=>intro h;exact (hj.fz (ih fun k hk=>h k (by omega)) (h n (by omega))).up (by rw [Nat.add_mul];omega)
theorem HOk.hA (h:HOk k fs ms ss st mv sh seen) (h1:1≤k) (hi:i<st.length):Fz ((hm st mv sh seen).a i) k:=by
 obtain ⟨g,n,d,_,h2⟩:=h.a3 hi
 exact h2.fz h1
theorem HOk.hM (h:HOk k fs ms ss st mv sh seen) (h1:1≤k) (hi:i<st.length) (hj:j<st.length):Fz ((hm st mv sh seen).mv i j) k:=by
 obtain ⟨xs,g,n,d,_,_,h2⟩:=h.m3 hi hj
 exact h2.fz h1
theorem HOk.hS (h:HOk k fs ms ss st mv sh seen) (h1:1≤k) (hi:i<st.length) (ht:t<seen.length):Fz ((hm st mv sh seen).sh i ((hm st mv sh seen).s t)) k:=by
 obtain ⟨xs,g,n,d,_,_,h2⟩:=h.s3 hi ht
 exact h2.fz h1
theorem HOk.fA (h:HOk k fs ms ss st mv sh seen) (h1:1≤k) {op:Rat→Rat→Rat} {jj:FuncId} (hj:Join jj op):∀{t:Nat},t<seen.length→∀{i},i<st.length→Fz ((hm st mv sh seen).gA op t i) (szH k t):=by
 intro t
 induction t with
 | zero=>intro ht i hi;exact ((h.hA h1 hi).mul (h.hS h1 hi ht)).up (by show k+k≤2*k+8;omega)
 | succ t ih =>
  intro ht i hi
  have n4:(hm st mv sh seen).n≤4:=h.n4
  have f1:=opF_fz hj (f:=fun k=>(hm st mv sh seen).gA op t k*(hm st mv sh seen).mv k i) (n:=(hm st mv sh seen).n) (s:=szH k t+k) fun q hq=>(ih (by omega) hq).mul (h.hM h1 hq hi)
  refine (f1.mul (h.hS h1 hi ht)).up ?_
  have:=Nat.mul_le_mul_right (szH k t+k+1) n4
  show _≤4*szH k t+9*k+12
  omega
theorem HOk.fU (h:HOk k fs ms ss st mv sh seen) (h1:1≤k) {op:Rat→Rat→Rat} {jj:FuncId} (hj:Join jj op):∀{u:Nat},u<seen.length→∀{i},i<st.length→Fz ((hm st mv sh seen).gU op u i) (szH k u):=by
 intro u
 induction u with
 | zero=>intro hu i hi;exact (Fz.int (n:=1) (by decide)).up (by show 8≤2*k+8;omega)
 | succ u ih =>
  intro hu i hi
  have n4:(hm st mv sh seen).n≤4:=h.n4
  have hT:(hm st mv sh seen).T=seen.length:=rfl
  have f1:=opF_fz hj (f:=fun k=>(hm st mv sh seen).mv i k*(hm st mv sh seen).sh k ((hm st mv sh seen).s ((hm st mv sh seen).T-1-u))*(hm st mv sh seen).gU op u k) (n:=(hm st mv sh seen).n) (s:=k+k+szH k u) fun q hq=>((h.hM h1 hi hq).mul (h.hS h1 hq (by omega))).mul (ih (by omega) hq)
  refine f1.up ?_
  have:=Nat.mul_le_mul_right (k+k+szH k u+1) n4
  show _≤4*szH k u+9*k+12
  omega
end
def aRow (h:HM) (op:Rat→Rat→Rat) (t:Nat):List Rat:=(List.range h.n).map (h.gA op t)
def aR (h:HM) (op:Rat→Rat→Rat) (x:Nat):List (List Rat):=(List.range x).map (aRow h op)
theorem aR_len {h:HM} {op:Rat→Rat→Rat} {x:Nat}:(aR h op x).length=x:=by simp [aR]
theorem aRow_len {h:HM} {op:Rat→Rat→Rat} {t:Nat}:(aRow h op t).length=h.n:=by simp [aRow]
theorem aR_next {h:HM} {op:Rat→Rat→Rat} {x:Nat}:(aR h op x).map frs++[frs (aRow h op x)]=(aR h op (x+1)).map frs:=by simp [aR,List.range_succ]
theorem aR_get {h:HM} {op:Rat→Rat→Rat} {x i:Nat} (hi:i<x):((aR h op x).map frs)[i]?=some (frs (aRow h op i)):=by simp [aR,hi]
theorem aR_getA {h:HM} {op:Rat→Rat→Rat} {x i:Nat} (hi:i<x):(((aR h op x).map frs).map AV.f)[i]?=some (.f (frs (aRow h op i))):=by rw [List.getElem?_map,aR_get hi];rfl
theorem aRow_get {h:HM} {op:Rat→Rat→Rat} {t i:Nat} (hi:i<h.n):((aRow h op t).map fr)[i]?=some (fr (h.gA op t i)):=by simp [aRow,hi]
set_option maxRecDepth 100000 in
set_option maxHeartbeats 8000000 in
theorem ahead_w {k:Nat} {fs ms ss:List FV} {st:List Rat} {mv sh:List (List Rat)} {seen:List Int} (h:HOk k fs ms ss st mv sh seen) (h1:1≤k) (hk:k≤1000) (hs:∀x∈seen,-9223372036854775808≤x∧x≤9223372036854775807) {jj:FuncId} {op:Rat→Rat→Rat} (hj:Join jj op) :
  Good Tryz.prog 39 [hidV fs ms ss,ints seen,.fn jj [] []] (rowsF (aR (hm st mv sh seen) op seen.length)):=by
 have hn4:=h.n4
 have hn1:=h.n1
 have ht8:=h.t8
 obtain ⟨m,hm_⟩:∃m,m=hm st mv sh seen:=⟨_,rfl⟩
 rw [←hm_]
 have hmn:m.n=st.length:=by rw [hm_];rfl
 refine good_of Tryz.func39 rfl (by kernel_rfl) fun X hO hrd=>?_;rw [Tryz.ntmps39,Tryz.results39];simp only [ast0,List.map_cons,List.map_nil,List.length_cons,List.length_nil,Nat.reduceAdd,Nat.reduceSub,List.replicate_succ,List.replicate_zero,List.cons_append,List.nil_append]
 (repeat (with_reducible first|refine W_seq fun K hK=>?_|refine J_block ?_|refine J_region ?_ |(refine Kont.go (by assumption) ?_)|(simp (config:={ maxSteps:=3000000 }) (disch:=omega) only [go_sem,Nat.reduceAdd,List.length_map])))
 refine J_reserve ?_
 refine W_loop [7,8,9,10,11,12,13,16,17,18,19,20,21,22,23,24,25,26,27,28,29,30,31,32,33,34,35,36,37,38,39,40,41,42,43,44,45,46,47,48,49,50,51,52,53,54,55,56,57,58,59,60,61,62,63,64,65,66,67,68,69,70,71,72,73,74,75,76,77,78,79,80,81,82,83,84,85,86,87,88,89,90,91,92,93,94,95,96,97] (fun x:Nat=>[(16,.f (I x)),(7,sl 1 1 ((aR m op x).map frs))]) (fun x:Nat=>[some ⟨25,3,[.f (hidV fs ms ss)]⟩,ob 22 1 ((aR m op x).map frs)]) (fun x:Nat=>x≤seen.length) (fun x:Nat=>seen.length-x) (0) (Nat.zero_le _) (by refine weak_of ?_ ?_<;>simp (disch:=omega) only [go_sem,Nat.reduceAdd]<;>first|rfl|exact ⟨rfl,rfl⟩|exact Or.inl rfl|exact ⟨Or.inl rfl,Or.inl rfl⟩|trivial|assumption|omega|(symm;assumption)|((repeat' apply And.intro)<;>first|rfl|omega|trivial|exact .inl rfl|exact .inr ⟨rfl,rfl⟩|exact .inr rfl|(right;symm;assumption)|(symm;assumption)|assumption)) ?_
 rintro t ht
 simp only [go_sem]
 (repeat (with_reducible first|refine W_seq fun K hK=>?_|refine J_region ?_ |refine J_c ?_|(refine Kont.go (by assumption) ?_)|(simp (config:={ maxSteps:=3000000 }) (disch:=omega) only [go_sem])))
 refine Jc_if (fun hlt=>?_) (fun hlt=>?_)<;>try simp only [decide_eq_true_eq,decide_eq_false_iff_not] at hlt
 ·have hsb:=hs _ (List.getElem_mem hlt)
  have hse:=h.se t hlt
  rw [lget_lt seen 0 hlt] at hse
  have hrep:List.replicate st.length (AV.f frN)=(fillL st.length 0 (fun i=>fr (m.gA op t i)) frN).map .f:=by rw [fill_zero,List.map_replicate]
  (repeat (first|(with_reducible first|refine W_seq fun K hK=>?_|refine J_block ?_|refine J_skip ?_|refine J_region ?_ |(refine Kont.go (by assumption) ?_)|(simp (config:={ maxSteps:=3000000 }) (disch:=omega) only [go_sem,↓reduceIte,Nat.reduceAdd,map_get I seen hlt,h.f.ist.len,hrep]))|refine And.intro (by omega) ?_))
  refine W_loop [11,12,13,27,28,29,30,31,32,33,34,35,36,37,38,39,40,41,42,43,44,45,46,47,48,49,50,51,52,53,54,55,56,57,58,59,60,61,62,63,64,65,66,67,68,69,70,71,72,73,74,75,76,77,78,79,80,81,82,83,84,85,86,87,88,89,90,91,92] (fun x:Nat=>[(27,.f (I x))]) (fun x:Nat=>[some ⟨25,3,[.f (hidV fs ms ss)]⟩,ob 22 1 ((aR m op t).map frs),some ⟨30,3,(fillL st.length x (fun i=>fr (m.gA op t i)) frN).map .f⟩]) (fun x:Nat=>x≤st.length) (fun x:Nat=>st.length-x) (0) (Nat.zero_le _) (by refine weak_of ?_ ?_<;>simp (disch:=omega) only [go_sem,Nat.reduceAdd]<;>first|rfl|exact ⟨rfl,rfl⟩|exact Or.inl rfl|exact ⟨Or.inl rfl,Or.inl rfl⟩|trivial|assumption|omega|(symm;assumption)|((repeat' apply And.intro)<;>first|rfl|omega|trivial|exact .inl rfl|exact .inr ⟨rfl,rfl⟩|exact .inr rfl|(right;symm;assumption)|(symm;assumption)|assumption)) ?_
  rintro i hi
  simp only [go_sem]
  (repeat (with_reducible first|refine W_seq fun K hK=>?_|refine J_region ?_ |refine J_c ?_|(refine Kont.go (by assumption) ?_)|(simp (config:={ maxSteps:=3000000 }) (disch:=omega) only [go_sem])))
  refine Jc_if (fun hil=>?_) (fun hil=>?_)<;>try simp only [decide_eq_true_eq,decide_eq_false_iff_not] at hil
  ·obtain ⟨g1,n1,d1,x1,f1⟩:=h.a3 hil
   obtain ⟨xs2,g2,n2,d2,y2,x2,f2⟩:=h.s3 hil hlt
   rw [lget_lt seen 0 hlt] at x2 f2
   have c1:IsFr (fr (st.getD i 0)) (st.getD i 0) k:=IsFr.c (h.hA h1 hil)
   have hgetL:∀y,(((fillL st.length i (fun i=>fr (m.gA op t i)) frN).map AV.f).set i y)[i]?=some y:=fun y=>List.getElem?_set_self (by simp [fill_len,hil])
   have hsetL:=fillA_set (f:=fun i=>fr (m.gA op t i)) (z:=frN) hil rfl
   by_cases t0:t=0
   ·subst t0
    have e1:st.getD i 0*at2 sh i seen[0].toNat=m.gA op 0 i:=by rw [hm_];show _=_*at2 sh i (seen.getD 0 0).toNat;rw [lget_lt seen 0 hlt];rfl
    (repeat (first|(with_reducible first|refine W_seq fun K hK=>?_|refine J_block ?_|refine J_skip ?_|refine J_region ?_ |refine J_drawn mixed (by kernel_rfl) ?_|refine J_c ?_|refine Jc_false ?_|(refine Kont.go (by assumption) ?_)|(simp (config:={ maxSteps:=3000000 }) (disch:=omega) only [go_sem,↓reduceIte,Nat.reduceAdd,x1,fillA_get hil,hgetL,List.set_set,hil,y2,x2,e1]))|refine callQ_f (mul_w (by assumption) (by assumption) (by omega) (by omega)) rfl ?_|refine call_f (canon_w (by assumption) (by omega)) rfl ?_|refine And.intro (by omega) ?_))
    refine ⟨i+1,by omega,by omega,weak_of ?_ ?_⟩<;>(try simp (disch:=omega) only [go_sem,Nat.reduceAdd])<;>(try first|done|omega|rfl|exact ⟨rfl,rfl⟩|trivial)
   ·have tp:0<t:=by omega
    obtain ⟨t',rfl⟩:∃t',t=t'+1:=⟨t-1,by omega⟩
    have e1:(((t'+1:Nat):Int)-1)=(t':Int):=by omega
    have l1:=aR_getA (h:=m) (op:=op) (x:=t'+1) (i:=t') (by omega)
    (repeat (first|(with_reducible first|refine W_seq fun K hK=>?_|refine J_block ?_|refine J_skip ?_|refine J_region ?_ |refine J_c ?_|refine Jc_true ?_|(refine Kont.go (by assumption) ?_)|(simp (config:={ maxSteps:=3000000 }) (disch:=omega) only [go_sem,↓reduceIte,Nat.reduceAdd,List.length_map,x1,fillA_get hil,hgetL,List.set_set,hil,e1,aR_len,l1,aRow_len,hmn,tp]))|refine call_f (of_good (by omega) (by omega)) rfl ?_|refine call_f (canon_w (by assumption) (by omega)) rfl ?_))
    have z0:fr ((0:Int):Rat)=fr (opF op (fun k=>m.gA op t' k*m.mv k i) 0):=rfl
    refine W_loop [12,13,51,52,53,54,55,56,57,58,59,60,61,62,63,64,65,66,67,68,69,70,71,72,73,74,75] (fun x:Nat=>[(51,.f (I x))]) (fun x:Nat=>[some ⟨25,3,[.f (hidV fs ms ss)]⟩,ob 22 1 ((aR m op (t'+1)).map frs),some ⟨30,3,((fillL st.length i (fun i=>fr (m.gA op (t'+1) i)) frN).map .f).set i (.f (fr (opF op (fun k=>m.gA op t' k*m.mv k i) x)))⟩]) (fun x:Nat=>x≤st.length) (fun x:Nat=>st.length-x) (0) (Nat.zero_le _) (by refine weak_of ?_ ?_<;>simp (disch:=omega) only [go_sem,Nat.reduceAdd]<;>first|rfl|exact ⟨rfl,rfl⟩|exact Or.inl rfl|exact ⟨Or.inl rfl,Or.inl rfl⟩|trivial|assumption|omega|(symm;assumption)|((repeat' apply And.intro)<;>first|rfl|omega|trivial|exact .inl rfl|exact .inr ⟨rfl,rfl⟩|exact .inr rfl|(right;symm;assumption)|(symm;assumption)|assumption)) ?_
    rintro q hq
    simp only [go_sem]
    (repeat (with_reducible first|refine W_seq fun K hK=>?_|refine J_region ?_ |refine J_c ?_|(refine Kont.go (by assumption) ?_)|(simp (config:={ maxSteps:=3000000 }) (disch:=omega) only [go_sem])))
    refine Jc_if (fun hql=>?_) (fun hql=>?_)<;>try simp only [decide_eq_true_eq,decide_eq_false_iff_not] at hql
    ·obtain ⟨xs3,g3,n3,d3,y3,x3,f3⟩:=h.m3 hql hil
     have fa:=h.fA h1 hj (t:=t') (by omega) hql
     rw [←hm_] at fa
     have ca:=IsFr.c fa
     have sa:=szH_le (k:=k) (t:=t') hk (by omega)
     have l2:=aRow_get (h:=m) (op:=op) (t:=t') (i:=q) (by omega)
     have fo:=opF_fz hj (f:=fun k=>m.gA op t' k*m.mv k i) (n:=q) (s:=szH k t'+k) fun q' hq'=>by
      have:=(h.fA h1 hj (t:=t') (by omega) (i:=q') (by omega)).mul (h.hM h1 (i:=q') (j:=i) (by omega) hil)
      rw [←hm_] at this;exact this
     have so:=Nat.mul_le_mul (show q≤4 by omega) (show szH k t'+k+1≤400001001 by omega)
     have fm:=h.hM h1 hql hil
     rw [←hm_] at fm
     have emv:at2 mv q i=m.mv q i:=by rw [hm_];rfl
     rw [emv] at f3
     (repeat (first|(with_reducible first|refine W_seq fun K hK=>?_|refine J_block ?_|refine J_skip ?_|refine J_region ?_ |refine J_drawn mixed (by kernel_rfl) ?_|(refine Kont.go (by assumption) ?_)|(simp (config:={ maxSteps:=3000000 }) (disch:=omega) only [go_sem,↓reduceIte,Nat.reduceAdd,List.length_map,hgetL,List.set_set,hil,l2,x3,y3]))|refine callQ_f (mul_w (by assumption) (by assumption) (by omega) (by omega)) rfl ?_))
     refine callQ_f (hj.good fo (fa.mul fm) (by omega) (by omega)) rfl ?_
     (repeat (with_reducible first|refine J_region ?_ |(refine Kont.go (by assumption) ?_)|(simp (config:={ maxSteps:=3000000 }) (disch:=omega) only [go_sem,Nat.reduceAdd])))
     refine ⟨q+1,by omega,by omega,weak_of ?_ ?_⟩<;>(try simp (disch:=omega) only [go_sem,Nat.reduceAdd])<;>(try first|done|omega|rfl|exact ⟨rfl,rfl⟩|trivial)
    ·have he:q=st.length:=by omega
     subst he
     have e2:opF op (fun k=>m.gA op t' k*m.mv k i) st.length*at2 sh i seen[t'+1].toNat=m.gA op (t'+1) i:=by
      show _=opF op _ m.n*m.sh i (m.s (t'+1))
      rw [hmn,hm_];show _=_*at2 sh i (seen.getD (t'+1) 0).toNat;rw [lget_lt seen 0 hlt]
     have fo:=opF_fz hj (f:=fun k=>m.gA op t' k*m.mv k i) (n:=st.length) (s:=szH k t'+k) fun q' hq'=>by
      have:=(h.fA h1 hj (t:=t') (by omega) (i:=q') (by omega)).mul (h.hM h1 (i:=q') (j:=i) (by omega) hil)
      rw [←hm_] at this;exact this
     have co:=IsFr.c fo
     have sa:=szH_le (k:=k) (t:=t') hk (by omega)
     have so:=Nat.mul_le_mul (show st.length≤4 by omega) (show szH k t'+k+1≤400001001 by omega)
     (repeat (first|(with_reducible first|refine J_exit ?_|refine J_region ?_ |refine J_drawn mixed (by kernel_rfl) ?_|(refine Kont.go (by assumption) ?_)|(simp (config:={ maxSteps:=3000000 }) (disch:=omega) only [go_sem,↓reduceIte,Nat.reduceAdd,hgetL,List.set_set,hil,y2,x2,e2]))|refine callQ_f (mul_w (by assumption) (by assumption) (by omega) (by omega)) rfl ?_|refine And.intro (by omega) ?_))
     refine ⟨i+1,by omega,by omega,weak_of ?_ ?_⟩<;>(try simp (disch:=omega) only [go_sem,Nat.reduceAdd])<;>(try first|done|omega|rfl|exact ⟨rfl,rfl⟩|trivial)
  ·have he:i=st.length:=by omega
   subst he
   have hfa:fillL st.length st.length (fun i=>fr (m.gA op t i)) frN=(aRow m op t).map fr:=by rw [fill_all,aRow,List.map_map,hmn];rfl
   have hfl:st.length=((aRow m op t).map fr).length:=by rw [List.length_map,aRow_len,hmn]
   (repeat (with_reducible first|refine J_exit ?_|(refine Kont.go (by assumption) ?_)|(simp (config:={ maxSteps:=3000000 }) (disch:=omega) only [go_sem,↓reduceIte,hfa])))
   refine J_freezeO (j:=10) rfl hfl rfl ?_
   (repeat (first|(with_reducible first|refine J_region ?_ |refine aApp_sl ?_|(refine Kont.go (by assumption) ?_)|(simp (config:={ maxSteps:=3000000 }) (disch:=omega) only [go_sem,Nat.reduceEqDiff,↓reduceIte,Nat.reduceAdd,Nat.reduceLeDiff,aR_next,List.length_map,aR_len]))|refine And.intro (by omega) ?_))
   refine ⟨t+1,by omega,by omega,weak_of ?_ ?_⟩<;>(try simp (disch:=omega) only [go_sem,Nat.reduceAdd])<;>(try first|done|omega|rfl|exact ⟨rfl,rfl⟩|trivial)
 ·have he:t=seen.length:=by omega
  subst he
  (repeat (with_reducible first|refine W_seq fun K hK=>?_|refine J_exit ?_|refine J_ret ?_|refine J_region ?_ |(refine Kont.go (by assumption) ?_)|(simp (config:={ maxSteps:=3000000 }) (disch:=omega) only [go_sem,↓reduceIte])))
  exact Frz.sl rfl
end Go.Proofs.YtfjgijkhmhhkdaaGreatDoor
set_option linter.unusedVariables false
set_option linter.unusedSimpArgs false
namespace Go.Proofs.YtfjgijkhmhhkdaaGreatDoor
open Go Go.RowKit
def hidO (h:List F3 × List (List F3) × List (List F3)):FV:=.agg [raws h.1,.fz 1 (h.2.1.map raws),.fz 1 (h.2.2.map raws)]
def OkRows (q:List (List F3)):Prop:=q.length≤140737488355328∧∀r∈q,OkFs r
set_option maxRecDepth 100000 in
set_option maxHeartbeats 8000000 in
theorem heavyHidden_w (p:List F3) (m q:List (List F3)) (hp:OkFs p) (hm:OkRows m) (hq:OkRows q):Good Tryz.prog 5 [hidO (p,m,q)] (Bo (decide (700<rbGo (rbGo (fbN p) m) q))):=by
 have bp:=fbN_le hp
 obtain ⟨A,hA⟩:∃A,A=rbGo (fbN p) m:=⟨_,rfl⟩
 have hAl:A≤422212465065984+700:=by rw [hA];exact rbGo_le hm.2 (by omega)
 obtain ⟨R,hR⟩:∃R,R=rbGo A q:=⟨_,rfl⟩
 have hRl:R≤422212465065984+700:=by rw [hR];exact rbGo_le hq.2 hAl
 rw [←hA,←hR]
 obtain ⟨hv,hhv⟩:∃hv,hv=hidO (p,m,q):=⟨_,rfl⟩
 have e0:hidO (p,m,q)=.agg [raws p,.fz 1 (m.map raws),.fz 1 (q.map raws)]:=rfl
 rw [e0]
 have hm1:=hm.1
 have hq1:=hq.1
 refine good_of Tryz.func5 rfl (by kernel_rfl) fun X hO hrd=>?_;rw [Tryz.ntmps5,Tryz.results5];simp only [ast0,List.map_cons,List.map_nil,List.length_cons,List.length_nil,Nat.reduceAdd,Nat.reduceSub,List.replicate_succ,List.replicate_zero,List.cons_append,List.nil_append]
 (repeat (with_reducible first|refine W_seq fun K hK=>?_|refine J_region ?_ |(refine Kont.go (by assumption) ?_)|(simp (config:={ maxSteps:=3000000 }) (disch:=omega) only [go_sem,↓reduceIte,Nat.reduceAdd])))
 refine call_f (fracBytes_w p hp) rfl ?_
 (repeat (with_reducible first|refine W_seq fun K hK=>?_|refine J_block ?_|refine J_region ?_ |(refine Kont.go (by assumption) ?_)|(simp (config:={ maxSteps:=3000000 }) (disch:=omega) only [go_sem])))
 refine W_loop [3,4,9,10,11,12,13,14,15,16,17,18,19,20,21,22,23,24,25,26,27] (fun x:Nat × Nat=>[(4,.f (I x.1)),(3,.f (I x.2))]) (fun x:Nat × Nat=>[some ⟨25,3,[.f (.agg [raws p,.fz 1 (m.map raws),.fz 1 (q.map raws)])]⟩]) (fun x:Nat × Nat=>x.1≤m.length∧rbGo x.2 (m.drop x.1)=A) (fun x:Nat × Nat=>m.length-x.1) ((0,fbN p)) (⟨Nat.zero_le _,hA.symm⟩) (by refine weak_of ?_ ?_<;>simp (disch:=omega) only [go_sem]<;>first|rfl|exact ⟨rfl,rfl⟩|exact Or.inl rfl|exact ⟨Or.inl rfl,Or.inl rfl⟩|trivial|assumption|omega|(symm;assumption)|((repeat' apply And.intro)<;>first|rfl|omega|trivial|exact .inl rfl|exact .inr ⟨rfl,rfl⟩|exact .inr rfl|(right;symm;assumption)|(symm;assumption)|assumption)) ?_
 rintro ⟨i,c⟩ ⟨hi,hc⟩
 simp only at hi
 have hcR:c≤A:=by rw [←hc];exact rbGo_ge
 have exit0:c=A→True:=fun _=>trivial
 simp only [go_sem]
 by_cases hgo:i<m.length∧c≤700
 ·obtain ⟨hlt,hle⟩:=hgo
  have hd:m.drop i=m[i]::m.drop (i+1):=List.drop_eq_getElem_cons hlt
  rw [hd] at hc
  simp only at hc
  unfold rbGo at hc
  have br:=fbN_le (hm.2 _ (List.getElem_mem hlt))
  rw [if_pos hle] at hc
  have hle':(c:Int)≤700:=by omega
  (repeat (with_reducible first|refine W_seq fun K hK=>?_|refine J_block ?_|refine J_skip ?_|refine J_region ?_ |refine J_c ?_|refine Jc_true ?_|(refine Kont.go (by assumption) ?_)|(simp (config:={ maxSteps:=3000000 }) (disch:=omega) only [go_sem,↓reduceIte,List.length_map,hlt,hle',map_get raws m hlt,true_and])))
  refine call_f (fracBytes_w m[i] (hm.2 _ (List.getElem_mem hlt))) rfl ?_
  (repeat (with_reducible first|refine J_region ?_ |(refine Kont.go (by assumption) ?_)|(simp (config:={ maxSteps:=3000000 }) (disch:=omega) only [go_sem])))
  refine ⟨(i+1,c+fbN m[i]),⟨by simp only;omega,hc⟩,by simp only;omega,weak_of ?_ ?_⟩<;>(try simp (disch:=omega) only [go_sem])<;>(try first|done|omega|rfl|exact ⟨rfl,rfl⟩|trivial)
 ·have hcA:c=A:=by
   by_cases hlt:i<m.length
   ·have hd:m.drop i=m[i]::m.drop (i+1):=List.drop_eq_getElem_cons hlt
    rw [hd] at hc
    simp only at hc
    unfold rbGo at hc
    rw [if_neg (by omega)] at hc
    exact hc
   ·rw [List.drop_of_length_le (by omega)] at hc
    exact hc
  subst hcA
  by_cases hlt:i<m.length
  ·have hle':¬(c:Int)≤700:=by omega
   (repeat (with_reducible first|refine W_seq fun K hK=>?_|refine J_block ?_|refine J_exit ?_|refine J_region ?_ |refine J_c ?_|refine Jc_false ?_|(refine Kont.go (by assumption) ?_)|(simp (config:={ maxSteps:=3000000 }) (disch:=omega) only [go_sem,↓reduceIte,List.length_map,hlt,hle',true_and])))
   refine W_loop [3,5,28,29,30,31,32,33,34,35,36,37,38,39,40,41,42,43,44,45,46] (fun x:Nat × Nat=>[(5,.f (I x.1)),(3,.f (I x.2))]) (fun x:Nat × Nat=>[some ⟨25,3,[.f (.agg [raws p,.fz 1 (m.map raws),.fz 1 (q.map raws)])]⟩]) (fun x:Nat × Nat=>x.1≤q.length∧rbGo x.2 (q.drop x.1)=R) (fun x:Nat × Nat=>q.length-x.1) ((0,c)) (⟨Nat.zero_le _,hR.symm⟩) (by refine weak_of ?_ ?_<;>simp (disch:=omega) only [go_sem]<;>first|rfl|exact ⟨rfl,rfl⟩|exact Or.inl rfl|exact ⟨Or.inl rfl,Or.inl rfl⟩|trivial|assumption|omega|(symm;assumption)|((repeat' apply And.intro)<;>first|rfl|omega|trivial|exact .inl rfl|exact .inr ⟨rfl,rfl⟩|exact .inr rfl|(right;symm;assumption)|(symm;assumption)|assumption)) ?_
   rintro ⟨j,d⟩ ⟨hj,hdc⟩
   simp only at hj
   have hdR:d≤R:=by rw [←hdc];exact rbGo_ge
   simp only [go_sem]
   by_cases hgo2:j<q.length∧d≤700
   ·obtain ⟨hlt2,hle2⟩:=hgo2
    have hd:q.drop j=q[j]::q.drop (j+1):=List.drop_eq_getElem_cons hlt2
    rw [hd] at hdc
    simp only at hdc
    unfold rbGo at hdc
    have br:=fbN_le (hq.2 _ (List.getElem_mem hlt2))
    rw [if_pos hle2] at hdc
    have hle2':(d:Int)≤700:=by omega
    (repeat (with_reducible first|refine W_seq fun K hK=>?_|refine J_block ?_|refine J_skip ?_|refine J_region ?_ |refine J_c ?_|refine Jc_true ?_|(refine Kont.go (by assumption) ?_)|(simp (config:={ maxSteps:=3000000 }) (disch:=omega) only [go_sem,↓reduceIte,List.length_map,hlt2,hle2',map_get raws q hlt2,true_and])))
    refine call_f (fracBytes_w q[j] (hq.2 _ (List.getElem_mem hlt2))) rfl ?_
    (repeat (with_reducible first|refine J_region ?_ |(refine Kont.go (by assumption) ?_)|(simp (config:={ maxSteps:=3000000 }) (disch:=omega) only [go_sem])))
    refine ⟨(j+1,d+fbN q[j]),⟨by simp only;omega,hdc⟩,by simp only;omega,weak_of ?_ ?_⟩<;>(try simp (disch:=omega) only [go_sem])<;>(try first|done|omega|rfl|exact ⟨rfl,rfl⟩|trivial)
   ·by_cases hlt2:j<q.length
    ·have hd:q.drop j=q[j]::q.drop (j+1):=List.drop_eq_getElem_cons hlt2
     rw [hd] at hdc
     simp only at hdc
     unfold rbGo at hdc
     rw [if_neg (by omega)] at hdc
     have hle2':¬(d:Int)≤700:=by omega
     subst hdc
     (repeat (with_reducible first|refine W_seq fun K hK=>?_|refine J_exit ?_|refine J_ret ?_|refine J_region ?_ |refine J_c ?_|refine Jc_false ?_|(refine Kont.go (by assumption) ?_)|(simp (config:={ maxSteps:=3000000 }) (disch:=omega) only [go_sem,↓reduceIte,List.length_map,hlt2,hle2',true_and])))
     rw [show decide ((700:Int)<(d:Int))=decide (700<d) by congr 1;exact propext ⟨fun h=>by omega,fun h=>by omega⟩]
     exact Frz.f _
    ·rw [List.drop_of_length_le (by omega)] at hdc
     simp only at hdc
     unfold rbGo at hdc
     subst hdc
     (repeat (with_reducible first|refine W_seq fun K hK=>?_|refine J_exit ?_|refine J_ret ?_|refine J_region ?_ |refine J_c ?_|refine Jc_false ?_|(refine Kont.go (by assumption) ?_)|(simp (config:={ maxSteps:=3000000 }) (disch:=omega) only [go_sem,↓reduceIte,List.length_map,hlt2,true_and])))
     rw [show decide ((700:Int)<(d:Int))=decide (700<d) by congr 1;exact propext ⟨fun h=>by omega,fun h=>by omega⟩]
     exact Frz.f _
  ·(repeat (with_reducible first|refine W_seq fun K hK=>?_|refine J_block ?_|refine J_exit ?_|refine J_region ?_ |refine J_c ?_|refine Jc_false ?_|(refine Kont.go (by assumption) ?_)|(simp (config:={ maxSteps:=3000000 }) (disch:=omega) only [go_sem,↓reduceIte,List.length_map,hlt,true_and])))
   refine W_loop [3,5,28,29,30,31,32,33,34,35,36,37,38,39,40,41,42,43,44,45,46] (fun x:Nat × Nat=>[(5,.f (I x.1)),(3,.f (I x.2))]) (fun x:Nat × Nat=>[some ⟨25,3,[.f (.agg [raws p,.fz 1 (m.map raws),.fz 1 (q.map raws)])]⟩]) (fun x:Nat × Nat=>x.1≤q.length∧rbGo x.2 (q.drop x.1)=R) (fun x:Nat × Nat=>q.length-x.1) ((0,c)) (⟨Nat.zero_le _,hR.symm⟩) (by refine weak_of ?_ ?_<;>simp (disch:=omega) only [go_sem]<;>first|rfl|exact ⟨rfl,rfl⟩|exact Or.inl rfl|exact ⟨Or.inl rfl,Or.inl rfl⟩|trivial|assumption|omega|(symm;assumption)|((repeat' apply And.intro)<;>first|rfl|omega|trivial|exact .inl rfl|exact .inr ⟨rfl,rfl⟩|exact .inr rfl|(right;symm;assumption)|(symm;assumption)|assumption)) ?_
   rintro ⟨j,d⟩ ⟨hj,hdc⟩
   simp only at hj
   have hdR:d≤R:=by rw [←hdc];exact rbGo_ge
   simp only [go_sem]
   by_cases hgo2:j<q.length∧d≤700
   ·obtain ⟨hlt2,hle2⟩:=hgo2
    have hd:q.drop j=q[j]::q.drop (j+1):=List.drop_eq_getElem_cons hlt2
    rw [hd] at hdc
    simp only at hdc
    unfold rbGo at hdc
    have br:=fbN_le (hq.2 _ (List.getElem_mem hlt2))
    rw [if_pos hle2] at hdc
    have hle2':(d:Int)≤700:=by omega
    (repeat (with_reducible first|refine W_seq fun K hK=>?_|refine J_block ?_|refine J_skip ?_|refine J_region ?_ |refine J_c ?_|refine Jc_true ?_|(refine Kont.go (by assumption) ?_)|(simp (config:={ maxSteps:=3000000 }) (disch:=omega) only [go_sem,↓reduceIte,List.length_map,hlt2,hle2',map_get raws q hlt2,true_and])))
    refine call_f (fracBytes_w q[j] (hq.2 _ (List.getElem_mem hlt2))) rfl ?_
    (repeat (with_reducible first|refine J_region ?_ |(refine Kont.go (by assumption) ?_)|(simp (config:={ maxSteps:=3000000 }) (disch:=omega) only [go_sem])))
    refine ⟨(j+1,d+fbN q[j]),⟨by simp only;omega,hdc⟩,by simp only;omega,weak_of ?_ ?_⟩<;>(try simp (disch:=omega) only [go_sem])<;>(try first|done|omega|rfl|exact ⟨rfl,rfl⟩|trivial)
   ·by_cases hlt2:j<q.length
    ·have hd:q.drop j=q[j]::q.drop (j+1):=List.drop_eq_getElem_cons hlt2
     rw [hd] at hdc
     simp only at hdc
     unfold rbGo at hdc
     rw [if_neg (by omega)] at hdc
     have hle2':¬(d:Int)≤700:=by omega
     subst hdc
     (repeat (with_reducible first|refine W_seq fun K hK=>?_|refine J_exit ?_|refine J_ret ?_|refine J_region ?_ |refine J_c ?_|refine Jc_false ?_|(refine Kont.go (by assumption) ?_)|(simp (config:={ maxSteps:=3000000 }) (disch:=omega) only [go_sem,↓reduceIte,List.length_map,hlt2,hle2',true_and])))
     rw [show decide ((700:Int)<(d:Int))=decide (700<d) by congr 1;exact propext ⟨fun h=>by omega,fun h=>by omega⟩]
     exact Frz.f _
    ·rw [List.drop_of_length_le (by omega)] at hdc
     simp only at hdc
     unfold rbGo at hdc
     subst hdc
     (repeat (with_reducible first|refine W_seq fun K hK=>?_|refine J_exit ?_|refine J_ret ?_|refine J_region ?_ |refine J_c ?_|refine Jc_false ?_|(refine Kont.go (by assumption) ?_)|(simp (config:={ maxSteps:=3000000 }) (disch:=omega) only [go_sem,↓reduceIte,List.length_map,hlt2,true_and])))
     rw [show decide ((700:Int)<(d:Int))=decide (700<d) by congr 1;exact propext ⟨fun h=>by omega,fun h=>by omega⟩]
     exact Frz.f _
end Go.Proofs.YtfjgijkhmhhkdaaGreatDoor
set_option linter.unusedVariables false
set_option linter.unusedSimpArgs false
namespace Go.Proofs.YtfjgijkhmhhkdaaGreatDoor
open Go Go.RowKit
set_option maxRecDepth 100000 in
set_option maxHeartbeats 1000000 in
theorem rtext_any (a:ByteArray) (w:World) (ha:a.size≤137438953472) :
  Calls Tryz.prog 55 #[.string a] w (RetStr w (textOf (vn a))):=by
 have HT:=fun w=>rtrim_any a w (by unfold maxLen;omega)
 have hsa:=ns_size_le a
 have hdl:=dec_le (vn a) _ (vn_lt a)
 generalize vn a=x at *
 have G1:=Lib.hid HT
 clear HT
 by_cases hx:x=0
 ·subst hx
  have n1:=toList_nil (ns 0) (by rw [ns_zero];rfl)
  have H:Hid (textOf 0=[48]):=rfl
  go_enter Tryz.func55,Tryz.ntmps55
  go_wp2_with fail
  refine (G1.out _).mono ?_;rintro e w' ⟨rfl,rfl⟩
  go_wp2_with fail
  go_ret
  exact ⟨by rw [H.out];rfl,Below.refl _ _⟩
 ·have n1:=toList_ne (ns x) (ns_pos_size hx)
  have n2:=isEmpty_false (ns x) (ns_pos_size hx)
  have H:Hid (textOf x=dec x):=by rw [Hid,textOf,if_neg hx]
  rw [H.out]
  clear hx
  go_enter Tryz.func55,Tryz.ntmps55
  go_wp2_with fail
  refine (G1.out _).mono ?_;rintro e w' ⟨rfl,rfl⟩
  go_wp2_with fail
  go_loopw [0,3] (fun u v wr=>∃(q:Nat) (t:List UInt8),u=.string (ns q)∧(ns q).size≤137438953472∧v=.string ⟨t.toArray⟩∧dec x=dec q++t∧Below w.heap.size w wr) (fun u _ _=>vn (strOf u))
  case atStart=>exact ⟨x,[],rfl,by omega,rfl,by simp,Below.refl _ _⟩
  case round =>
   obtain ⟨q,t,rfl,hq,rfl,hd,hbr⟩:=hrel
   clear n1 n2
   by_cases h0:q=0
   ·subst h0
    have n1:=toList_nil (ns 0) (by rw [ns_zero];rfl)
    have HD:Hid (dec x=t):=by rw [Hid,hd,dec_zero];rfl
    clear hd
    go_wp2_with fail
    go_ret
    exact ⟨by rw [HD.out];rfl,hbr⟩
   ·have n1:=toList_ne (ns q) (ns_pos_size h0)
    have n2:=isEmpty_false (ns q) (ns_pos_size h0)
    have n3:(!(ns q).toList.isEmpty)=true:=by rw [n2];rfl
    have hv10:vn ⟨#[10]⟩=10:=by decide
    have hdv:=rdiv_any (ns q) ⟨#[10]⟩ wr hq (by show (1:Nat)≤_;omega) (by rw [hv10];omega)
    rw [vn_ns,hv10] at hdv
    have hdg:=fun w=>digit_any (ns (q%10)) 0 w (by have:=nb_length_lt (n:=q%10) (k:=1) (by omega);rw [ns_size];unfold maxLen;omega) (by omega)
    rw [vn_ns,Nat.pow_zero,Nat.div_one,Nat.mod_eq_of_lt (a:=q%10) (by omega)] at hdg
    have hdec:=dec_pos q h0
    have hr:q%10<10:=Nat.mod_lt _ (by omega)
    have hqs:(ns (q/10)).size≤(ns q).size:=by rw [ns_size,ns_size];exact nb_mono (by omega)
    have HK:Hid (dec x=dec q++t∧dec q=dec (q/10)++[UInt8.ofNat (48+q%10)]∧q/10<q∧(ns (q/10)).size≤(ns q).size):=⟨hd,hdec,by omega,hqs⟩
    generalize q/10=p at *
    generalize q%10=r at *
    have hcv:=fun w'=>conv_bytes (P:=Tryz.prog) (l:=[UInt8.ofNat (48+r)]) (SliceAt.lit w' 5 1 1 #[.int .u8 ((UInt8.ofNat (48+r)).toNat:Int)] rfl (by decide)) 98 5 9 Tryz.underlying98 Tryz.underlying5 Tryz.underlying9
    have ec:((UInt8.ofNat (48+r)).toNat:Int)=48+(r:Int):=by simp;omega
    simp only [ec] at hcv
    clear ec
    generalize hx:UInt8.ofNat (48+r)=c at hcv HK
    have hlx:(⟨#[c]⟩:ByteArray).size=1:=rfl
    have hlt:(⟨t.toArray⟩:ByteArray).size=t.length:=List.size_toArray
    have htl:t.length≤3*a.size:=by rw [hd,List.length_append] at hdl;omega
    clear hdl
    have G2:=Lib.hid hdv
    have G3:=Lib.hid hdg
    clear hdv hdg hdec hqs hd hv10 hx h0
    go_wp2_with fail
    refine G2.out.mono ?_;rintro e w1 ⟨rfl,hb1⟩
    go_wp2_with fail
    refine (G3.out _).mono ?_;rintro e w' ⟨rfl,rfl⟩
    go_wp2_with fail
    obtain ⟨k1,k2,k3,k4⟩:=HK.out
    refine ⟨⟨p,c::t,rfl,by omega,by apply congrArg;apply bytes_ext;simp,by rw [k1,k2];simp,(hbr.trans (hb1.mono hbr.size)).alloc (Nat.le_trans hbr.size hb1.size) _⟩,?_⟩
    simp only [strOf,vn_ns];exact k3
def dgt (k:Nat):ByteArray:=⟨#[UInt8.ofNat (48+k)]⟩
theorem textOf_dgt {k:Nat} (h:k≤9):(⟨(textOf k).toArray⟩:ByteArray)=dgt k:=by
 unfold textOf dgt
 by_cases h0:k=0
 ·subst h0;rfl
 ·rw [if_neg h0,dec_pos k h0,show k/10=0 by omega,dec_zero,show k%10=k by omega];rfl
theorem rtext_w {k:Nat} (h:k≤9):Good Tryz.prog 55 [St (ns k)] (St (dgt k)) :=
 good_calls (by kernel_rfl) rfl rfl fun w=>by
  have hs:(ns k).size≤137438953472:=by
   have:=nb_length_lt (n:=k) (k:=1) (by omega)
   rw [ns_size];omega
  have:=rtext_any (ns k) w hs
  rw [vn_ns] at this
  refine this.mono fun e w' hh=>?_
  obtain ⟨h1,h2⟩:=hh
  rw [textOf_dgt h] at h1
  exact ⟨h1,h2⟩
set_option maxRecDepth 100000 in
theorem small_w {k:Nat} (h:k≤3):Good Tryz.prog 107 [I (k:Int)] (St (dgt k)):=by
 have h1:(k:Int)<10:=by omega
 refine good_of Tryz.func107 rfl (by kernel_rfl) fun X hO hrd=>?_;rw [Tryz.ntmps107,Tryz.results107];simp only [ast0,List.map_cons,List.map_nil,List.length_cons,List.length_nil,Nat.reduceAdd,Nat.reduceSub,List.replicate_succ,List.replicate_zero,List.cons_append,List.nil_append]
 (repeat (first|(with_reducible first|refine W_seq fun K hK=>?_|refine J_ret ?_|refine J_region ?_ |refine J_c ?_|refine Jc_true ?_|(refine Kont.go (by assumption) ?_)|(simp (config:={ maxSteps:=3000000 }) (disch:=omega) only [go_sem,Nat.reduceAdd,h1,decide_true]))|refine And.intro (by omega) ?_))
 rcases (by omega:k=0∨k=1∨k=2∨k=3) with rfl|rfl|rfl|rfl<;>exact Frz.f _
set_option maxRecDepth 100000 in
theorem fmtInt_w {k:Nat} (h:k≤3):Good Tryz.prog 99 [I (k:Int),I 10] (St (dgt k)):=by
 have hs:=small_w h
 refine good_of Tryz.func99 rfl (by kernel_rfl) fun X hO hrd=>?_;rw [Tryz.ntmps99,Tryz.results99];simp only [ast0,List.map_cons,List.map_nil,List.length_cons,List.length_nil,Nat.reduceAdd,Nat.reduceSub,List.replicate_succ,List.replicate_zero,List.cons_append,List.nil_append]
 have h1:(0:Int)≤(k:Int):=by omega
 have h2:(k:Int)<100:=by omega
 (repeat (with_reducible first|refine W_seq fun K hK=>?_|refine J_region ?_ |refine J_c ?_|refine Jc_true ?_|(refine Kont.go (by assumption) ?_)|(simp (config:={ maxSteps:=3000000 }) (disch:=omega) only [go_sem,h1,h2,decide_true])))
 (first|refine call_f (hs) rfl ?_|refine callQ_f (hs) rfl ?_|refine callHK_f (hs) rfl ?_|refine callH_f (hs) rfl ?_)
 (repeat (with_reducible first|refine J_ret ?_|exact Frz.f _|(refine Kont.go (by assumption) ?_)|(simp (config:={ maxSteps:=3000000 }) (disch:=omega) only [go_sem])))
set_option maxRecDepth 100000 in
theorem itoa0_w {k:Nat} (h:k≤3):Good Tryz.prog 79 [I (k:Int)] (St (dgt k)):=by
 have hs:=fmtInt_w h
 refine good_of Tryz.func79 rfl (by kernel_rfl) fun X hO hrd=>?_;rw [Tryz.ntmps79,Tryz.results79];simp only [ast0,List.map_cons,List.map_nil,List.length_cons,List.length_nil,Nat.reduceAdd,Nat.reduceSub,List.replicate_succ,List.replicate_zero,List.cons_append,List.nil_append]
 (repeat (with_reducible first|refine W_seq fun K hK=>?_|refine J_region ?_ |(refine Kont.go (by assumption) ?_)|(simp (config:={ maxSteps:=3000000 }) (disch:=omega) only [go_sem])))
 (first|refine call_f (hs) rfl ?_|refine callQ_f (hs) rfl ?_|refine callHK_f (hs) rfl ?_|refine callH_f (hs) rfl ?_)
 (repeat (with_reducible first|refine J_ret ?_|exact Frz.f _|(refine Kont.go (by assumption) ?_)|(simp (config:={ maxSteps:=3000000 }) (disch:=omega) only [go_sem])))
set_option maxRecDepth 100000 in
theorem itoa_w {k:Nat} (h:k≤3):Good Tryz.prog 52 [I (k:Int)] (St (dgt k)):=by
 have hs:=itoa0_w h
 refine good_of Tryz.func52 rfl (by kernel_rfl) fun X hO hrd=>?_;rw [Tryz.ntmps52,Tryz.results52];simp only [ast0,List.map_cons,List.map_nil,List.length_cons,List.length_nil,Nat.reduceAdd,Nat.reduceSub,List.replicate_succ,List.replicate_zero,List.cons_append,List.nil_append]
 (repeat (with_reducible first|refine W_seq fun K hK=>?_|refine J_region ?_ |(refine Kont.go (by assumption) ?_)|(simp (config:={ maxSteps:=3000000 }) (disch:=omega) only [go_sem])))
 (first|refine call_f (hs) rfl ?_|refine callQ_f (hs) rfl ?_|refine callHK_f (hs) rfl ?_|refine callH_f (hs) rfl ?_)
 (repeat (with_reducible first|refine J_ret ?_|exact Frz.f _|(refine Kont.go (by assumption) ?_)|(simp (config:={ maxSteps:=3000000 }) (disch:=omega) only [go_sem])))
end Go.Proofs.YtfjgijkhmhhkdaaGreatDoor
