/- The document's fractions (augurref), walked by the abstract machine. Conditions: none. -/
import Derived.Test.YthehegidpamldaaGreatDoorZB08
import Derived.Test.YthehegidpamldaaGreatDoorZB06
import Derived.Test.YthehegidpamldaaGreatDoorZRefOne
import Derived.Laws.StructEq
import Derived.Laws.Strings
import Derived.Lib.Bytealg
set_option linter.unusedVariables false
set_option linter.unusedSimpArgs false
namespace Go.Proofs.YthehegidpamldaaGreatDoor
open Go Go.RowKit
abbrev St (s:ByteArray):FV:=.v (.string s)
abbrev frR (g:Bool) (n d:ByteArray):FV:=.agg [Bo g,St n,St d]
theorem fr_frR (q:Rat):fr q=frR (cg q) (cn q) (cd q):=rfl
theorem rtrim_good {s:ByteArray} (hs:s.size≤maxLen):Good Tryz.prog 99 [St s] (St (ns (vn s))) :=
 good_calls (by kernel_rfl) rfl rfl fun w=>(rtrim_any s w hs).mono fun e w' h=>⟨h.1,h.2▸Below.refl _ _⟩
theorem rgcd_good {a b:ByteArray} (ha:a.size≤137438953472) (hb:b.size≤137438953472):Good Tryz.prog 105 [St a,St b] (St (ns (Nat.gcd (vn a) (vn b)))) :=
 good_calls (by kernel_rfl) rfl rfl fun w=>rgcd_any a b w ha hb
theorem rdiv_good {a b:ByteArray} (ha:a.size≤137438953472) (hb:b.size≤137438953472) (h0:vn b≠0):Good Tryz.prog 100 [St a,St b] (.tup [St (ns (vn a/vn b)),St (ns (vn a%vn b)),Bo true]) :=
 good_calls (by kernel_rfl) rfl rfl fun w=>rdiv_any a b w ha hb h0
theorem rmul_good {a b:ByteArray} (ha:a.size≤137438953472) (hb:b.size≤137438953472):Good Tryz.prog 67 [St a,St b] (St (ns (vn a*vn b))) :=
 good_calls (by kernel_rfl) rfl rfl fun w=>rmul_any a b w ha hb
theorem radd_good {a b:ByteArray} (ha:a.size≤274877906944) (hb:b.size≤274877906944):Good Tryz.prog 65 [St a,St b] (St (ns (vn a+vn b))) :=
 good_calls (by kernel_rfl) rfl rfl fun w=>radd_any a b w ha hb
theorem rsub_good {a b:ByteArray} (ha:a.size≤274877906944) (hb:b.size≤274877906944):Good Tryz.prog 69 [St a,St b] (.tup [St (ns (vn a-vn b)),Bo (decide (vn b≤vn a))]):=by
 by_cases h:vn b≤vn a
 ·rw [decide_eq_true h]
  exact good_calls (by kernel_rfl) rfl rfl fun w=>rsub_yes a b w ha hb h
 ·rw [decide_eq_false h,Nat.sub_eq_zero_of_le (by omega)]
  exact good_calls (by kernel_rfl) rfl rfl fun w=>rsub_no a b w ha hb (by omega)
theorem rof_good {n:Int} (h0:-9223372036854775808≤n) (hn:n≤9223372036854775807):Good Tryz.prog 60 [I n] (St (ns n.toNat)) :=
 good_calls (by kernel_rfl) rfl rfl fun w=>rof_any n w hn h0
theorem ns_nil_iff {n:Nat}:(ns n=⟨#[]⟩)=(n=0):=propext ⟨fun h=>by rw [←vn_ns n,h,vn_nil],fun h=>by rw [h,ns_zero]⟩
theorem ns_one_iff {n:Nat}:(ns n=⟨#[1]⟩)=(n=1):=propext ⟨fun h=>by rw [←vn_ns n,h,←ns_one,vn_ns],fun h=>by rw [h,ns_one]⟩
theorem fr_zero':fr 0=frR false ⟨#[]⟩ ⟨#[1]⟩:=by rw [fr_frR,cg_zero,cn_zero,cd_zero]
theorem fr_make {g:Bool} {n d:ByteArray} (hn:vn n≠0) (hd:vn d≠0):fr (rv g n d)=frR g (ns (vn n/Nat.gcd (vn n) (vn d))) (ns (vn d/Nat.gcd (vn n) (vn d))):=by
 obtain ⟨h1,h2,h3⟩:=rv_make (neg:=g) hn hd
 show frR _ _ _=_
 unfold cg cn cd
 rw [h1,h2,h3]
set_option maxRecDepth 100000 in
theorem rmake_good (g:Bool) (n d:ByteArray) (hn:n.size≤137438953472) (hd:d.size≤137438953472):Good Tryz.prog 68 [Bo g,St n,St d] (fr (rv g n d)):=by
 have z1:=ns_size_le n
 have z2:=ns_size_le d
 have m1:n.size≤maxLen:=by unfold maxLen;omega
 have m2:d.size≤maxLen:=by unfold maxLen;omega
 by_cases h0:vn n=0
 ·rw [rv_zero (.inl h0),fr_zero']
  refine good_of Tryz.func68 rfl (by kernel_rfl) fun X hO hrd=>?_;rw [Tryz.ntmps68,Tryz.results68];simp only [ast0,List.map_cons,List.map_nil,List.length_cons,List.length_nil,Nat.reduceAdd,Nat.reduceSub,List.replicate_succ,List.replicate_zero,List.cons_append,List.nil_append]
  repeat (with_reducible first|refine W_seq fun K hK=>?_|refine J_region ?_|(refine Kont.go (by assumption) ?_)|(simp (config:={ maxSteps:=3000000 }) (disch:=omega) only [go_sem,Nat.reduceAdd]))
  refine call_f (rtrim_good m1) rfl ?_
  repeat (with_reducible first|refine W_seq fun K hK=>?_|refine J_region ?_|(refine Kont.go (by assumption) ?_)|(simp (config:={ maxSteps:=3000000 }) (disch:=omega) only [go_sem]))
  refine call_f (rtrim_good m2) rfl ?_
  repeat (with_reducible first|refine W_seq fun K hK=>?_|refine J_region ?_|(refine Kont.go (by assumption) ?_)|(simp (config:={ maxSteps:=3000000 }) (disch:=omega) only [go_sem,ns_nil_iff,h0]))
  refine W_true rfl ?_
  repeat (with_reducible first|refine W_seq fun K hK=>?_|refine J_ret ?_|refine J_region ?_|(refine Kont.go (by assumption) ?_)|(simp (config:={ maxSteps:=3000000 }) (disch:=omega) only [go_sem,Nat.reduceEqDiff,↓reduceIte,Nat.reduceAdd,Nat.reduceLeDiff]))
  exact Frz.f _
 by_cases h1:vn d=0
 ·rw [rv_zero (.inr h1),fr_zero']
  refine good_of Tryz.func68 rfl (by kernel_rfl) fun X hO hrd=>?_;rw [Tryz.ntmps68,Tryz.results68];simp only [ast0,List.map_cons,List.map_nil,List.length_cons,List.length_nil,Nat.reduceAdd,Nat.reduceSub,List.replicate_succ,List.replicate_zero,List.cons_append,List.nil_append]
  repeat (with_reducible first|refine W_seq fun K hK=>?_|refine J_region ?_|(refine Kont.go (by assumption) ?_)|(simp (config:={ maxSteps:=3000000 }) (disch:=omega) only [go_sem,Nat.reduceAdd]))
  refine call_f (rtrim_good m1) rfl ?_
  repeat (with_reducible first|refine W_seq fun K hK=>?_|refine J_region ?_|(refine Kont.go (by assumption) ?_)|(simp (config:={ maxSteps:=3000000 }) (disch:=omega) only [go_sem]))
  refine call_f (rtrim_good m2) rfl ?_
  repeat (with_reducible first|refine W_seq fun K hK=>?_|refine J_region ?_|(refine Kont.go (by assumption) ?_)|(simp (config:={ maxSteps:=3000000 }) (disch:=omega) only [go_sem,ns_nil_iff,h0,h1]))
  refine W_true rfl ?_
  repeat (with_reducible first|refine W_seq fun K hK=>?_|refine J_ret ?_|refine J_region ?_|(refine Kont.go (by assumption) ?_)|(simp (config:={ maxSteps:=3000000 }) (disch:=omega) only [go_sem,Nat.reduceEqDiff,↓reduceIte,Nat.reduceAdd,Nat.reduceLeDiff]))
  exact Frz.f _
 ·rw [fr_make h0 h1]
  refine good_of Tryz.func68 rfl (by kernel_rfl) fun X hO hrd=>?_;rw [Tryz.ntmps68,Tryz.results68];simp only [ast0,List.map_cons,List.map_nil,List.length_cons,List.length_nil,Nat.reduceAdd,Nat.reduceSub,List.replicate_succ,List.replicate_zero,List.cons_append,List.nil_append]
  repeat (with_reducible first|refine W_seq fun K hK=>?_|refine J_region ?_|(refine Kont.go (by assumption) ?_)|(simp (config:={ maxSteps:=3000000 }) (disch:=omega) only [go_sem,Nat.reduceAdd]))
  refine call_f (rtrim_good m1) rfl ?_
  repeat (with_reducible first|refine W_seq fun K hK=>?_|refine J_region ?_|(refine Kont.go (by assumption) ?_)|(simp (config:={ maxSteps:=3000000 }) (disch:=omega) only [go_sem]))
  refine call_f (rtrim_good m2) rfl ?_
  repeat (with_reducible first|refine W_seq fun K hK=>?_|refine J_region ?_|(refine Kont.go (by assumption) ?_)|(simp (config:={ maxSteps:=3000000 }) (disch:=omega) only [go_sem,ns_nil_iff,h0,h1]))
  refine W_false rfl ?_
  repeat (with_reducible first|refine W_seq fun K hK=>?_|refine J_skip ?_|refine J_region ?_|(refine Kont.go (by assumption) ?_)|(simp (config:={ maxSteps:=3000000 }) (disch:=omega) only [go_sem]))
  refine call_f (rgcd_good (by omega) (by omega)) rfl ?_
  have hg0:vn d=0→False:=h1
  have hgp:Nat.gcd (vn n) (vn d)≠0:=fun h=>h0 (Nat.gcd_eq_zero_iff.1 h).1
  by_cases hg:Nat.gcd (vn n) (vn d)=1
  ·repeat (with_reducible first|refine W_seq fun K hK=>?_|refine J_region ?_|(refine Kont.go (by assumption) ?_)|(simp (config:={ maxSteps:=3000000 }) (disch:=omega) only [go_sem,vn_ns,ns_one_iff,hg,Nat.div_one]))
   refine W_false rfl ?_
   repeat (with_reducible first|refine W_seq fun K hK=>?_|refine J_skip ?_|refine J_ret ?_|refine J_region ?_|(refine Kont.go (by assumption) ?_)|(simp (config:={ maxSteps:=3000000 }) (disch:=omega) only [go_sem,Nat.reduceEqDiff,↓reduceIte,Nat.reduceAdd,Nat.reduceLeDiff]))
   rw [hg,Nat.div_one,Nat.div_one]
   exact Frz.f _
  ·have hsg:=ns_size_le d
   have hgl:(ns (Nat.gcd (vn n) (vn d))).size≤(ns (vn d)).size:=by
    rw [ns_size,ns_size];exact nb_mono (Nat.le_of_dvd (by omega) (Nat.gcd_dvd_right _ _))
   have hgv:vn (ns (Nat.gcd (vn n) (vn d)))≠0:=by rw [vn_ns];exact hgp
   repeat (with_reducible first|refine W_seq fun K hK=>?_|refine J_region ?_|(refine Kont.go (by assumption) ?_)|(simp (config:={ maxSteps:=3000000 }) (disch:=omega) only [go_sem,vn_ns,ns_one_iff,hg]))
   refine W_true rfl ?_
   repeat (with_reducible first|refine W_seq fun K hK=>?_|refine J_region ?_|(simp (config:={ maxSteps:=3000000 }) (disch:=omega) only [go_sem]))
   refine call_f (rdiv_good (by omega) (by omega) hgv) rfl ?_
   repeat (with_reducible first|refine J_region ?_|(refine Kont.go (by assumption) ?_)|(simp (config:={ maxSteps:=3000000 }) (disch:=omega) only [go_sem,vn_ns]))
   refine call_f (rdiv_good (by omega) (by omega) hgv) rfl ?_
   repeat (with_reducible first|refine W_seq fun K hK=>?_|refine J_ret ?_|refine J_region ?_|(refine Kont.go (by assumption) ?_)|(simp (config:={ maxSteps:=3000000 }) (disch:=omega) only [go_sem,Nat.reduceEqDiff,↓reduceIte,Nat.reduceAdd,Nat.reduceLeDiff,vn_ns]))
   exact Frz.f _
set_option maxRecDepth 100000 in
theorem rcanon_good {g:Bool} {n d:ByteArray} {x:Rat} {k:Nat} (h:Is g n d x k) (hk:k≤34359738368):Good Tryz.prog 44 [frR g n d] (fr x):=by
 obtain ⟨hr,h1,h2⟩:=h
 refine good_of Tryz.func44 rfl (by kernel_rfl) fun X hO hrd=>?_;rw [Tryz.ntmps44,Tryz.results44];simp only [ast0,List.map_cons,List.map_nil,List.length_cons,List.length_nil,Nat.reduceAdd,Nat.reduceSub,List.replicate_succ,List.replicate_zero,List.cons_append,List.nil_append]
 repeat (with_reducible first|refine W_seq fun K hK=>?_|refine J_region ?_|(refine Kont.go (by assumption) ?_)|(simp (config:={ maxSteps:=3000000 }) (disch:=omega) only [go_sem,↓reduceIte,Nat.reduceAdd]))
 refine call_f (rmake_good g n d (by omega) (by omega)) rfl ?_
 rw [hr]
 repeat (with_reducible first|refine J_ret ?_|(refine Kont.go (by assumption) ?_)|(simp (config:={ maxSteps:=3000000 }) (disch:=omega) only [go_sem,↓reduceIte,Nat.reduceAdd]))
 exact Frz.f _
set_option maxRecDepth 100000 in
theorem rof_frac {n:Int} (h0:-9223372036854775808≤n) (hn:n≤9223372036854775807):Good Tryz.prog 23 [I n] (fr (n:Rat)):=by
 by_cases h:n<0
 ·have e:n=(-(((-(n+1)).toNat+1:Nat):Int):Int):=by omega
  have e2:fr (n:Rat)=frR true (ns ((-(n+1)).toNat+1)) ⟨#[1]⟩:=by
   have:=frv_negnat ((-(n+1)).toNat+1) (by omega)
   rw [←e] at this
   have h3:fv (n:Rat)=agf true (ns ((-(n+1)).toNat+1)) ⟨#[1]⟩:=this
   unfold agf at h3
   injection h3 with h3
   injection h3 with h3
   injection h3 with a1 h3
   injection h3 with a2 h3
   injection h3 with a3 h3
   show frR _ _ _=_
   injection a1 with a1
   injection a2 with a2
   injection a3 with a3
   rw [a1,a2,a3]
  rw [e2]
  refine good_of Tryz.func23 rfl (by kernel_rfl) fun X hO hrd=>?_;rw [Tryz.ntmps23,Tryz.results23];simp only [ast0,List.map_cons,List.map_nil,List.length_cons,List.length_nil,Nat.reduceAdd,Nat.reduceSub,List.replicate_succ,List.replicate_zero,List.cons_append,List.nil_append]
  repeat (with_reducible first|refine W_seq fun K hK=>?_|refine J_region ?_|(refine Kont.go (by assumption) ?_)|(simp (config:={ maxSteps:=3000000 }) (disch:=omega) only [go_sem,Nat.reduceAdd]))
  refine W_cond _ rfl (fun _=>?_) (fun h9=>absurd h (of_decide_eq_false h9))
  repeat (with_reducible first|refine W_seq fun K hK=>?_|refine J_region ?_|(simp (config:={ maxSteps:=3000000 }) (disch:=omega) only [go_sem,Int.zero_sub]))
  refine call_f (rof_good (by omega) (by omega)) rfl ?_
  repeat (with_reducible first|refine W_seq fun K hK=>?_|refine J_region ?_|(refine Kont.go (by assumption) ?_)|(simp (config:={ maxSteps:=3000000 }) (disch:=omega) only [go_sem]))
  refine call_f (radd_good (by have:=ns_size_le8 (n:=(-(n+1)).toNat) (by omega);omega) (by decide)) rfl ?_
  have e3:vn (ns (-(n+1)).toNat)+vn ⟨#[1]⟩=(-(n+1)).toNat+1:=by rw [vn_ns,←ns_one,vn_ns]
  rw [e3]
  repeat (with_reducible first|refine W_seq fun K hK=>?_|refine J_ret ?_|refine J_region ?_|(refine Kont.go (by assumption) ?_)|(simp (config:={ maxSteps:=3000000 }) (disch:=omega) only [go_sem,Nat.reduceEqDiff,↓reduceIte,Nat.reduceAdd,Nat.reduceLeDiff]))
  exact Frz.f _
 ·have e:n=((n.toNat:Nat):Int):=by omega
  have e2:fr (n:Rat)=frR false (ns n.toNat) ⟨#[1]⟩:=by
   have:=frv_nat n.toNat
   rw [←e] at this
   have h3:fv (n:Rat)=agf false (ns n.toNat) ⟨#[1]⟩:=this
   unfold agf at h3
   injection h3 with h3
   injection h3 with h3
   injection h3 with a1 h3
   injection h3 with a2 h3
   injection h3 with a3 h3
   show frR _ _ _=_
   injection a1 with a1
   injection a2 with a2
   injection a3 with a3
   rw [a1,a2,a3]
  rw [e2]
  refine good_of Tryz.func23 rfl (by kernel_rfl) fun X hO hrd=>?_;rw [Tryz.ntmps23,Tryz.results23];simp only [ast0,List.map_cons,List.map_nil,List.length_cons,List.length_nil,Nat.reduceAdd,Nat.reduceSub,List.replicate_succ,List.replicate_zero,List.cons_append,List.nil_append]
  repeat (with_reducible first|refine W_seq fun K hK=>?_|refine J_region ?_|(refine Kont.go (by assumption) ?_)|(simp (config:={ maxSteps:=3000000 }) (disch:=omega) only [go_sem,Nat.reduceAdd]))
  refine W_cond _ rfl (fun h9=>absurd (of_decide_eq_true h9) h) (fun _=>?_)
  repeat (with_reducible first|refine W_seq fun K hK=>?_|refine J_skip ?_|refine J_region ?_|(refine Kont.go (by assumption) ?_)|(simp (config:={ maxSteps:=3000000 }) (disch:=omega) only [go_sem]))
  refine call_f (rof_good (by omega) (by omega)) rfl ?_
  repeat (with_reducible first|refine W_seq fun K hK=>?_|refine J_ret ?_|refine J_region ?_|(refine Kont.go (by assumption) ?_)|(simp (config:={ maxSteps:=3000000 }) (disch:=omega) only [go_sem,Nat.reduceEqDiff,↓reduceIte,Nat.reduceAdd,Nat.reduceLeDiff]))
  exact Frz.f _
set_option maxRecDepth 100000 in
theorem raddf_good {g g2:Bool} {n d n2 d2:ByteArray} {x y:Rat} {j k:Nat} (h:Is g n d x j) (h':Is g2 n2 d2 y k) (h0:1≤j) (h0':1≤k) (hj:j≤34359738368) (hk:k≤34359738368):Good Tryz.prog 26 [frR g n d,frR g2 n2 d2] (fr (x+y)):=by
 obtain ⟨e1,p1,p2⟩:=Is.c (h.fz h0)
 obtain ⟨e2,q1,q2⟩:=Is.c (h'.fz h0')
 have s1:=((Sz.of (cn x)).mul (Sz.of (cd y))).str
 have s2:=((Sz.of (cn y)).mul (Sz.of (cd x))).str
 have s3:=((Sz.of (cd x)).mul (Sz.of (cd y))).str
 have hdx:vn (cd x)≠0:=by unfold cd;rw [vn_ns];exact x.den_nz
 have hdy:vn (cd y)≠0:=by unfold cd;rw [vn_ns];exact y.den_nz
 have hc:=rv_add_cross (cg x) (cg y) (cn x) (cn y) (cd x) (cd y) hdx hdy
 rw [e1,e2] at hc
 have t4:=((Sz.of (ns (vn (cn x)*vn (cd y)))).up (k:=68719476736) (by omega)).add ((Sz.of (ns (vn (cn y)*vn (cd x)))).up (k:=68719476736) (by omega))
 have s4:=t4.str
 rw [vn_ns,vn_ns] at s4 t4
 generalize hN:vn (cn x)*vn (cd y)=A at *
 generalize hM:vn (cn y)*vn (cd x)=B at *
 generalize hD:vn (cd x)*vn (cd y)=D at *
 have s5:(ns (A-B)).size≤68719476737:=(t4.le (by omega)).str
 have s6:(ns (B-A)).size≤68719476737:=(t4.le (by omega)).str
 by_cases hs:cg x=cg y
 ·have e:rv (cg x) (ns (A+B)) (ns D)=x+y:=by rw [rv_ns,hc,hs,sgi_add_same]
  refine good_of Tryz.func26 rfl (by kernel_rfl) fun X hO hrd=>?_;rw [Tryz.ntmps26,Tryz.results26];simp only [ast0,List.map_cons,List.map_nil,List.length_cons,List.length_nil,Nat.reduceAdd,Nat.reduceSub,List.replicate_succ,List.replicate_zero,List.cons_append,List.nil_append]
  repeat (with_reducible first|refine W_seq fun K hK=>?_|refine J_region ?_|(refine Kont.go (by assumption) ?_)|(simp (config:={ maxSteps:=3000000 }) (disch:=omega) only [go_sem,↓reduceIte,Nat.reduceAdd]))
  refine call_f (rcanon_good h hj) rfl ?_
  repeat (with_reducible first|refine W_seq fun K hK=>?_|refine J_region ?_|(refine Kont.go (by assumption) ?_)|(simp (config:={ maxSteps:=3000000 }) (disch:=omega) only [go_sem,↓reduceIte,Nat.reduceAdd,fr_frR x]))
  refine call_f (rcanon_good h' hk) rfl ?_
  repeat (with_reducible first|refine W_seq fun K hK=>?_|refine J_region ?_|(refine Kont.go (by assumption) ?_)|(simp (config:={ maxSteps:=3000000 }) (disch:=omega) only [go_sem,↓reduceIte,Nat.reduceAdd,fr_frR y]))
  refine call_f (rmul_good (by omega) (by omega)) rfl ?_
  repeat (with_reducible first|refine W_seq fun K hK=>?_|refine J_region ?_|(refine Kont.go (by assumption) ?_)|(simp (config:={ maxSteps:=3000000 }) (disch:=omega) only [go_sem,↓reduceIte]))
  refine call_f (rmul_good (by omega) (by omega)) rfl ?_
  repeat (with_reducible first|refine W_seq fun K hK=>?_|refine J_region ?_|(refine Kont.go (by assumption) ?_)|(simp (config:={ maxSteps:=3000000 }) (disch:=omega) only [go_sem,↓reduceIte]))
  refine call_f (rmul_good (by omega) (by omega)) rfl ?_
  repeat (with_reducible first|refine W_seq fun K hK=>?_|refine J_region ?_|(refine Kont.go (by assumption) ?_)|(simp (config:={ maxSteps:=3000000 }) (disch:=omega) only [go_sem,↓reduceIte,bin_eqb Tryz.underlying4,hN,hM,hD]))
  refine W_cond _ rfl (fun _=>?_) (fun h9=>absurd h9 (by simp [hs]))
  repeat (with_reducible first|refine W_seq fun K hK=>?_|refine J_region ?_|(simp (config:={ maxSteps:=3000000 }) (disch:=omega) only [go_sem]))
  refine call_f (radd_good (by omega) (by omega)) rfl ?_
  repeat (with_reducible first|refine W_seq fun K hK=>?_|refine J_region ?_|(refine Kont.go (by assumption) ?_)|(simp (config:={ maxSteps:=3000000 }) (disch:=omega) only [go_sem,↓reduceIte,vn_ns]))
  refine call_f (rmake_good _ _ _ (by omega) (by omega)) rfl ?_
  rw [e]
  repeat (with_reducible first|refine J_ret ?_|(refine Kont.go (by assumption) ?_)|(simp (config:={ maxSteps:=3000000 }) (disch:=omega) only [go_sem,↓reduceIte,Nat.reduceAdd]))
  exact Frz.f _
 ·by_cases hb:B≤A
  ·have e:rv (cg x) (ns (A-B)) (ns D)=x+y:=by rw [rv_ns,hc,sgi_add_ge _ _ hs _ _ hb]
   refine good_of Tryz.func26 rfl (by kernel_rfl) fun X hO hrd=>?_;rw [Tryz.ntmps26,Tryz.results26];simp only [ast0,List.map_cons,List.map_nil,List.length_cons,List.length_nil,Nat.reduceAdd,Nat.reduceSub,List.replicate_succ,List.replicate_zero,List.cons_append,List.nil_append]
   repeat (with_reducible first|refine W_seq fun K hK=>?_|refine J_region ?_|(refine Kont.go (by assumption) ?_)|(simp (config:={ maxSteps:=3000000 }) (disch:=omega) only [go_sem,↓reduceIte,Nat.reduceAdd]))
   refine call_f (rcanon_good h hj) rfl ?_
   repeat (with_reducible first|refine W_seq fun K hK=>?_|refine J_region ?_|(refine Kont.go (by assumption) ?_)|(simp (config:={ maxSteps:=3000000 }) (disch:=omega) only [go_sem,↓reduceIte,Nat.reduceAdd,fr_frR x]))
   refine call_f (rcanon_good h' hk) rfl ?_
   repeat (with_reducible first|refine W_seq fun K hK=>?_|refine J_region ?_|(refine Kont.go (by assumption) ?_)|(simp (config:={ maxSteps:=3000000 }) (disch:=omega) only [go_sem,↓reduceIte,Nat.reduceAdd,fr_frR y]))
   refine call_f (rmul_good (by omega) (by omega)) rfl ?_
   repeat (with_reducible first|refine W_seq fun K hK=>?_|refine J_region ?_|(refine Kont.go (by assumption) ?_)|(simp (config:={ maxSteps:=3000000 }) (disch:=omega) only [go_sem,↓reduceIte]))
   refine call_f (rmul_good (by omega) (by omega)) rfl ?_
   repeat (with_reducible first|refine W_seq fun K hK=>?_|refine J_region ?_|(refine Kont.go (by assumption) ?_)|(simp (config:={ maxSteps:=3000000 }) (disch:=omega) only [go_sem,↓reduceIte]))
   refine call_f (rmul_good (by omega) (by omega)) rfl ?_
   repeat (with_reducible first|refine W_seq fun K hK=>?_|refine J_region ?_|(refine Kont.go (by assumption) ?_)|(simp (config:={ maxSteps:=3000000 }) (disch:=omega) only [go_sem,↓reduceIte,bin_eqb Tryz.underlying4,hN,hM,hD]))
   refine W_cond _ rfl (fun h9=>absurd h9 (by simp [hs])) (fun _=>?_)
   repeat (with_reducible first|refine W_seq fun K hK=>?_|refine J_skip ?_|refine J_region ?_|(refine Kont.go (by assumption) ?_)|(simp (config:={ maxSteps:=3000000 }) (disch:=omega) only [go_sem]))
   refine call_f (rsub_good (by omega) (by omega)) rfl ?_
   repeat (with_reducible first|refine W_seq fun K hK=>?_|refine J_region ?_|(refine Kont.go (by assumption) ?_)|(simp (config:={ maxSteps:=3000000 }) (disch:=omega) only [go_sem,vn_ns]))
   refine W_cond _ rfl (fun _=>?_) (fun h9=>absurd h9 (by simp [hb]))
   repeat (with_reducible first|refine W_seq fun K hK=>?_|refine J_region ?_|(simp (config:={ maxSteps:=3000000 }) (disch:=omega) only [go_sem,↓reduceIte]))
   refine call_f (rmake_good _ _ _ (by omega) (by omega)) rfl ?_
   rw [e]
   repeat (with_reducible first|refine J_ret ?_|(refine Kont.go (by assumption) ?_)|(simp (config:={ maxSteps:=3000000 }) (disch:=omega) only [go_sem,↓reduceIte,Nat.reduceAdd]))
   exact Frz.f _
  ·have e:rv (cg y) (ns (B-A)) (ns D)=x+y:=by rw [rv_ns,hc,sgi_add_lt _ _ hs _ _ (by omega)]
   refine good_of Tryz.func26 rfl (by kernel_rfl) fun X hO hrd=>?_;rw [Tryz.ntmps26,Tryz.results26];simp only [ast0,List.map_cons,List.map_nil,List.length_cons,List.length_nil,Nat.reduceAdd,Nat.reduceSub,List.replicate_succ,List.replicate_zero,List.cons_append,List.nil_append]
   repeat (with_reducible first|refine W_seq fun K hK=>?_|refine J_region ?_|(refine Kont.go (by assumption) ?_)|(simp (config:={ maxSteps:=3000000 }) (disch:=omega) only [go_sem,↓reduceIte,Nat.reduceAdd]))
   refine call_f (rcanon_good h hj) rfl ?_
   repeat (with_reducible first|refine W_seq fun K hK=>?_|refine J_region ?_|(refine Kont.go (by assumption) ?_)|(simp (config:={ maxSteps:=3000000 }) (disch:=omega) only [go_sem,↓reduceIte,Nat.reduceAdd,fr_frR x]))
   refine call_f (rcanon_good h' hk) rfl ?_
   repeat (with_reducible first|refine W_seq fun K hK=>?_|refine J_region ?_|(refine Kont.go (by assumption) ?_)|(simp (config:={ maxSteps:=3000000 }) (disch:=omega) only [go_sem,↓reduceIte,Nat.reduceAdd,fr_frR y]))
   refine call_f (rmul_good (by omega) (by omega)) rfl ?_
   repeat (with_reducible first|refine W_seq fun K hK=>?_|refine J_region ?_|(refine Kont.go (by assumption) ?_)|(simp (config:={ maxSteps:=3000000 }) (disch:=omega) only [go_sem,↓reduceIte]))
   refine call_f (rmul_good (by omega) (by omega)) rfl ?_
   repeat (with_reducible first|refine W_seq fun K hK=>?_|refine J_region ?_|(refine Kont.go (by assumption) ?_)|(simp (config:={ maxSteps:=3000000 }) (disch:=omega) only [go_sem,↓reduceIte]))
   refine call_f (rmul_good (by omega) (by omega)) rfl ?_
   repeat (with_reducible first|refine W_seq fun K hK=>?_|refine J_region ?_|(refine Kont.go (by assumption) ?_)|(simp (config:={ maxSteps:=3000000 }) (disch:=omega) only [go_sem,↓reduceIte,bin_eqb Tryz.underlying4,hN,hM,hD]))
   refine W_cond _ rfl (fun h9=>absurd h9 (by simp [hs])) (fun _=>?_)
   repeat (with_reducible first|refine W_seq fun K hK=>?_|refine J_skip ?_|refine J_region ?_|(refine Kont.go (by assumption) ?_)|(simp (config:={ maxSteps:=3000000 }) (disch:=omega) only [go_sem]))
   refine call_f (rsub_good (by omega) (by omega)) rfl ?_
   repeat (with_reducible first|refine W_seq fun K hK=>?_|refine J_region ?_|(refine Kont.go (by assumption) ?_)|(simp (config:={ maxSteps:=3000000 }) (disch:=omega) only [go_sem,vn_ns]))
   refine W_cond _ rfl (fun h9=>absurd h9 (by simp [hb])) (fun _=>?_)
   repeat (with_reducible first|refine W_seq fun K hK=>?_|refine J_skip ?_|refine J_region ?_|(refine Kont.go (by assumption) ?_)|(simp (config:={ maxSteps:=3000000 }) (disch:=omega) only [go_sem]))
   refine call_f (rsub_good (by omega) (by omega)) rfl ?_
   repeat (with_reducible first|refine W_seq fun K hK=>?_|refine J_region ?_|(refine Kont.go (by assumption) ?_)|(simp (config:={ maxSteps:=3000000 }) (disch:=omega) only [go_sem,↓reduceIte,vn_ns]))
   refine call_f (rmake_good _ _ _ (by omega) (by omega)) rfl ?_
   rw [e]
   repeat (with_reducible first|refine J_ret ?_|(refine Kont.go (by assumption) ?_)|(simp (config:={ maxSteps:=3000000 }) (disch:=omega) only [go_sem,↓reduceIte,Nat.reduceAdd]))
   exact Frz.f _
set_option maxRecDepth 100000 in
theorem rsubf_good {g g2:Bool} {n d n2 d2:ByteArray} {x y:Rat} {j k:Nat} (h:Is g n d x j) (h':Is g2 n2 d2 y k) (h0:1≤j) (h0':1≤k) (hj:j≤34359738368) (hk:k≤34359738368):Good Tryz.prog 66 [frR g n d,frR g2 n2 d2] (fr (x-y)):=by
 have hn:Is (!g2) n2 d2 (-y) k:=⟨by rw [rv_neg,h'.1],h'.2⟩
 refine good_of Tryz.func66 rfl (by kernel_rfl) fun X hO hrd=>?_;rw [Tryz.ntmps66,Tryz.results66];simp only [ast0,List.map_cons,List.map_nil,List.length_cons,List.length_nil,Nat.reduceAdd,Nat.reduceSub,List.replicate_succ,List.replicate_zero,List.cons_append,List.nil_append]
 repeat (with_reducible first|refine W_seq fun K hK=>?_|refine J_region ?_|(refine Kont.go (by assumption) ?_)|(simp (config:={ maxSteps:=3000000 }) (disch:=omega) only [go_sem,Nat.reduceEqDiff,↓reduceIte,Nat.reduceAdd,Nat.reduceLeDiff]))
 refine call_f (raddf_good h hn h0 h0' hj hk) rfl ?_
 rw [←Rat.sub_eq_add_neg]
 repeat (with_reducible first|refine J_ret ?_|(refine Kont.go (by assumption) ?_)|(simp (config:={ maxSteps:=3000000 }) (disch:=omega) only [go_sem,↓reduceIte,Nat.reduceAdd]))
 exact Frz.f _
theorem num_zero_iff {x:Rat}:(cn x=⟨#[]⟩)=(x=0):=propext ⟨fun h=>Classical.byContradiction fun h0=>cn_ne h0 (by rw [h];rfl),fun h=>by rw [h,cn_zero]⟩
set_option maxRecDepth 100000 in
theorem rcmpf_good {g g2:Bool} {n d n2 d2:ByteArray} {x y:Rat} {j k:Nat} (h:Is g n d x j) (h':Is g2 n2 d2 y k) (h0:1≤j) (h0':1≤k) (hj:j≤34359738368) (hk:k≤34359738368):Good Tryz.prog 25 [frR g n d,frR g2 n2 d2] (I (cmpR x y)):=by
 have hc:=cmpR_sub x y
 refine good_of Tryz.func25 rfl (by kernel_rfl) fun X hO hrd=>?_;rw [Tryz.ntmps25,Tryz.results25];simp only [ast0,List.map_cons,List.map_nil,List.length_cons,List.length_nil,Nat.reduceAdd,Nat.reduceSub,List.replicate_succ,List.replicate_zero,List.cons_append,List.nil_append]
 repeat (with_reducible first|refine W_seq fun K hK=>?_|refine J_region ?_|(refine Kont.go (by assumption) ?_)|(simp (config:={ maxSteps:=3000000 }) (disch:=omega) only [go_sem,↓reduceIte,Nat.reduceAdd]))
 refine call_f (rsubf_good h h' h0 h0' hj hk) rfl ?_
 repeat (with_reducible first|refine W_seq fun K hK=>?_|refine J_region ?_|(refine Kont.go (by assumption) ?_)|(simp (config:={ maxSteps:=3000000 }) (disch:=omega) only [go_sem,↓reduceIte,Nat.reduceAdd,fr_frR (x-y),num_zero_iff]))
 have hz:(x-y=0)↔(x-y).num=0:=⟨fun h=>by rw [h];rfl,fun h=>Rat.num_eq_zero.1 h⟩
 refine W_cond _ rfl (fun hq=>?_) (fun hq=>?_)<;>try simp only [decide_eq_true_eq,decide_eq_false_iff_not] at hq
 ·rw [if_pos (hz.1 hq)] at hc
  rw [hc]
  repeat (with_reducible first|refine W_seq fun K hK=>?_|refine J_ret ?_|refine J_region ?_|(refine Kont.go (by assumption) ?_)|(simp (config:={ maxSteps:=3000000 }) (disch:=omega) only [go_sem]))
  exact Frz.f _
 ·rw [if_neg (fun h=>hq (hz.2 h))] at hc
  repeat (with_reducible first|refine W_seq fun K hK=>?_|refine J_skip ?_|refine J_region ?_|(refine Kont.go (by assumption) ?_)|(simp (config:={ maxSteps:=3000000 }) (disch:=omega) only [go_sem,↓reduceIte]))
  refine W_cond _ rfl (fun h9=>?_) (fun h9=>?_)
  ·rw [if_pos (of_decide_eq_true h9)] at hc
   rw [hc]
   repeat (with_reducible first|refine W_seq fun K hK=>?_|refine J_ret ?_|refine J_region ?_|(refine Kont.go (by assumption) ?_)|(simp (config:={ maxSteps:=3000000 }) (disch:=omega) only [go_sem,Int.reduceNeg]))
   exact Frz.f _
  ·rw [if_neg (of_decide_eq_false h9)] at hc
   repeat (with_reducible first|refine W_seq fun K hK=>?_|refine J_skip ?_|refine J_ret ?_|refine J_region ?_|(refine Kont.go (by assumption) ?_)|(simp (config:={ maxSteps:=3000000 }) (disch:=omega) only [go_sem]))
   rw [hc]
   exact Frz.f _
end Go.Proofs.YthehegidpamldaaGreatDoor
set_option linter.unusedVariables false
set_option linter.unusedSimpArgs false
namespace Go.Proofs.YthehegidpamldaaGreatDoor
open Go Go.RowKit
def IsFr (x:FV) (q:Rat) (k:Nat):Prop:=∃g n d,x=frR g n d∧Is g n d q k
theorem IsFr.c {q:Rat} {k:Nat} (h:Fz q k):IsFr (fr q) q k:=⟨_,_,_,fr_frR q,Is.c h⟩
theorem IsFr.up {x:FV} {q:Rat} {j k:Nat} (h:IsFr x q j) (hk:j≤k):IsFr x q k:=by obtain ⟨g,n,d,e,h⟩:=h;exact ⟨g,n,d,e,h.up hk⟩
theorem IsFr.fz {x:FV} {q:Rat} {k:Nat} (h:IsFr x q k) (hk:1≤k):Fz q k:=by obtain ⟨g,n,d,e,h⟩:=h;exact h.fz hk
theorem IsFr.raw (g:Bool) (n d:ByteArray) {k:Nat} (hn:n.size≤k) (hd:d.size≤k):IsFr (frR g n d) (rv g n d) k:=⟨g,n,d,rfl,rfl,hn,hd⟩
theorem IsFr.int {n:Int} (h0:-9223372036854775808≤n) (h1:n≤9223372036854775807):IsFr (fr (n:Rat)) (n:Rat) 8:=.c (Fz.int (by omega))
section
variable {x y : FV} {a b : Rat} {j k : Nat}
theorem add_w (ha:IsFr x a j) (hb:IsFr y b k) (hj:j≤34359738368) (hk:k≤34359738368):Good Tryz.prog 163 [x,y] (fr (a+b)):=by
 obtain ⟨g,n,d,rfl,ha⟩:=ha
 obtain ⟨g',n',d',rfl,hb⟩:=hb
 exact good_calls (by kernel_rfl) rfl rfl fun w=>fadd_g (ha.up (k:=34359738368) hj) (hb.up (k:=34359738368) hk) (by omega) (by omega) rfl w
theorem cmp_w (ha:IsFr x a j) (hb:IsFr y b k) (hj:j≤34359738368) (hk:k≤34359738368):Good Tryz.prog 134 [x,y] (I (cmpR a b)):=by
 obtain ⟨g,n,d,rfl,ha⟩:=ha
 obtain ⟨g',n',d',rfl,hb⟩:=hb
 exact good_calls (by kernel_rfl) rfl rfl fun w=>fcmp_g (ha.up (k:=34359738368) hj) (hb.up (k:=34359738368) hk) (by omega) (by omega) rfl w
theorem canon_w (ha:IsFr x a j) (hj:j≤34359738368):Good Tryz.prog 39 [x] (fr a):=by
 obtain ⟨g,n,d,rfl,ha⟩:=ha
 exact good_calls (by kernel_rfl) rfl rfl fun w=>fcanon_g ha hj w
abbrev frN:FV:=frR false ⟨#[]⟩ ⟨#[]⟩
theorem radd_w (ha:IsFr x a j) (hb:IsFr y b k) (hj:j≤34359738368) (hk:k≤34359738368):Good Tryz.prog 26 [x,y] (fr (a+b)):=by
 obtain ⟨g,n,d,rfl,ha⟩:=ha
 obtain ⟨g',n',d',rfl,hb⟩:=hb
 exact raddf_good (ha.up (k:=34359738368) hj) (hb.up (k:=34359738368) hk) (by omega) (by omega) (by omega) (by omega)
theorem rcmp_w (ha:IsFr x a j) (hb:IsFr y b k) (hj:j≤34359738368) (hk:k≤34359738368):Good Tryz.prog 25 [x,y] (I (cmpR a b)):=by
 obtain ⟨g,n,d,rfl,ha⟩:=ha
 obtain ⟨g',n',d',rfl,hb⟩:=hb
 exact rcmpf_good (ha.up (k:=34359738368) hj) (hb.up (k:=34359738368) hk) (by omega) (by omega) (by omega) (by omega)
theorem rcanon_w (ha:IsFr x a j) (hj:j≤34359738368):Good Tryz.prog 44 [x] (fr a):=by
 obtain ⟨g,n,d,rfl,ha⟩:=ha
 exact rcanon_good ha hj
end
structure Frs (k : Nat) (xs : List FV) (l : List Rat) : Prop where
  len : xs.length = l.length
  get : ∀ (i : Nat) q, l[i]? = some q → ∃ x, xs[i]? = some x ∧ IsFr x q k
structure FrM (k : Nat) (ys : List FV) (m : List (List Rat)) : Prop where
  len : ys.length = m.length
  get : ∀ (i : Nat) r, m[i]? = some r → ∃ xs, ys[i]? = some (.fz 3 xs) ∧ Frs k xs r
def Row (k:Nat) (l:List Rat):Prop:=∀q∈l,Fz q k
theorem Row.get {k:Nat} {l:List Rat} (h:Row k l) {i:Nat} (hi:i<l.length):Fz l[i] k:=h _ (List.getElem_mem hi)
theorem Frs.c {k:Nat} {l:List Rat} (h:Row k l):Frs k (l.map fr) l:=⟨by simp,fun i q hq=>⟨fr q,by rw [List.getElem?_map,hq];rfl,.c (h q (List.mem_of_getElem? hq))⟩⟩
theorem FrM.c {k:Nat} {m:List (List Rat)} (h:∀r∈m,Row k r):FrM k (m.map frs) m:=⟨by simp,fun i r hr=>⟨r.map fr,by rw [List.getElem?_map,hr];rfl,.c (h r (List.mem_of_getElem? hr))⟩⟩
theorem Frs.at {k:Nat} {xs:List FV} {l:List Rat} (h:Frs k xs l) {i:Nat} (hi:i<l.length):∃x,xs[i]?=some x∧IsFr x l[i] k:=h.get i _ (List.getElem?_eq_getElem hi)
theorem Frs.at3 {k:Nat} {xs:List FV} {l:List Rat} (h:Frs k xs l) {i:Nat} (hi:i<l.length):∃g n d,xs[i]?=some (frR g n d)∧IsFr (frR g n d) l[i] k:=by
 obtain ⟨x,hx,g,n,d,rfl,hk⟩:=h.at hi
 exact ⟨g,n,d,hx,g,n,d,rfl,hk⟩
theorem FrM.at {k:Nat} {ys:List FV} {m:List (List Rat)} (h:FrM k ys m) {i:Nat} (hi:i<m.length):∃xs,ys[i]?=some (.fz 3 xs)∧Frs k xs m[i]:=h.get i _ (List.getElem?_eq_getElem hi)
theorem Frs.up {j k:Nat} {xs:List FV} {l:List Rat} (h:Frs j xs l) (hk:j≤k):Frs k xs l:=⟨h.len,fun i q hq=>by obtain ⟨x,h1,h2⟩:=h.get i q hq;exact ⟨x,h1,h2.up hk⟩⟩
theorem Frs.row {k:Nat} {xs:List FV} {l:List Rat} (h:Frs k xs l) (hk:1≤k):Row k l:=fun q hq=>by
 obtain ⟨i,hi⟩:=List.getElem?_of_mem hq
 obtain ⟨x,_,h2⟩:=h.get i q hi
 exact h2.fz hk
theorem cmpR_lt {a b:Rat}:(cmpR a b<0)↔a<b:=by
 unfold cmpR
 by_cases h:a=b
 ·rw [if_pos h];subst h;exact ⟨fun h=>by omega,fun h=>absurd h Rat.lt_irrefl⟩
 ·rw [if_neg h]
  by_cases h2:a<b
  ·rw [if_pos h2];exact ⟨fun _=>h2,fun _=>by omega⟩
  ·rw [if_neg h2];exact ⟨fun h=>by omega,fun h=>absurd h h2⟩
def sumTo (l:List Rat):Nat→Rat
 | 0=>0
 | i+1=>sumTo l i+l.getD i 0
def sumR (l:List Rat):Rat:=sumTo l l.length
theorem sumTo_fz {k:Nat} {l:List Rat} (h:Row k l):∀i,i≤l.length→Fz (sumTo l i) (8+i*(k+1)):=by
 intro i
 induction i with
 | zero=>intro _;exact (Fz.int (n:=0) (by decide)).up (by omega)
 | succ i ih =>
  intro hi
  have e1:l.getD i 0=l[i]:=lget_lt l 0 (by omega)
  show Fz (sumTo l i+l.getD i 0) _
  rw [e1]
  exact ((ih (by omega)).add (h.get (by omega))).up (by rw [Nat.add_mul];omega)
theorem sumTo_next {l:List Rat} {i:Nat} (h:i<l.length):sumTo l i+l[i]=sumTo l (i+1):=by
 show _=sumTo l i+l.getD i 0
 rw [lget_lt l 0 h]
end Go.Proofs.YthehegidpamldaaGreatDoor
set_option linter.unusedVariables false
set_option linter.unusedSimpArgs false
namespace Go.Proofs.YthehegidpamldaaGreatDoor
open Go Go.RowKit
def eqR (g:Bool) (n d:ByteArray) (g':Bool) (n' d':ByteArray):Bool:=(g==g')&&(decide (n=n')&&decide (d=d'))
theorem toList_eq_iff {a b:ByteArray}:(a.toList==b.toList)=decide (a=b):=by
 have:(a.toList=b.toList)↔a=b:=by
  rw [ByteArray.toList_eq,ByteArray.toList_eq]
  exact ⟨fun h=>by cases a;cases b;simp_all [Array.toList_inj],fun h=>by rw [h]⟩
 by_cases h:a=b
 ·subst h;simp
 ·rw [decide_eq_false h];simpa using fun h'=>h (this.1 h')
set_option maxRecDepth 100000 in
theorem run_eq3 (w:World) (g g':Bool) (n d n' d':ByteArray):(Op.equalIn 10000 39 (.agg #[.bool g,.string n,.string d]) (.agg #[.bool g',.string n',.string d'])).run Tryz.prog w=.ok (eqR g n d g' n' d') w:=by
 rw [run_equalIn_agg w 9999 _ _ _ (by kernel_rfl) (by kernel_rfl)]
 unfold Program.fieldsOf
 rw [Tryz.underlying39]
 have p0:∀(a b c:Value),(part 4 #[a,b,c] 0).run Tryz.prog w=.ok a w:=fun a b c=>by kernel_rfl
 have p1:∀(a b c:Value),(part 37 #[a,b,c] 1).run Tryz.prog w=.ok b w:=fun a b c=>by kernel_rfl
 have p2:∀(a b c:Value),(part 37 #[a,b,c] 2).run Tryz.prog w=.ok c w:=fun a b c=>by kernel_rfl
 have q0:=run_equalIn_bool' w 9998 4 g g' Tryz.underlying4
 have q1:=run_equalIn_string w 9998 37 n n' Tryz.underlying37
 have q2:=run_equalIn_string w 9998 37 d d' Tryz.underlying37
 rw [toList_eq_iff] at q1 q2
 rw [show (9998+1:Nat)=9999 from rfl] at q0 q1 q2
 have h1 : ("Neg" : String) ≠ "_" := by decide
 have h2 : ("Num" : String) ≠ "_" := by decide
 have h3 : ("Den" : String) ≠ "_" := by decide
 show (Op.eqFields 9999 _ _ [_,_,_]).run _ _=_
 unfold eqR
 simp only [Op.eqFields,h1,h2,h3,ne_eq,not_false_eq_true,if_true,Sem.run_bind,p0,Result.andThen_ok,q0]
 cases hg:(g==g') with
 | false=>simp
 | true =>
  cases hn:decide (n=n') with
  | false=>simp [hn,p1,q1]
  | true =>
   cases hd:decide (d=d') with
   | false=>simp [hn,hd,p1,q1,p2,q2]
   | true=>simp [hn,hd,p1,q1,p2,q2]
theorem eqR_fr (a b:Rat):eqR (cg a) (cn a) (cd a) (cg b) (cn b) (cd b)=decide (a=b):=by
 by_cases h:a=b
 ·subst h;simp [eqR]
 ·rw [decide_eq_false h]
  unfold eqR
  by_cases h1:cg a=cg b
  ·by_cases h2:cn a=cn b
   ·by_cases h3:cd a=cd b
    ·exact absurd (by rw [←rv_c a,←rv_c b,h1,h2,h3]) h
    ·simp [h3]
   ·simp [h2]
  ·have:(cg a==cg b)=false:=by simpa using h1
   rw [this];rfl
section
variable {k : AV → Prop} {X Y : Operand}
@[go_sem] theorem bin_eqR {g g':Bool} {n d n' d':ByteArray}:aBin Tryz.prog .eql 39 X Y (.f (frR g n d)) (.f (frR g' n' d')) k=k (.f (.v (.bool (eqR g n d g' n' d')))) :=
 bin_run (U:=.agg #[.bool g,.string n,.string d]) (V:=.agg #[.bool g',.string n',.string d']) rfl rfl (fun _ _ h=>by cases h) (fun _ h=>by cases h) fun w=>by
  rw [Sem.run_bind,run_eqGuard_agg w .eql 39 X Y _ _ (by kernel_rfl),Result.andThen_ok,run_eql_struct,run_eq3];rfl
@[go_sem] theorem bin_neR {g g':Bool} {n d n' d':ByteArray}:aBin Tryz.prog .neq 39 X Y (.f (frR g n d)) (.f (frR g' n' d')) k=k (.f (.v (.bool (!eqR g n d g' n' d')))) :=
 bin_run (U:=.agg #[.bool g,.string n,.string d]) (V:=.agg #[.bool g',.string n',.string d']) rfl rfl (fun _ _ h=>by cases h) (fun _ h=>by cases h) fun w=>by
  rw [Sem.run_bind,run_eqGuard_agg w .neq 39 X Y _ _ (by kernel_rfl),Result.andThen_ok,run_neq_struct,run_eq3];rfl
@[go_sem] theorem bin_eqf {a b:Rat}:aBin Tryz.prog .eql 39 X Y (.f (fr a)) (.f (fr b)) k=k (.f (.v (.bool (decide (a=b))))):=by
 rw [fr_frR,fr_frR,bin_eqR,eqR_fr]
@[go_sem] theorem bin_nef {a b:Rat}:aBin Tryz.prog .neq 39 X Y (.f (fr a)) (.f (fr b)) k=k (.f (.v (.bool (!decide (a=b))))):=by
 rw [fr_frR,fr_frR,bin_neR,eqR_fr]
end
end Go.Proofs.YthehegidpamldaaGreatDoor
set_option linter.unusedVariables false
set_option linter.unusedSimpArgs false
namespace Go.Proofs.YthehegidpamldaaGreatDoor
open Go Go.RowKit
def bsl (l:List UInt8):ByteArray:=⟨l.toArray⟩
theorem bsl_size {l:List UInt8}:(bsl l).size=l.length:=by simp [bsl,ByteArray.size]
theorem bsl_app {l k:List UInt8}:bsl l++bsl k=bsl (l++k):=by
 apply ByteArray.ext
 simp [bsl]
theorem bsl_cons {c:UInt8} {l:List UInt8}:(⟨#[c]⟩:ByteArray)++bsl l=bsl (c::l):=bsl_app (l:=[c])
theorem ntext_good (a:ByteArray) (ha:a.size≤137438953472):Good Tryz.prog 109 [St a] (St (bsl (textOf (vn a)))) :=
 good_calls (by kernel_rfl) rfl rfl fun w=>text_any a w ha
def bodyT (q:Rat):List UInt8:=if q.den=1 then textOf q.num.natAbs else textOf q.num.natAbs++(47::textOf q.den)
def fracT (q:Rat):List UInt8:=if cg q=true then 45::bodyT q else bodyT q
section
set_option maxRecDepth 100000
set_option maxHeartbeats 4000000
end
end Go.Proofs.YthehegidpamldaaGreatDoor
set_option linter.unusedVariables false
set_option linter.unusedSimpArgs false
namespace Go.Proofs.YthehegidpamldaaGreatDoor
open Go Go.RowKit
set_option maxRecDepth 100000 in
set_option maxHeartbeats 1000000 in
theorem rtext_any (a:ByteArray) (w:World) (ha:a.size≤137438953472) :
  Calls Tryz.prog 59 #[.string a] w (RetStr w (textOf (vn a))):=by
 have HT:=fun w=>rtrim_any a w (by unfold maxLen;omega)
 have hsa:=ns_size_le a
 have hdl:=dec_le (vn a) _ (vn_lt a)
 generalize vn a=x at *
 have G1:=Lib.hid HT
 clear HT
 by_cases hx:x=0
 ·subst hx
  have n1:=toList_nil (ns 0) (by rw [ns_zero];rfl)
  have H:Hid (textOf 0=[48]):=rfl
  go_enter Tryz.func59,Tryz.ntmps59
  go_wp2_with fail
  refine (G1.out _).mono ?_;rintro e w' ⟨rfl,rfl⟩
  go_wp2_with fail
  go_ret
  exact ⟨by rw [H.out];rfl,Below.refl _ _⟩
 ·have n1:=toList_ne (ns x) (ns_pos_size hx)
  have n2:=isEmpty_false (ns x) (ns_pos_size hx)
  have H:Hid (textOf x=dec x):=by rw [Hid,textOf,if_neg hx]
  rw [H.out]
  clear hx
  go_enter Tryz.func59,Tryz.ntmps59
  go_wp2_with fail
  refine (G1.out _).mono ?_;rintro e w' ⟨rfl,rfl⟩
  go_wp2_with fail
  go_loopw [0,3] (fun u v wr=>∃(q:Nat) (t:List UInt8),u=.string (ns q)∧(ns q).size≤137438953472∧v=.string ⟨t.toArray⟩∧dec x=dec q++t∧Below w.heap.size w wr) (fun u _ _=>vn (strOf u))
  case atStart=>exact ⟨x,[],rfl,by omega,rfl,by simp,Below.refl _ _⟩
  case round =>
   obtain ⟨q,t,rfl,hq,rfl,hd,hbr⟩:=hrel
   clear n1 n2
   by_cases h0:q=0
   ·subst h0
    have n1:=toList_nil (ns 0) (by rw [ns_zero];rfl)
    have HD:Hid (dec x=t):=by rw [Hid,hd,dec_zero];rfl
    clear hd
    go_wp2_with fail
    go_ret
    exact ⟨by rw [HD.out];rfl,hbr⟩
   ·have n1:=toList_ne (ns q) (ns_pos_size h0)
    have n2:=isEmpty_false (ns q) (ns_pos_size h0)
    have n3:(!(ns q).toList.isEmpty)=true:=by rw [n2];rfl
    have hv10:vn ⟨#[10]⟩=10:=by decide
    have hdv:=rdiv_any (ns q) ⟨#[10]⟩ wr hq (by show (1:Nat)≤_;omega) (by rw [hv10];omega)
    rw [vn_ns,hv10] at hdv
    have hdg:=fun w=>digit_any (ns (q%10)) 0 w (by have:=nb_length_lt (n:=q%10) (k:=1) (by omega);rw [ns_size];unfold maxLen;omega) (by omega)
    rw [vn_ns,Nat.pow_zero,Nat.div_one,Nat.mod_eq_of_lt (a:=q%10) (by omega)] at hdg
    have hdec:=dec_pos q h0
    have hr:q%10<10:=Nat.mod_lt _ (by omega)
    have hqs:(ns (q/10)).size≤(ns q).size:=by rw [ns_size,ns_size];exact nb_mono (by omega)
    have HK:Hid (dec x=dec q++t∧dec q=dec (q/10)++[UInt8.ofNat (48+q%10)]∧q/10<q∧(ns (q/10)).size≤(ns q).size):=⟨hd,hdec,by omega,hqs⟩
    generalize q/10=p at *
    generalize q%10=r at *
    have hcv:=fun w'=>conv_bytes (P:=Tryz.prog) (l:=[UInt8.ofNat (48+r)]) (SliceAt.lit w' 5 1 1 #[.int .u8 ((UInt8.ofNat (48+r)).toNat:Int)] rfl (by decide)) 66 5 9 Tryz.underlying66 Tryz.underlying5 Tryz.underlying9
    have ec:((UInt8.ofNat (48+r)).toNat:Int)=48+(r:Int):=by simp;omega
    simp only [ec] at hcv
    clear ec
    generalize hx:UInt8.ofNat (48+r)=c at hcv HK
    have hlx:(⟨#[c]⟩:ByteArray).size=1:=rfl
    have hlt:(⟨t.toArray⟩:ByteArray).size=t.length:=List.size_toArray
    have htl:t.length≤3*a.size:=by rw [hd,List.length_append] at hdl;omega
    clear hdl
    have G2:=Lib.hid hdv
    have G3:=Lib.hid hdg
    clear hdv hdg hdec hqs hd hv10 hx h0
    go_wp2_with fail
    refine G2.out.mono ?_;rintro e w1 ⟨rfl,hb1⟩
    go_wp2_with fail
    refine (G3.out _).mono ?_;rintro e w' ⟨rfl,rfl⟩
    go_wp2_with fail
    obtain ⟨k1,k2,k3,k4⟩:=HK.out
    refine ⟨⟨p,c::t,rfl,by omega,by apply congrArg;apply bytes_ext;simp,by rw [k1,k2];simp,(hbr.trans (hb1.mono hbr.size)).alloc (Nat.le_trans hbr.size hb1.size) _⟩,?_⟩
    simp only [strOf,vn_ns];exact k3
end Go.Proofs.YthehegidpamldaaGreatDoor
