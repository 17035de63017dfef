/- What is above: walked, both sides. Conditions: what slices may hold. -/
import Derived.Test.YtgjnbcfencallaaDoorZB09
import Derived.Test.YtgjnbcfencallaaDoorZB06
import Derived.Shelf.Sort.Plain
set_option linter.unusedVariables false
set_option linter.unusedSimpArgs false
namespace Go.Proofs.YtgjnbcfencallaaDoor
open Go Go.RowKit
def abv (P:List Nat) (n s:Nat):Nat:=setB n (anO P n s)
def orI (P:List Nat) (s i:Nat):Nat:=((els s).take i).foldl (fun m v=>m|||P.getD v 0) s
section
variable {P : List Nat} {n s s0 i u v : Nat}
theorem orI_next (h:(els s)[i]?=some v):orI P s i|||P.getD v 0=orI P s (i+1):=by
 unfold orI
 rw [List.take_add_one,h,List.foldl_append];rfl
theorem orI_bit:∀i,(orI P s i).testBit u=(s.testBit u||((els s).take i).any fun v=>paO P u v):=by
 intro i
 unfold orI
 suffices h:∀(l:List Nat) (m:Nat),(l.foldl (fun m v=>m|||P.getD v 0) m).testBit u=(m.testBit u||l.any fun v=>paO P u v) from h _ _
 intro l
 induction l with
 | nil=>intro m;simp
 | cons v l ih=>intro m;rw [List.foldl_cons,ih,Nat.testBit_or,List.any_cons,Bool.or_assoc];rfl
theorem orI_lt (hg:GP n P) (hs:s<256):orI P s i<256:=lt256 fun u hu=>by
 rw [orI_bit] at hu
 rcases Bool.or_eq_true_iff.1 hu with h|h
 ·exact bits_lt8 hs h
 ·obtain ⟨v,_,h⟩:=List.any_eq_true.1 h
  have:=(hg.pa u v h).1
  have:=hg.n8
  omega
theorem orI_all (hs:s<256):(orI P s (els s).length).testBit u=true↔s.testBit u=true∨∃v,s.testBit v=true∧paO P u v=true:=by
 rw [orI_bit,List.take_length,Bool.or_eq_true,List.any_eq_true]
 constructor
 ·rintro (h|⟨v,hv,h⟩)
  ·exact .inl h
  ·exact .inr ⟨v,(els_mem.1 hv).2,h⟩
 ·rintro (h|⟨v,hv,h⟩)
  ·exact .inl h
  ·exact .inr ⟨v,els_mem.2 ⟨bits_lt8 hs hv,hv⟩,h⟩
theorem abv_bit:(abv P n s).testBit v=(decide (v<n)&&anO P n s v):=setB_bit
structure AbI (P : List Nat) (n s0 s : Nat) : Prop where
  lt : ∀ v, s.testBit v = true → v < n
  sub : ∀ v, s0.testBit v = true → s.testBit v = true
  up : ∀ v, s.testBit v = true → anO P n s0 v = true
theorem AbI.lt8 (h:AbI P n s0 s) (hn:n≤8):s<256:=lt256 fun v hv=>by have:=h.lt v hv;omega
theorem AbI.zero (h0:∀v,s0.testBit v=true→v<n):AbI P n s0 s0:=⟨h0,fun _ h=>h,fun v hv=>anO_self h0 v hv⟩
theorem AbI.next (hg:GP n P) (h:AbI P n s0 s):AbI P n s0 (orI P s (els s).length):=by
 have hs:=h.lt8 hg.n8
 refine ⟨fun v hv=>?_,fun v hv=>(orI_all hs).2 (.inl (h.sub v hv)),fun v hv=>?_⟩
 ·rcases (orI_all hs).1 hv with h1|⟨w,h1,h2⟩
  ·exact h.lt v h1
  ·exact (hg.pa v w h2).1
 ·rcases (orI_all hs).1 hv with h1|⟨w,h1,h2⟩
  ·exact h.up v h1
  ·exact anO_up hg.pa v w h2 (h.up w h1)
theorem AbI.gt (hg:GP n P) (h:AbI P n s0 s) (hne:orI P s (els s).length≠s):s<orI P s (els s).length:=by
 have e:orI P s (els s).length=s|||orI P s (els s).length:=ext_bits' fun u=>by
  rw [Nat.testBit_or]
  cases hu:s.testBit u with
  | false=>simp
  | true=>rw [(orI_all (h.lt8 hg.n8)).2 (.inl hu)];rfl
 have:s≤orI P s (els s).length:=by rw [e];exact Nat.left_le_or
 omega
theorem AbI.done (hg:GP n P) (h:AbI P n s0 s) (he:orI P s (els s).length=s):s=abv P n s0:=ext_bits' fun v=>by
 rw [abv_bit,Bool.eq_iff_iff,Bool.and_eq_true,decide_eq_true_eq]
 constructor
 ·intro hv;exact ⟨h.lt v hv,h.up v hv⟩
 ·rintro ⟨hv,ha⟩
  obtain ⟨z,hz,h1,h2⟩:=(anO_iff hv).1 ha
  have hcl:∀u w,paO P u w=true→s.testBit w=true→s.testBit u=true:=fun u w hu hw=>by
   rw [←he];exact (orI_all (h.lt8 hg.n8)).2 (.inr ⟨w,hw,hu⟩)
  have:∀z,Star n (paO P) v z→s.testBit z=true→s.testBit v=true:=by
   intro z hst
   induction hst with
   | refl=>exact id
   | step _ _ he ih=>exact fun hk=>ih (hcl _ _ he hk)
  exact this z h2 (h.sub z h1)
end
set_option maxRecDepth 100000 in
set_option maxHeartbeats 8000000 in
theorem above_w {n s:Nat} {P:List Nat} (hg:GP n P) (h0:∀v,s.testBit v=true→v<n):Good Tryd.prog 38 [.fz 1 (P.map U),U s] (U (abv P n s)):=by
 have hl:=hg.len
 have hn8:=hg.n8
 have hok:enterOk Tryd.prog 45=true:=by kernel_rfl
 refine good_of Tryd.func38 rfl (by kernel_rfl) fun X hO hrd=>?_;rw [Tryd.ntmps38,Tryd.results38];simp only [ast0,List.map_cons,List.map_nil,List.length_cons,List.length_nil,Nat.reduceAdd,Nat.reduceSub,List.replicate_succ,List.replicate_zero,List.cons_append,List.nil_append]
 (repeat (with_reducible first|refine W_seq fun K hK=>?_|refine J_block ?_|refine J_region ?_ |(refine Kont.go (by assumption) ?_)|(simp (config:={ maxSteps:=3000000 }) (disch:=omega) only [go_sem])))
 refine W_loop [1,4,5,6,7,8,9,10,11,12,13,14,15,16,17,18,19,20,21] (fun x:Nat=>[(1,.f (U x))]) (fun x:Nat=>[some ⟨52,1,[.f (.fz 1 (P.map U))]⟩]) (fun x:Nat=>AbI P n s x) (fun x:Nat=>256-x) (s) (AbI.zero h0) (by refine weak_of ?_ ?_<;>simp (disch:=omega) only [go_sem]<;>first|rfl|exact ⟨rfl,rfl⟩|exact Or.inl rfl|exact ⟨Or.inl rfl,Or.inl rfl⟩|trivial|assumption|omega|(symm;assumption)|((repeat' apply And.intro)<;>first|rfl|omega|trivial|exact .inl rfl|exact .inr ⟨rfl,rfl⟩|exact .inr rfl|(right;symm;assumption)|(symm;assumption)|assumption)) ?_
 rintro x hx
 have hx8:=hx.lt8 hn8
 have hit:=all_iter x hx8
 simp only [go_sem]
 (repeat (with_reducible first|refine W_seq fun K hK=>?_|refine J_block ?_|refine J_region ?_ |(refine Kont.go (by assumption) ?_)|(simp (config:={ maxSteps:=3000000 }) (disch:=omega) only [go_sem,↓reduceIte])))
 refine J_rangeW hrd [6,10,11,12,13,14,15,16] (fun i=>[some ⟨52,1,[.f (.fz 1 (P.map U))]⟩,some ⟨56,1,[.f (U (orI P x i))]⟩]) rfl (hit) (by kernel_rfl) (by refine weak_of ?_ ?_<;>simp (disch:=omega) only [go_sem,Nat.reduceAdd]<;>first|rfl|exact ⟨rfl,rfl⟩|trivial|((repeat' apply And.intro)<;>first|rfl|trivial|exact .inl rfl|exact .inr ⟨rfl,rfl⟩|exact .inr rfl)) (by decide) (by kernel_rfl) (by kernel_rfl) ?_ ?_
 ·rintro i y hy X1 hX1 K hK
  obtain ⟨v,rfl,hv8,hvs,hvi,htk⟩:=els_take hy
  have hvn:=hx.lt v hvs
  have gv:=sets_get (P:=P) (v:=v) (by omega)
  have ho:=u_or (orI_lt (i:=i) hg hx8) (hg.lt8 (v:=v))
  have hnx:=orI_next (P:=P) hvi
  rw [hnx] at ho
  simp only [go_sem]
  (repeat (with_reducible first|refine J_region ?_ |(refine Kont.go (by assumption) ?_)|(simp (config:={ maxSteps:=3000000 }) (disch:=omega) only [go_sem])))
  intro X2 hX2
  (repeat (with_reducible first|refine J_block ?_|refine J_drawn mixed (by kernel_rfl) ?_|(simp (config:={ maxSteps:=3000000 }) (disch:=omega) only [go_sem,↓reduceIte,gv,ho])))
  refine rpost_n (weak_of ?_ ?_)<;>(try simp (disch:=omega) only [go_sem,Nat.reduceAdd])<;>(try first|done|omega|rfl|exact ⟨rfl,rfl⟩|trivial)
 ·have hel:((els x).map Int.ofNat).length=(els x).length:=by rw [List.length_map]
  rw [hel]
  have hm8:=orI_lt (i:=(els x).length) hg hx8
  simp only [go_sem]
  (repeat (with_reducible first|refine W_seq fun K hK=>?_|refine J_region ?_ |refine J_c ?_|(refine Kont.go (by assumption) ?_)|(simp (config:={ maxSteps:=3000000 }) (disch:=omega) only [go_sem,↓reduceIte])))
  refine Jc_if (fun hc=>?_) (fun hc=>?_)<;>try simp only [decide_eq_true_eq,decide_eq_false_iff_not,Int.natCast_inj] at hc
  ·have e:=hx.done hg (by omega)
   (repeat (with_reducible first|refine W_seq fun K hK=>?_|refine J_ret ?_|refine J_region ?_ |(refine Kont.go (by assumption) ?_)|(simp (config:={ maxSteps:=3000000 }) (disch:=omega) only [go_sem])))
   rw [←e];exact Frz.f _
  ·have hgt:=hx.gt hg (by omega)
   (repeat (with_reducible first|refine J_skip ?_|refine J_region ?_ |(refine Kont.go (by assumption) ?_)|(simp (config:={ maxSteps:=3000000 }) (disch:=omega) only [go_sem,↓reduceIte])))
   refine ⟨orI P x (els x).length,hx.next hg,by omega,weak_of ?_ ?_⟩<;>(try simp (disch:=omega) only [go_sem])<;>(try first|done|omega|rfl|exact ⟨rfl,rfl⟩|trivial)
set_option maxRecDepth 100000 in
set_option maxHeartbeats 8000000 in
theorem isAbove_w {n:Nat} {P:List Nat} (hg:GP n P) {rk:Nat→Nat} (hrk:∀u v,paO P u v=true→rk u<rk v) {a:Nat} (ha:a<n):∀(k:Nat) (b:Nat),b<n→rk b<k→Good Tryd.prog 68 [.fz 1 (gvs P),I (a:Int),I (b:Int)] (Bo (wsh (paO P) n a b)):=by
 have hl:=hg.len
 have hn8:=hg.n8
 intro k
 induction k with
 | zero=>intro b _ h;omega
 | succ k ih =>
  intro b hb hk
  refine good_of Tryd.func68 rfl (by kernel_rfl) fun X hO hrd=>?_;rw [Tryd.ntmps68,Tryd.results68];simp only [ast0,List.map_cons,List.map_nil,List.length_cons,List.length_nil,Nat.reduceAdd,Nat.reduceSub,List.replicate_succ,List.replicate_zero,List.cons_append,List.nil_append]
  by_cases e:a=b
  ·subst e
   have hr:=wsh_refl (E:=paO P) n a
   (repeat (with_reducible first|refine W_seq fun K hK=>?_|refine J_ret ?_|refine J_region ?_ |refine J_c ?_|refine Jc_true ?_|(refine Kont.go (by assumption) ?_)|(simp (config:={ maxSteps:=3000000 }) (disch:=omega) only [go_sem])))
   rw [hr];exact Frz.f _
  ·have e':¬(a:Int)=(b:Int):=by omega
   have gx:=gvs_get (P:=P) (v:=b) (by omega)
   obtain ⟨s,hs⟩:∃s,s=P.getD b 0:=⟨_,rfl⟩
   rw [←hs] at gx
   have hsl:=els_len (s:=s)
   (repeat (with_reducible first|refine W_seq fun K hK=>?_|refine J_block ?_|refine J_skip ?_|refine J_region ?_ |refine J_c ?_|refine Jc_false ?_|(refine Kont.go (by assumption) ?_)|(simp (config:={ maxSteps:=3000000 }) (disch:=omega) only [go_sem,e'])))
   refine W_loop [6,7,8,12,13,14,15,16,17,18,19,20,21,22,23,24,25,26,27,28,29,30,31] (fun i:Nat=>[(7,.f (I i))]) (fun i:Nat=>[]) (fun i:Nat=>i≤(els s).length∧∀j,j<i→wsh (paO P) n a ((els s).getD j 0)=false) (fun i:Nat=>(els s).length-i) (0) (⟨Nat.zero_le _,fun j h=>by omega⟩) (by refine weak_of ?_ ?_<;>simp (disch:=omega) only [go_sem]<;>first|rfl|exact ⟨rfl,rfl⟩|exact Or.inl rfl|exact ⟨Or.inl rfl,Or.inl rfl⟩|trivial|assumption|omega|(symm;assumption)|((repeat' apply And.intro)<;>first|rfl|omega|trivial|exact .inl rfl|exact .inr ⟨rfl,rfl⟩|exact .inr rfl|(right;symm;assumption)|(symm;assumption)|assumption)) ?_
   rintro i ⟨hi,hp⟩
   simp only [go_sem]
   (repeat (with_reducible first|refine W_seq fun K hK=>?_|refine J_region ?_ |refine J_c ?_|(refine Kont.go (by assumption) ?_)|(simp (config:={ maxSteps:=3000000 }) (disch:=omega) only [go_sem,↓reduceIte,gx,Ns_len])))
   refine Jc_if (fun hil=>?_) (fun hil=>?_)<;>try simp only [decide_eq_true_eq,decide_eq_false_iff_not] at hil
   ·obtain ⟨u,hu⟩:∃u,(els s)[i]?=some u:=⟨_,List.getElem?_eq_getElem hil⟩
    have hum:=els_mem.1 (List.mem_of_getElem? hu)
    have gu:=Ns_get (l:=els s) (i:=i) hil
    have gu2:(els s).getD i 0=u:=by rw [List.getD_eq_getElem?_getD,hu];rfl
    rw [gu2] at gu
    have hpa:paO P u b=true:=by unfold paO;rw [←hs];exact hum.2
    have hun:=(hg.pa u b hpa).1
    have hc:=ih u hun (by have:=hrk u b hpa;omega)
    (repeat (with_reducible first|refine W_seq fun K hK=>?_|refine J_block ?_|refine J_skip ?_|refine J_region ?_ |(refine Kont.go (by assumption) ?_)|(simp (config:={ maxSteps:=3000000 }) (disch:=omega) only [go_sem,↓reduceIte,gx,gu])))
    (first|refine call_f (hc) rfl ?_|refine callQ_f (hc) rfl ?_|refine callHK_f (hc) rfl ?_|refine callH_f (hc) rfl ?_)
    cases hw:wsh (paO P) n a u with
    | true =>
     have hr:wsh (paO P) n a b=true:=(wsh_iff ha hb).2 (.step ((wsh_iff ha hun).1 hw) hb hpa)
     (repeat (with_reducible first|refine W_seq fun K hK=>?_|refine J_ret ?_|refine J_region ?_ |refine J_c ?_|refine Jc_true ?_|(refine Kont.go (by assumption) ?_)|(simp (config:={ maxSteps:=3000000 }) (disch:=omega) only [go_sem])))
     rw [hr];exact Frz.f _
    | false =>
     (repeat (with_reducible first|refine W_seq fun K hK=>?_|refine J_skip ?_|refine J_region ?_ |refine J_c ?_|refine Jc_false ?_|(refine Kont.go (by assumption) ?_)|(simp (config:={ maxSteps:=3000000 }) (disch:=omega) only [go_sem])))
     refine ⟨i+1,⟨by omega,upto_next (p:=fun j=>wsh (paO P) n a ((els s).getD j 0)=false) hp (by rw [gu2];exact hw)⟩,by omega,weak_of ?_ ?_⟩<;>(try simp (disch:=omega) only [go_sem])<;>(try first|done|omega|rfl|exact ⟨rfl,rfl⟩|trivial)
   ·have hr:wsh (paO P) n a b=false:=by
     cases hw:wsh (paO P) n a b with
     | false=>rfl
     | true =>
      have hst:=(wsh_iff ha hb).1 hw
      cases hst with
      | refl=>exact absurd rfl e
      | @step j _ h1 h2 h3 =>
       obtain ⟨h4,_⟩:=hg.pa j b h3
       have hm:j∈els s:=els_mem.2 ⟨by omega,by rw [hs];exact h3⟩
       obtain ⟨q,hq,eq⟩:=List.getElem_of_mem hm
       have:=hp q (by omega)
       rw [lget_lt (els s) 0 hq,eq,(wsh_iff ha h4).2 h1] at this
       cases this
    (repeat (with_reducible first|refine W_seq fun K hK=>?_|refine J_exit ?_|refine J_ret ?_|refine J_region ?_ |(refine Kont.go (by assumption) ?_)|(simp (config:={ maxSteps:=3000000 }) (disch:=omega) only [go_sem,↓reduceIte])))
    rw [hr];exact Frz.f _
set_option maxRecDepth 100000 in
set_option maxHeartbeats 8000000 in
theorem aboveOne_w {n s:Nat} {P:List Nat} (hg:GP n P) {rk:Nat→Nat} (hrk:∀u v,paO P u v=true→rk u<rk v) {a:Nat} (ha:a<n) (h0:∀v,s.testBit v=true→v<n):Good Tryd.prog 41 [.fz 1 (gvs P),I (a:Int),.fz 1 (Ns (els s))] (Bo (anO P n s a)):=by
 have hl:=hg.len
 have hn8:=hg.n8
 have hsl:=els_len (s:=s)
 refine good_of Tryd.func41 rfl (by kernel_rfl) fun X hO hrd=>?_;rw [Tryd.ntmps41,Tryd.results41];simp only [ast0,List.map_cons,List.map_nil,List.length_cons,List.length_nil,Nat.reduceAdd,Nat.reduceSub,List.replicate_succ,List.replicate_zero,List.cons_append,List.nil_append]
 (repeat (with_reducible first|refine W_seq fun K hK=>?_|refine J_block ?_|refine J_region ?_ |(refine Kont.go (by assumption) ?_)|(simp (config:={ maxSteps:=3000000 }) (disch:=omega) only [go_sem])))
 refine W_loop [6,7,8,9,10,11,12,13,14,15,16,17,18,19,20,21,22] (fun i:Nat=>[(7,.f (I i))]) (fun i:Nat=>[]) (fun i:Nat=>i≤(els s).length∧∀j,j<i→wsh (paO P) n a ((els s).getD j 0)=false) (fun i:Nat=>(els s).length-i) (0) (⟨Nat.zero_le _,fun j h=>by omega⟩) (by refine weak_of ?_ ?_<;>simp (disch:=omega) only [go_sem]<;>first|rfl|exact ⟨rfl,rfl⟩|exact Or.inl rfl|exact ⟨Or.inl rfl,Or.inl rfl⟩|trivial|assumption|omega|(symm;assumption)|((repeat' apply And.intro)<;>first|rfl|omega|trivial|exact .inl rfl|exact .inr ⟨rfl,rfl⟩|exact .inr rfl|(right;symm;assumption)|(symm;assumption)|assumption)) ?_
 rintro i ⟨hi,hp⟩
 simp only [go_sem]
 (repeat (with_reducible first|refine W_seq fun K hK=>?_|refine J_region ?_ |refine J_c ?_|(refine Kont.go (by assumption) ?_)|(simp (config:={ maxSteps:=3000000 }) (disch:=omega) only [go_sem,Ns_len])))
 refine Jc_if (fun hil=>?_) (fun hil=>?_)<;>try simp only [decide_eq_true_eq,decide_eq_false_iff_not] at hil
 ·obtain ⟨u,hu⟩:∃u,(els s)[i]?=some u:=⟨_,List.getElem?_eq_getElem hil⟩
  have hum:=els_mem.1 (List.mem_of_getElem? hu)
  have gu:=Ns_get (l:=els s) (i:=i) hil
  have gu2:(els s).getD i 0=u:=by rw [List.getD_eq_getElem?_getD,hu];rfl
  rw [gu2] at gu
  have hun:=h0 u hum.2
  have hc:=isAbove_w hg hrk ha (rk u+1) u hun (by omega)
  (repeat (with_reducible first|refine W_seq fun K hK=>?_|refine J_block ?_|refine J_skip ?_|refine J_region ?_ |(refine Kont.go (by assumption) ?_)|(simp (config:={ maxSteps:=3000000 }) (disch:=omega) only [go_sem,↓reduceIte,gu])))
  (first|refine call_f (hc) rfl ?_|refine callQ_f (hc) rfl ?_|refine callHK_f (hc) rfl ?_|refine callH_f (hc) rfl ?_)
  cases hw:wsh (paO P) n a u with
  | true =>
   have hr:anO P n s a=true:=(anO_iff ha).2 ⟨u,hun,hum.2,(wsh_iff ha hun).1 hw⟩
   (repeat (with_reducible first|refine W_seq fun K hK=>?_|refine J_ret ?_|refine J_region ?_ |refine J_c ?_|refine Jc_true ?_|(refine Kont.go (by assumption) ?_)|(simp (config:={ maxSteps:=3000000 }) (disch:=omega) only [go_sem])))
   rw [hr];exact Frz.f _
  | false =>
   (repeat (with_reducible first|refine W_seq fun K hK=>?_|refine J_skip ?_|refine J_region ?_ |refine J_c ?_|refine Jc_false ?_|(refine Kont.go (by assumption) ?_)|(simp (config:={ maxSteps:=3000000 }) (disch:=omega) only [go_sem])))
   refine ⟨i+1,⟨by omega,upto_next (p:=fun j=>wsh (paO P) n a ((els s).getD j 0)=false) hp (by rw [gu2];exact hw)⟩,by omega,weak_of ?_ ?_⟩<;>(try simp (disch:=omega) only [go_sem])<;>(try first|done|omega|rfl|exact ⟨rfl,rfl⟩|trivial)
 ·have hr:anO P n s a=false:=by
   cases hw:anO P n s a with
   | false=>rfl
   | true =>
    obtain ⟨z,hz,h1,h2⟩:=(anO_iff ha).1 hw
    obtain ⟨q,hq,eq⟩:=List.getElem_of_mem (els_mem.2 ⟨by omega,h1⟩)
    have:=hp q (by omega)
    rw [lget_lt (els s) 0 hq,eq,(wsh_iff ha hz).2 h2] at this
    cases this
  (repeat (with_reducible first|refine W_seq fun K hK=>?_|refine J_exit ?_|refine J_ret ?_|refine J_region ?_ |(refine Kont.go (by assumption) ?_)|(simp (config:={ maxSteps:=3000000 }) (disch:=omega) only [go_sem,↓reduceIte])))
  rw [hr];exact Frz.f _
def abvL (L:List (List Int)) (l:List Int):List Nat:=if ordE L=0∧risB L.length l=true then els (abv (setsOf L) L.length (setI l)) else []
def abvE (L:List (List Int)) (l:List Int):Int:=if ordE L≠0 then ordE L else if risB L.length l=true then 0 else 11
def OkNs (l:List Int):Prop:=l.length≤140737488355328∧∀x∈l,-9223372036854775808≤x∧x≤9223372036854775807
theorem ord_ok {L:List (List Int)} (h:ordE L=0):listsB L=true∧∃l,ordN (setsOf L) L.length L.length []=some l:=by
 unfold ordE at h
 split at h
 ·rename_i hb
  refine ⟨hb,?_⟩
  split at h
  ·rename_i hs;exact Option.isSome_iff_exists.1 hs
  ·cases h
 ·cases h
set_option maxRecDepth 100000 in
set_option maxHeartbeats 8000000 in
theorem Above_w (L:List (List Int)) (hL:OkIss L) (l:List Int) (hl:OkNs l):Good Tryd.prog 13 [.fz 1 (L.map ints),ints l] (.tup [.fz 1 (Ns (abvL L l)),I (abvE L l)]):=by
 have hc:=check_w2 L hL
 have hrs0:=reads_w L hL
 by_cases h0:ordE L=0
 case neg =>
  rw [show abvL L l=[] by unfold abvL;rw [if_neg fun h=>h0 h.1],show abvE L l=ordE L by unfold abvE;rw [if_pos h0]]
  refine good_of Tryd.func13 rfl (by kernel_rfl) fun X hO hrd=>?_;rw [Tryd.ntmps13,Tryd.results13];simp only [ast0,List.map_cons,List.map_nil,List.length_cons,List.length_nil,Nat.reduceAdd,Nat.reduceSub,List.replicate_succ,List.replicate_zero,List.cons_append,List.nil_append]
  (repeat (with_reducible first|refine W_seq fun K hK=>?_|refine J_region ?_ |(refine Kont.go (by assumption) ?_)|(simp (config:={ maxSteps:=3000000 }) (disch:=omega) only [go_sem])))
  (first|refine call_f (hc) rfl ?_|refine callQ_f (hc) rfl ?_|refine callHK_f (hc) rfl ?_|refine callH_f (hc) rfl ?_)
  (repeat (with_reducible first|refine W_seq fun K hK=>?_|refine J_ret ?_|refine J_region ?_ |refine J_c ?_|refine Jc_true ?_|(refine Kont.go (by assumption) ?_)|(simp (config:={ maxSteps:=3000000 }) (disch:=omega) only [go_sem,h0])))
  exact ⟨_,rfl,FrzL.cons (.nil _) (FrzL.cons (.f _) (FrzL.nil _))⟩
 obtain ⟨hb,o,ho⟩:=ord_ok h0
 have hg:=GP.of hb
 have e3:rdR L=.own 56 1 ((setsOf L).map U):=by unfold rdR;rw [hb];rfl
 have hre:=read_w l (n:=L.length) hg.n8 hl.2 hl.1
 rw [hb,e3] at hrs0
 rw [h0] at hc
 have hsl:((setsOf L).map U).length=L.length:=by rw [List.length_map,setsOf_len]
 cases hr:risB L.length l with
 | false =>
  rw [hr] at hre
  rw [show abvL L l=[] by unfold abvL;rw [if_neg fun h=>by rw [hr] at h;cases h.2],show abvE L l=11 by unfold abvE;rw [if_neg (by omega),if_neg (by rw [hr];decide)]]
  refine good_of Tryd.func13 rfl (by kernel_rfl) fun X hO hrd=>?_;rw [Tryd.ntmps13,Tryd.results13];simp only [ast0,List.map_cons,List.map_nil,List.length_cons,List.length_nil,Nat.reduceAdd,Nat.reduceSub,List.replicate_succ,List.replicate_zero,List.cons_append,List.nil_append]
  (repeat (with_reducible first|refine W_seq fun K hK=>?_|refine J_region ?_ |(refine Kont.go (by assumption) ?_)|(simp (config:={ maxSteps:=3000000 }) (disch:=omega) only [go_sem])))
  (first|refine call_f (hc) rfl ?_|refine callQ_f (hc) rfl ?_|refine callHK_f (hc) rfl ?_|refine callH_f (hc) rfl ?_)
  (repeat (with_reducible first|refine W_seq fun K hK=>?_|refine J_skip ?_|refine J_region ?_ |refine J_c ?_|refine Jc_false ?_|(refine Kont.go (by assumption) ?_)|(simp (config:={ maxSteps:=3000000 }) (disch:=omega) only [go_sem])))
  refine call_ot hrs0 (FrzL.fs [_]) ?_
  (repeat (with_reducible first|refine W_seq fun K hK=>?_|refine J_region ?_ |(refine Kont.go (by assumption) ?_)|(simp (config:={ maxSteps:=3000000 }) (disch:=omega) only [go_sem,hsl])))
  (first|refine call_f (hre) rfl ?_|refine callQ_f (hre) rfl ?_|refine callHK_f (hre) rfl ?_|refine callH_f (hre) rfl ?_)
  (repeat (with_reducible first|refine W_seq fun K hK=>?_|refine J_ret ?_|refine J_region ?_ |refine J_c ?_|refine Jc_true ?_|(refine Kont.go (by assumption) ?_)|(simp (config:={ maxSteps:=3000000 }) (disch:=omega) only [go_sem])))
  exact ⟨_,rfl,FrzL.cons (.nil _) (FrzL.cons (.f _) (FrzL.nil _))⟩
 | true =>
  have h3:∀v,(setI l).testBit v=true→v<L.length:=fun v hv=>setI_mem hr hv
  have hrs:readS L.length l=setI l:=by unfold readS;rw [if_pos hr]
  rw [hr,hrs] at hre
  have hab:=above_w hg h3
  have hli:=list_w (s:=abv (setsOf L) L.length (setI l)) (setB_lt hg.n8)
  rw [show abvL L l=els (abv (setsOf L) L.length (setI l)) by unfold abvL;rw [if_pos ⟨h0,hr⟩],show abvE L l=0 by unfold abvE;rw [if_neg (by omega),if_pos hr]]
  refine good_of Tryd.func13 rfl (by kernel_rfl) fun X hO hrd=>?_;rw [Tryd.ntmps13,Tryd.results13];simp only [ast0,List.map_cons,List.map_nil,List.length_cons,List.length_nil,Nat.reduceAdd,Nat.reduceSub,List.replicate_succ,List.replicate_zero,List.cons_append,List.nil_append]
  (repeat (with_reducible first|refine W_seq fun K hK=>?_|refine J_region ?_ |(refine Kont.go (by assumption) ?_)|(simp (config:={ maxSteps:=3000000 }) (disch:=omega) only [go_sem])))
  (first|refine call_f (hc) rfl ?_|refine callQ_f (hc) rfl ?_|refine callHK_f (hc) rfl ?_|refine callH_f (hc) rfl ?_)
  (repeat (with_reducible first|refine W_seq fun K hK=>?_|refine J_skip ?_|refine J_region ?_ |refine J_c ?_|refine Jc_false ?_|(refine Kont.go (by assumption) ?_)|(simp (config:={ maxSteps:=3000000 }) (disch:=omega) only [go_sem])))
  refine call_ot hrs0 (FrzL.fs [_]) ?_
  (repeat (with_reducible first|refine W_seq fun K hK=>?_|refine J_region ?_ |(refine Kont.go (by assumption) ?_)|(simp (config:={ maxSteps:=3000000 }) (disch:=omega) only [go_sem,hsl])))
  (first|refine call_f (hre) rfl ?_|refine callQ_f (hre) rfl ?_|refine callHK_f (hre) rfl ?_|refine callH_f (hre) rfl ?_)
  (repeat (with_reducible first|refine W_seq fun K hK=>?_|refine J_skip ?_|((fail_if_success refine J_region (id:=8) ?_);refine J_region ?_) |refine J_c ?_|refine Jc_false ?_|(refine Kont.go (by assumption) ?_)|(simp (config:={ maxSteps:=3000000 }) (disch:=omega) only [go_sem])))
  refine J_freezeO (j:=7) rfl (by first|rfl|(simp;done)|(simp [*];done)) rfl ?_
  simp only [go_sem]
  (repeat (with_reducible first|refine J_region ?_ |(simp (config:={ maxSteps:=3000000 }) (disch:=omega) only [go_sem])))
  (first|refine call_f (hab) rfl ?_|refine callQ_f (hab) rfl ?_|refine callHK_f (hab) rfl ?_|refine callH_f (hab) rfl ?_)
  (repeat (with_reducible first|(simp (config:={ maxSteps:=3000000 }) (disch:=omega) only [go_sem])))
  (first|refine call_f (hli) rfl ?_|refine callQ_f (hli) rfl ?_|refine callHK_f (hli) rfl ?_|refine callH_f (hli) rfl ?_)
  (repeat (with_reducible first|refine J_ret ?_|(refine Kont.go (by assumption) ?_)|(simp (config:={ maxSteps:=3000000 }) (disch:=omega) only [go_sem])))
  exact ⟨_,rfl,FrzL.fs [_,_]⟩
end Go.Proofs.YtgjnbcfencallaaDoor
set_option linter.unusedVariables false
set_option linter.unusedSimpArgs false
namespace Go.Proofs.YtgjnbcfencallaaDoor
open Go Go.RowKit
section
variable {P : List Nat} {n v i u w : Nat}
end
end Go.Proofs.YtgjnbcfencallaaDoor
set_option linter.unusedVariables false
set_option linter.unusedSimpArgs false
namespace Go.Proofs.YtgjnbcfencallaaDoor
open Go Go.RowKit
end Go.Proofs.YtgjnbcfencallaaDoor
set_option linter.unusedVariables false
set_option linter.unusedSimpArgs false
namespace Go.Proofs.YtgjnbcfencallaaDoor
open Go Go.RowKit
def frsI (p:Nat→Bool) (n:Nat):Int:=match (List.range n).find? p with
 | some i=>(i:Int)
 | none=>-1
theorem frsI_some {p:Nat→Bool} {n i:Nat} (hi:i<n) (hp:p i=true) (hb:∀j,j<i→p j=false):frsI p n=i:=by
 have e:(List.range n).find? p=some i:=List.find?_range_eq_some.2 ⟨hp,List.mem_range.2 hi,fun j hj=>by rw [hb j hj];rfl⟩
 unfold frsI;rw [e]
theorem frsI_none {p:Nat→Bool} {n:Nat} (hb:∀j,j<n→p j=false):frsI p n=-1:=by
 have e:(List.range n).find? p=none:=List.find?_eq_none.2 fun x hx=>by rw [hb x (List.mem_range.1 hx)];decide
 unfold frsI;rw [e]
theorem frsI_any {p:Nat→Bool} {n:Nat}:decide (0≤frsI p n)=(List.range n).any p:=by
 unfold frsI
 cases h:(List.range n).find? p with
 | none =>
  have h0:=List.find?_eq_none.1 h
  have:(List.range n).any p=false:=by
   rw [List.any_eq_false];exact fun x hx=>h0 x hx
  rw [this];rfl
 | some i =>
  have h0:=List.find?_some h
  have h1:=List.mem_of_find?_eq_some h
  have:(List.range n).any p=true:=List.any_eq_true.2 ⟨i,h1,h0⟩
  rw [this];exact decide_eq_true (by simp only;omega)
section
variable {s t : Nat}
end
end Go.Proofs.YtgjnbcfencallaaDoor
set_option linter.unusedVariables false
set_option linter.unusedSimpArgs false
namespace Go.Proofs.YtgjnbcfencallaaDoor
open Go Go.RowKit Go.Shelf
def sortRen:Go.Shelf.Ren:=⟨fun|189=>72|125=>83|257=>82|128=>94|129=>95|294=>85|295=>86|296=>87|297=>88|298=>89|299=>90|216=>91|300=>92|301=>93|328=>96|329=>97|330=>98|331=>99|332=>100|215=>101|343=>102|n=>n,fun|28=>23|3=>3|46=>55|0=>0|51=>97|53=>99|4=>4|183=>106|182=>105|131=>111|5=>5|9=>9|218=>113|222=>117|228=>119|229=>120|n=>n,fun n=>n⟩
theorem sortLays:Lays.n189 Tryd.prog sortRen where
 mixed:=by kernel_rfl
 f125:=Tryd.func83.trans (congrArg some (by kernel_rfl))
 f128:=Tryd.func94.trans (congrArg some (by kernel_rfl))
 f129:=Tryd.func95.trans (congrArg some (by kernel_rfl))
 f189:=Tryd.func72.trans (congrArg some (by kernel_rfl))
 f215:=Tryd.func101.trans (congrArg some (by kernel_rfl))
 f216:=Tryd.func91.trans (congrArg some (by kernel_rfl))
 f257:=Tryd.func82.trans (congrArg some (by kernel_rfl))
 f294:=Tryd.func85.trans (congrArg some (by kernel_rfl))
 f295:=Tryd.func86.trans (congrArg some (by kernel_rfl))
 f296:=Tryd.func87.trans (congrArg some (by kernel_rfl))
 f297:=Tryd.func88.trans (congrArg some (by kernel_rfl))
 f298:=Tryd.func89.trans (congrArg some (by kernel_rfl))
 f299:=Tryd.func90.trans (congrArg some (by kernel_rfl))
 f300:=Tryd.func92.trans (congrArg some (by kernel_rfl))
 f301:=Tryd.func93.trans (congrArg some (by kernel_rfl))
 f328:=Tryd.func96.trans (congrArg some (by kernel_rfl))
 f329:=Tryd.func97.trans (congrArg some (by kernel_rfl))
 f330:=Tryd.func98.trans (congrArg some (by kernel_rfl))
 f331:=Tryd.func99.trans (congrArg some (by kernel_rfl))
 f332:=Tryd.func100.trans (congrArg some (by kernel_rfl))
 f343:=Tryd.func102.trans (congrArg some (by kernel_rfl))
 t0:=Tryd.underlying0
 a0:=Tryd.isAgg0
 z0:=Tryd.sizeOf0
 v0:=Tryd.zeroValue0
 t3:=Tryd.underlying3
 a3:=Tryd.isAgg3
 z3:=Tryd.sizeOf3
 v3:=Tryd.zeroValue3
 t4:=Tryd.underlying4
 a4:=Tryd.isAgg4
 z4:=Tryd.sizeOf4
 v4:=Tryd.zeroValue4
 t5:=Tryd.underlying5
 a5:=Tryd.isAgg5
 z5:=Tryd.sizeOf5
 v5:=Tryd.zeroValue5
 t9:=Tryd.underlying9
 a9:=Tryd.isAgg9
 z9:=Tryd.sizeOf9
 v9:=Tryd.zeroValue9
 t28:=Tryd.underlying23
 a28:=Tryd.isAgg23
 z28:=Tryd.sizeOf23
 v28:=Tryd.zeroValue23
 t46:=Tryd.underlying55
 a46:=Tryd.isAgg55
 z46:=Tryd.sizeOf55
 v46:=Tryd.zeroValue55
 t51:=Tryd.underlying97
 a51:=Tryd.isAgg97
 z51:=Tryd.sizeOf97
 v51:=Tryd.zeroValue97
 t53:=Tryd.underlying99
 a53:=Tryd.isAgg99
 z53:=Tryd.sizeOf99
 v53:=Tryd.zeroValue99
 t131:=Tryd.underlying111
 a131:=Tryd.isAgg111
 z131:=Tryd.sizeOf111
 v131:=Tryd.zeroValue111
 t182:=Tryd.underlying105
 a182:=Tryd.isAgg105
 z182:=Tryd.sizeOf105
 v182:=Tryd.zeroValue105
 t183:=Tryd.underlying106
 a183:=Tryd.isAgg106
 z183:=Tryd.sizeOf106
 v183:=Tryd.zeroValue106
 t218:=Tryd.underlying113
 a218:=Tryd.isAgg113
 z218:=Tryd.sizeOf113
 v218:=Tryd.zeroValue113
 t222:=Tryd.underlying117
 a222:=Tryd.isAgg117
 z222:=Tryd.sizeOf117
 v222:=Tryd.zeroValue117
 t228:=Tryd.underlying119
 a228:=Tryd.isAgg119
 z228:=Tryd.sizeOf119
 v228:=Tryd.zeroValue119
 t229:=Tryd.underlying120
 a229:=Tryd.isAgg120
 z229:=Tryd.sizeOf120
 v229:=Tryd.zeroValue120
theorem flatF_I (zs:List Int):flatF (zs.map I)=zs.map I:=by
 unfold flatF
 induction zs with
 | nil=>rfl
 | cons z zs ih=>rw [List.map_cons,List.flatMap_cons,ih];rfl
theorem own_cellsI {X:Cx} {w:World} {F:Nat→Prop} {loc:Nat→Nat × Nat} {t:List AV} {a:Act} {H:AH} {q:Nat} {zs:List Int} {ys:Array Value} (R:RelF X F loc ⟨t,H⟩ a w) (hq:H[q]?=some (some ⟨3,1,(zs.map I).map .f⟩))
  (hys:[AV.own q 1 0 zs.length].length=ys.size∧∀(j:Nat) x,[AV.own q 1 0 zs.length][j]?=some x→Rep w F loc H.length x (ys.getD j undef)) :
  ∃cap vs,ys=#[.slice (some ⟨(loc q).1,0,none⟩) zs.length cap]∧zs.length≤cap∧cap≤maxLen∧(loc q).2=cap∧q<H.length∧w.heap[(loc q).1]?=some (.cells vs 3 (0,0))∧vs.size=cap∧∀j,j<zs.length→vs[j]?=some (.int .i64 (zs.getD j 0)):=by
 obtain ⟨hyl,hyr⟩:=hys
 obtain ⟨y,rfl⟩:=Array.size_eq_one_iff.1 hyl.symm
 have h0:Rep w F loc H.length (.own q 1 0 zs.length) y:=hyr 0 _ rfl
 obtain ⟨hu,vs,hv,hvs,hc⟩:=R.obj q _ hq
 cases h0 with
 | own _ _ _ _ cap hr hk hm hs =>
  refine ⟨cap,vs,rfl,hk,hm,by omega,hr,hv,by rw [hvs,hs];omega,fun j hj=>?_⟩
  obtain ⟨u,h1,h2⟩:=hc j (.f (I zs[j])) (by
   show (flat ((zs.map I).map AV.f))[j]?=_
   rw [flat_f,flatF_I,List.getElem?_map,List.getElem?_map,List.getElem?_eq_getElem hj];rfl)
  rw [v_rep h2] at h1
  rw [h1,lget_lt zs 0 hj]
theorem holds_own {w:World} {blk:Nat} {vs:Array Value} {zs:List Int} (hv:w.heap[blk]?=some (.cells vs 3 (0,0))) (hcell:∀j,j<zs.length→vs[j]?=some (.int .i64 (zs.getD j 0))):Go.Sort.Holds (Value.int .i64) w blk 0 zs.toArray:=by
 intro j hj
 have hj':j<zs.length:=by simpa using hj
 refine ⟨?_,by simp [World.frozen?,hv]⟩
 have:=hcell j hj'
 simp only [World.cell?,hv,Nat.zero_add]
 simp only [Option.isSome_none,Bool.false_eq_true,if_false]
 rw [this,lget_lt zs 0 hj']
 simp [hj']
theorem put_rel {X:Cx} {w:World} {F:Nat→Prop} {loc:Nat→Nat × Nat} {t:List AV} {a:Act} {H:AH} {q n:Nat} {os:Array Obj} {zs ts:List Int} {vs:Array Value} (R:RelF X F loc ⟨t,H⟩ a w) (hq:H[q]?=some (some ⟨3,1,(zs.map I).map .f⟩)) (hr:q<H.length)
  (hv:w.heap[(loc q).1]?=some (.cells vs 3 (0,0))) (hvs:vs.size=(loc q).2) (htl:ts.length≤vs.size) :
  RelF X F loc ⟨t,H.set q (some ⟨3,1,(ts.map I).map .f⟩)⟩ a (Go.Sort.grow (Go.Sort.putRow (Value.int .i64) (Go.Sort.ahead w n) (loc q).1 0 ts.toArray) os):=by
 have hqn:=R.new q _ hq
 have hqF:=R.nF q _ hq
 have hblk:(loc q).1<w.heap.size:=(Array.getElem?_eq_some_iff.1 hv).1
 have hheap:(Go.Sort.grow (Go.Sort.putRow (Value.int .i64) (Go.Sort.ahead w n) (loc q).1 0 ts.toArray) os).heap[(loc q).1]?=some (.cells (Go.Sort.putCells (Value.int .i64) 0 ts.toArray vs) 3 (0,0)):=by
  rw [Go.Sort.heap_grow_old _ _ (by simpa [Go.Sort.putRow,Go.Sort.mapBlock,Go.Sort.ahead] using hblk)]
  simp [Go.Sort.putRow,Go.Sort.mapBlock,Go.Sort.ahead,Array.getElem?_modify,hv,Go.Sort.onCells]
 have hby:Beyond (fun b=>b=(loc q).1) w (Go.Sort.grow (Go.Sort.putRow (Value.int .i64) (Go.Sort.ahead w n) (loc q).1 0 ts.toArray) os):=⟨rfl,rfl,rfl,by simp [Go.Sort.grow,Go.Sort.putRow,Go.Sort.mapBlock,Go.Sort.ahead],fun k hk hne=>by
  have hne':¬(loc q).1=k:=fun e=>hne e.symm
  rw [Go.Sort.heap_grow_old _ _ (by simpa [Go.Sort.putRow,Go.Sort.mapBlock,Go.Sort.ahead] using hk)]
  simp [Go.Sort.putRow,Go.Sort.mapBlock,Go.Sort.ahead,Array.getElem?_modify,hne']⟩
 have hdead:∀(r:Nat) o,(H.set q none)[r]?=some (some o)→r≠q∧H[r]?=some (some o):=fun r o h=>by
  by_cases e:r=q
  ·subst e;rw [List.getElem?_set_self hr] at h;cases h
  ·rw [List.getElem?_set_ne (Ne.symm e)] at h;exact ⟨e,h⟩
 have R1:RelF X F loc ⟨t,H.set q none⟩ a w:=R.drop (by simp) fun r o h=>(hdead r o h).2
 have R2:=R1.stepO (F':=F) (O:=fun b=>b=(loc q).1) (fun b hb=>by rw [hb];exact hqn.symm) (fun b hf hb=>hqF (hb▸hf)) (fun r o h e=>(hdead r o h).1 (R.inj r q _ _ (hdead r o h).2 hq e)) hby (fun _ h=>h) (fun b hb=>Nat.lt_of_lt_of_le (R.hF b hb) hby.size) (fun b h=>.inl h)
 refine R2.revive hr hqn hqF (fun r o h e=>(hdead r o h).1 (R.inj r q _ _ (hdead r o h).2 hq e)) ⟨fun e he=>?_,_,hheap,by simp [Go.Sort.putCells];rw [hvs],fun j c hj=>?_⟩
 ·obtain ⟨x,hx,rfl⟩:=List.mem_map.1 he
  obtain ⟨z,_,rfl⟩:=List.mem_map.1 hx
  exact ⟨rfl,rfl⟩
 ·replace hj:(flat ((ts.map I).map AV.f))[j]?=some c:=hj
  rw [flat_f,flatF_I,List.getElem?_map,List.getElem?_map] at hj
  cases hz:ts[j]? with
  | none=>rw [hz] at hj;cases hj
  | some z =>
   rw [hz] at hj
   cases hj
   obtain ⟨hjl,hjz⟩:=List.getElem?_eq_some_iff.1 hz
   refine ⟨.int .i64 z,?_,.f _ _ (.v _)⟩
   have hjv:j<vs.size:=by omega
   simp [Go.Sort.putCells,hjl,hjv,hjz]
theorem sort_u {H:AH} {q:Nat} {zs:List Int} (hq:H[q]?=some (some ⟨3,1,(zs.map I).map .f⟩)) (hz:zs.length<4611686018427387904) :
  CallU Tryd.prog 72 [.own q 1 0 zs.length] H (fun u G=>u=.f (.v (.tuple #[]))∧G=H.set q (some ⟨3,1,((zs.mergeSort fun x y=>decide (x≤y)).map I).map .f⟩)):=by
 refine ⟨by kernel_rfl,fun X w F loc t a ys R hys=>?_⟩
 obtain ⟨cap,vs,rfl,hk,hm,hl2,hr,hv,hvs,hcell⟩:=own_cellsI R hq hys
 have hblk:(loc q).1<w.heap.size:=(Array.getElem?_eq_some_iff.1 hv).1
 refine (Any.slices_Sort_int sortLays (loc q).1 0 cap zs w (holds_own hv hcell) hblk hz).mono ?_
 rintro e w' ⟨rfl,n,os,rfl⟩
 exact ⟨_,F,loc,_,_,⟨rfl,rfl⟩,rfl,put_rel R hq hr hv (by omega) (by rw [List.length_mergeSort];omega),.f _ _ (.v _)⟩
end Go.Proofs.YtgjnbcfencallaaDoor
