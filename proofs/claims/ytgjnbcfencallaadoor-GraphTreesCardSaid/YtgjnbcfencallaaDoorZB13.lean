/- Links walked from one clique on: all that have a node are come to. Plain Lean. Conditions: none. -/
import Derived.Test.YtgjnbcfencallaaDoorZB12
import Derived.Test.YtgjnbcfencallaaDoorZB11
import Derived.Test.YtgjnbcfencallaaDoorZB09
set_option linter.unusedVariables false
set_option linter.unusedSimpArgs false
namespace Go.Proofs.YtgjnbcfencallaaDoor
open Go Go.RowKit
def lkS (W:List Nat) (c:Nat) (l:List Nat) (p:Nat × Nat):List Nat :=
 if p.2=c then (if p.1∈W∧p.1∉l then l++[p.1] else l) else if p.1=c∧p.2∈W∧p.2∉l then l++[p.2] else l
def inL (W:List Nat) (c:Nat) (lks:List (Nat × Nat)) (l:List Nat) (m:Nat):List Nat:=(lks.take m).foldl (lkS W c) l
def oL (W:List Nat) (lks:List (Nat × Nat)):Nat→List Nat
 | 0=>[W.getD 0 0]
 | i+1=>inL W ((oL W lks i).getD i 0) lks (oL W lks i) lks.length
structure Mr (W l l' : List Nat) : Prop where
  pre : ∃ t, l' = l ++ t
  nd : l.Nodup → l'.Nodup
  sub : (∀ x ∈ l, x ∈ W) → ∀ x ∈ l', x ∈ W
section
variable {W l l' l'' : List Nat} {c i m : Nat} {p : Nat × Nat} {lks : List (Nat × Nat)}
theorem Mr.refl:Mr W l l:=⟨⟨[],by simp⟩,id,id⟩
theorem Mr.trans (h:Mr W l l') (h':Mr W l' l''):Mr W l l'':=⟨by
 obtain ⟨t,rfl⟩:=h.pre
 obtain ⟨u,rfl⟩:=h'.pre
 exact ⟨t++u,by rw [List.append_assoc]⟩,fun hh=>h'.nd (h.nd hh),fun hh=>h'.sub (h.sub hh)⟩
theorem Mr.snoc {x:Nat} (h1:x∈W) (h2:x∉l):Mr W l (l++[x]):=⟨⟨_,rfl⟩,fun hn=>List.nodup_append.2 ⟨hn,by simp,fun a ha b hb e=>by rw [List.mem_singleton.1 hb] at e;exact h2 (e▸ha)⟩,fun hs y hy=>by
 rcases List.mem_append.1 hy with hy|hy
 ·exact hs y hy
 ·rw [List.mem_singleton.1 hy];exact h1⟩
theorem Mr.get (h:Mr W l l') (hi:i<l.length):l'.getD i 0=l.getD i 0:=by
 obtain ⟨t,rfl⟩:=h.pre
 rw [List.getD_eq_getElem?_getD,List.getElem?_append_left hi,←List.getD_eq_getElem?_getD]
theorem Mr.mem (h:Mr W l l') {x:Nat} (hx:x∈l):x∈l':=by
 obtain ⟨t,rfl⟩:=h.pre;exact List.mem_append_left _ hx
theorem Mr.len (h:Mr W l l'):l.length≤l'.length:=by
 obtain ⟨t,rfl⟩:=h.pre;simp
theorem lkS_mr:Mr W l (lkS W c l p):=by
 unfold lkS
 split
 ·split
  ·rename_i h;exact .snoc h.1 h.2
  ·exact .refl
 ·split
  ·rename_i h;exact .snoc h.2.1 h.2.2
  ·exact .refl
theorem lkS_in (h:(p.1=c∧p.2∈W)∨(p.2=c∧p.1∈W)) (hc:c∈l):p.1∈lkS W c l p∧p.2∈lkS W c l p:=by
 have hs:∀x∈l,x∈lkS W c l p:=fun x hx=>lkS_mr.mem hx
 by_cases e:p.2=c
 ·refine ⟨?_,hs _ (e▸hc)⟩
  by_cases e1:p.1∈l
  ·exact hs _ e1
  ·have hw:p.1∈W:=h.elim (fun h=>by rw [h.1,←e];exact h.2) fun h=>h.2
   unfold lkS
   rw [if_pos e,if_pos ⟨hw,e1⟩];simp
 ·obtain ⟨h1,h2⟩:=h.resolve_right fun h=>e h.1
  refine ⟨hs _ (h1▸hc),?_⟩
  by_cases e1:p.2∈l
  ·exact hs _ e1
  ·unfold lkS
   rw [if_neg e,if_pos ⟨h1,h2,e1⟩];simp
theorem inL_next (h:m<lks.length):inL W c lks l (m+1)=lkS W c (inL W c lks l m) lks[m]:=by
 unfold inL
 rw [List.take_add_one,List.getElem?_eq_getElem h,List.foldl_append];rfl
theorem inL_mr:∀m,m≤lks.length→Mr W l (inL W c lks l m):=by
 intro m
 induction m with
 | zero=>intro _;exact .refl
 | succ m ih=>intro hm;rw [inL_next (by omega)];exact (ih (by omega)).trans lkS_mr
theorem inL_in (hc:c∈l):∀m,m≤lks.length→∀j (hj:j<m) (hl:j<lks.length),((lks[j].1=c∧lks[j].2∈W)∨(lks[j].2=c∧lks[j].1∈W))→lks[j].1∈inL W c lks l m∧lks[j].2∈inL W c lks l m:=by
 intro m
 induction m with
 | zero=>intro _ j hj;omega
 | succ m ih =>
  intro hm j hj hl h
  rw [inL_next (by omega)]
  by_cases e:j=m
  ·subst e;exact lkS_in h ((inL_mr j (by omega)).mem hc)
  ·obtain ⟨h1,h2⟩:=ih (by omega) j (by omega) hl h
   exact ⟨lkS_mr.mem h1,lkS_mr.mem h2⟩
structure BOk (W : List Nat) (lks : List (Nat × Nat)) (i : Nat) : Prop where
  nd : (oL W lks i).Nodup
  sub : ∀ x ∈ oL W lks i, x ∈ W
  at0 : W.getD 0 0 ∈ oL W lks i
  le : i ≤ (oL W lks i).length
  cl : ∀ j, j < i → ∀ p ∈ lks, ((p.1 = (oL W lks i).getD j 0 ∧ p.2 ∈ W) ∨ (p.2 = (oL W lks i).getD j 0 ∧ p.1 ∈ W)) → p.1 ∈ oL W lks i ∧ p.2 ∈ oL W lks i
theorem BOk.zero (h:W≠[]):BOk W lks 0:=⟨by show [W.getD 0 0].Nodup;simp,fun x hx=>by
 rw [List.mem_singleton.1 hx,lget_lt W 0 (List.length_pos_iff.2 h)];exact List.getElem_mem _,List.mem_singleton.2 rfl,Nat.zero_le _,fun j hj=>by omega⟩
theorem BOk.next (h:BOk W lks i) (hi:i<(oL W lks i).length):BOk W lks (i+1):=by
 have hm:Mr W (oL W lks i) (oL W lks (i+1)):=inL_mr lks.length (Nat.le_refl _)
 have hc:(oL W lks i).getD i 0∈oL W lks i:=by rw [lget_lt _ 0 hi];exact List.getElem_mem _
 refine ⟨hm.nd h.nd,hm.sub h.sub,hm.mem h.at0,Nat.lt_of_lt_of_le hi hm.len,fun j hj p hp hh=>?_⟩
 have hjl:j<(oL W lks i).length:=by omega
 rw [hm.get hjl] at hh
 by_cases e:j=i
 ·subst e
  obtain ⟨q,hq,rfl⟩:=List.getElem_of_mem hp
  exact inL_in hc _ (Nat.le_refl _) q hq hq hh
 ·obtain ⟨h1,h2⟩:=h.cl j (by omega) p hp hh
  exact ⟨hm.mem h1,hm.mem h2⟩
theorem BOk.len_le (h:BOk W lks i):(oL W lks i).length≤W.length:=List.Nodup.length_le_of_subset h.nd h.sub
theorem BOk.end (h:BOk W lks i) (hi:(oL W lks i).length≤i) {K:List Nat} (hK:K.Nodup) (hW:W.Nodup) (hWK:∀x∈W,x<K.length) (hl:∀p∈lks,p.1<K.length∧p.2<K.length)
  (hcn:∀x∈W,∀y∈W,∃T,Cn (fE K lks) T (K.getD x 0) (K.getD y 0)∧∀z,z<K.length→Sb T (K.getD z 0)→z∈W):(oL W lks i).length=W.length:=by
 refine Nat.le_antisymm h.len_le (List.Nodup.length_le_of_subset hW fun y hy=>?_)
 obtain ⟨T,hc,hT⟩:=hcn _ (h.sub _ h.at0) y hy
 have key:∀{a b:Nat},Cn (fE K lks) T a b→(∃x∈oL W lks i,K.getD x 0=a)→∃x∈oL W lks i,K.getD x 0=b:=by
  intro a b hab
  induction hab with
  | refl _=>exact id
  | step hab he hs ih =>
   intro ha
   obtain ⟨x,hx,ex⟩:=ih ha
   have hxK:=hWK x (h.sub x hx)
   obtain ⟨j,hj,rfl⟩:=List.getElem_of_mem hx
   have hji:j<i:=by omega
   have hg:=lget_lt (oL W lks i) 0 hj
   rcases he with he|he
   ·obtain ⟨p,hp,e⟩:=List.mem_map.1 he
    obtain ⟨e1,e2⟩:=Prod.mk.inj e
    obtain ⟨p1,p2⟩:=hl p hp
    have ep:=getD_inj hK p1 hxK (e1.trans ex.symm)
    have hw:=hT p.2 p2 (by rw [e2];exact hs)
    exact ⟨p.2,(h.cl j hji p hp (.inl ⟨by rw [hg];exact ep,hw⟩)).2,e2⟩
   ·obtain ⟨p,hp,e⟩:=List.mem_map.1 he
    obtain ⟨e1,e2⟩:=Prod.mk.inj e
    obtain ⟨p1,p2⟩:=hl p hp
    have ep:=getD_inj hK p2 hxK (e2.trans ex.symm)
    have hw:=hT p.1 p1 (by rw [e1];exact hs)
    exact ⟨p.1,(h.cl j hji p hp (.inr ⟨by rw [hg];exact ep,hw⟩)).1,e1⟩
 obtain ⟨x,hx,ex⟩:=key hc ⟨_,h.at0,rfl⟩
 have:=getD_inj hK (hWK x (h.sub x hx)) (hWK y hy) ex
 exact this▸hx
end
def wP (K:List Nat) (v:Int) (k:Nat):Bool:=decide (v<0)||(K.getD k 0).testBit v.toNat
def wth (K:List Nat) (v:Int):List Nat:=flt (wP K v) K.length
theorem wth_mem {K:List Nat} {v:Int} {k:Nat}:k∈wth K v↔k<K.length∧wP K v k=true:=flt_mem
theorem wth_nodup {K:List Nat} {v:Int}:(wth K v).Nodup:=List.Pairwise.filter _ List.nodup_range
theorem con_end {K:List Nat} {lks:List (Nat × Nat)} {v:Int} {i:Nat} (hK:K.Nodup) (hR:Rip K (fE K lks)) (hl:∀p∈lks,p.1<K.length∧p.2<K.length) (h:BOk (wth K v) lks i) (hi:(oL (wth K v) lks i).length≤i):(oL (wth K v) lks i).length=(wth K v).length :=
 h.end hi hK wth_nodup (fun x hx=>(wth_mem.1 hx).1) hl fun x hx y hy=>by
  obtain ⟨x1,x2⟩:=wth_mem.1 hx
  obtain ⟨y1,y2⟩:=wth_mem.1 hy
  refine ⟨K.getD x 0&&&K.getD y 0,hR.cn _ (by rw [lget_lt K 0 x1];exact List.getElem_mem _) _ (by rw [lget_lt K 0 y1];exact List.getElem_mem _),fun z hz hs=>wth_mem.2 ⟨hz,?_⟩⟩
  unfold wP at x2 y2 ⊢
  by_cases hv:v<0
  ·rw [decide_eq_true hv];rfl
  ·rw [decide_eq_false hv,Bool.false_or] at x2 y2 ⊢
   exact hs _ (and_bit.2 ⟨x2,y2⟩)
end Go.Proofs.YtgjnbcfencallaaDoor
set_option linter.unusedVariables false
set_option linter.unusedSimpArgs false
namespace Go.Proofs.YtgjnbcfencallaaDoor
open Go Go.RowKit
end Go.Proofs.YtgjnbcfencallaaDoor
set_option linter.unusedVariables false
set_option linter.unusedSimpArgs false
namespace Go.Proofs.YtgjnbcfencallaaDoor
open Go Go.RowKit
def ofN (l:List Nat):List Int:=l.map Int.ofNat
def nbr (n:Nat) (q:Nat→Nat→Bool):List (List Int):=(List.range n).map fun v=>ofN (flt (q v) n)
def bagI (P:List Nat):List (List Int):=P.map fun s=>ofN (els s)
section
variable {l : List Nat} {n v u s : Nat} {q : Nat → Nat → Bool}
theorem ints_ofN:ints (ofN l)=.fz 1 (Ns l):=by unfold ofN Ns;simp [ints]
theorem ofN_len:(ofN l).length=l.length:=List.length_map ..
theorem ofN_get (h:u<l.length):(ofN l).getD u 0=((l[u]:Nat):Int):=by rw [lget_lt _ 0 (by rw [ofN_len];exact h)];simp [ofN]
theorem ris_ofN (hp:l.Pairwise (·< ·)) (hl:∀t∈l,t<n):risB n (ofN l)=true:=by
 rw [risB_iff]
 intro x hx
 rw [ofN_len] at hx
 rw [ofN_get hx]
 refine ⟨?_,by have:=hl _ (List.getElem_mem hx);omega⟩
 unfold prevI
 by_cases h0:x=0
 ·rw [if_pos h0];omega
 ·rw [if_neg h0,ofN_get (by omega)]
  have:=List.pairwise_iff_getElem.1 hp (x-1) x (by omega) hx (by omega)
  omega
theorem setI_ofN:setI (ofN l)=setN l:=by unfold setI setN ofN;rw [List.foldl_map];rfl
theorem flt_sorted {p:Nat→Bool}:(flt p n).Pairwise (·< ·):=List.Pairwise.filter _ List.pairwise_lt_range
theorem nbr_len:(nbr n q).length=n:=by simp [nbr]
theorem nbr_get (h:v<n):(nbr n q).getD v []=ofN (flt (q v) n):=by rw [lget_lt _ [] (by rw [nbr_len];exact h)];simp [nbr]
theorem nbr_ris (h:v<n):risB n ((nbr n q).getD v [])=true:=by rw [nbr_get h];exact ris_ofN flt_sorted fun t ht=>(flt_mem.1 ht).1
theorem nbr_read (h:v<n):readS n ((nbr n q).getD v [])=setN (flt (q v) n):=by unfold readS;rw [if_pos (nbr_ris h),nbr_get h,setI_ofN]
theorem nbr_bit (h:v<n):(readS n ((nbr n q).getD v [])).testBit u=decide (u<n∧q v u=true):=by
 rw [nbr_read h,setN_bit];exact decide_eq_decide.2 flt_mem
theorem nbr_lists (h1:1≤n) (h8:n≤8) (hi:∀v,q v v=false):listsB (nbr n q)=true:=listsB_iff.2 ⟨by rw [nbr_len];exact ⟨h1,h8⟩,fun v hv=>by
 rw [nbr_len] at hv
 unfold nodeB
 rw [nbr_len,nbr_ris hv,nbr_bit hv,hi v,decide_eq_false (fun h=>by cases h.2)];rfl⟩
theorem nbr_sets (h:v<n):((setsOf (nbr n q)).getD v 0).testBit u=decide (u<n∧q v u=true):=by
 rw [setsOf_get (by rw [nbr_len];exact h),←lget_lt (nbr n q) [] (by rw [nbr_len];exact h),nbr_len,nbr_bit h]
theorem nbr_sym (h8:n≤8) (hs:∀v u,v<n→u<n→q v u=q u v):symB (nbr n q)=true:=by
 unfold symB
 rw [List.all_eq_true]
 intro v hv
 have hv:=List.mem_range.1 hv
 rw [nbr_len] at hv
 rw [List.all_eq_true]
 intro u hu
 have h1:=(els_mem.1 hu).2
 rw [nbr_sets hv] at h1
 obtain ⟨h2,h3⟩:=of_decide_eq_true h1
 rw [nbr_sets h2]
 exact decide_eq_true ⟨hv,by rw [hs u v h2 hv];exact h3⟩
theorem nbr_ok (h8:n≤8):OkIss (nbr n q):=⟨by rw [nbr_len];omega,fun l hl=>by
 obtain ⟨v,hv,rfl⟩:=List.mem_map.1 hl
 refine ⟨by rw [ofN_len];have:=flt_len (p:=q v) (n:=n);omega,fun x hx=>?_⟩
 obtain ⟨u,hu,rfl⟩:=List.mem_map.1 hx
 have:=(flt_mem.1 hu).1
 constructor<;>show _≤_<;>simp only [Int.ofNat_eq_natCast]<;>omega⟩
theorem bagI_ok {P:List Nat} (h:P.length≤8):OkIss (bagI P):=⟨by unfold bagI;rw [List.length_map];omega,fun l hl=>by
 obtain ⟨v,hv,rfl⟩:=List.mem_map.1 hl
 refine ⟨by rw [ofN_len];exact Nat.le_trans els_len (by decide),fun x hx=>?_⟩
 obtain ⟨u,hu,rfl⟩:=List.mem_map.1 hx
 have:=(els_mem.1 hu).1
 constructor<;>show _≤_<;>simp only [Int.ofNat_eq_natCast]<;>omega⟩
theorem bagI_ints {P:List Nat}:gvs P=(bagI P).map ints:=by
 unfold gvs bagI
 rw [List.map_map]
 exact List.map_congr_left fun s _=>ints_ofN.symm
theorem bagI_bags {P:List Nat} (h1:1≤P.length) (h8:P.length≤8) (hP:∀s∈P,s<256∧s≠0):bagsB (bagI P)=true:=bagsB_iff.2 ⟨by unfold bagI;rw [List.length_map];exact ⟨h1,h8⟩,fun l hl=>by
 obtain ⟨s,hs,rfl⟩:=List.mem_map.1 hl
 unfold bagN
 rw [ris_ofN els_sorted fun t ht=>(els_mem.1 ht).1,decide_eq_false fun e=>?_];rfl
 refine (hP s hs).2 (ext_bits (hP s hs).1 (by decide) fun v hv=>?_)
 rw [Nat.zero_testBit]
 cases hb:s.testBit v with
 | false=>rfl
 | true =>
  have hm:v∈els s:=els_mem.2 ⟨hv,hb⟩
  have e2:=congrArg List.length e
  rw [ofN_len,List.length_nil] at e2
  rw [List.length_eq_zero_iff.1 e2] at hm
  cases hm⟩
theorem bagI_sets {P:List Nat} (hP:∀s∈P,s<256∧s≠0):bagS (bagI P)=P:=by
 unfold bagS bagI
 rw [List.map_map]
 refine (List.map_congr_left fun s hs=>?_).trans (List.map_id P)
 show setI (ofN (els s))=s
 rw [setI_ofN,setN_els (hP s hs).1]
end
structure JtOk (n : Nat) (q : Nat → Nat → Bool) (K : List Nat) (lks : List (Nat × Nat)) : Prop where
  pos : 1 ≤ K.length
  le : K.length ≤ 8
  nd : K.Nodup
  lt : ∀ v, K.getD v 0 < 256
  rip : Rip K (fE K lks)
  ll : lks.length + 1 = K.length
  ends : ∀ p ∈ lks, p.1 < K.length ∧ p.2 < K.length
  one : ∀ v, v < n → ∃ k, k < K.length ∧ (K.getD k 0).testBit v = true
  two : ∀ v u, v < n → u < n → q v u = true → ∃ k, k < K.length ∧ (K.getD k 0).testBit v = true ∧ (K.getD k 0).testBit u = true
theorem jt_main {n:Nat} {q:Nat→Nat→Bool} (h1:1≤n) (h8:n≤8) (hs:∀v u,v<n→u<n→q v u=q u v) (hi:∀v,q v v=false) :
  filE (nbr n q)=0∧(filB (nbr n q)).length≤8∧trE (bagI (filB (nbr n q)))=0∧∃K lks,trK (bagI (filB (nbr n q)))=K∧trL (bagI (filB (nbr n q)))=lks.map (lnkF K)∧JtOk n q K lks:=by
 have hb:=nbr_lists h1 h8 hi
 have hsy:=nbr_sym h8 hs
 have hG:=symB_ok hb hsy
 rw [nbr_len] at hG
 obtain ⟨P,hP⟩:∃P,P=setsOf (nbr n q):=⟨_,rfl⟩
 have hPb:∀v u,v<n→(P.getD v 0).testBit u=decide (u<n∧q v u=true):=fun v u hv=>by rw [hP];exact nbr_sets hv
 have hB:filB (nbr n q)=(List.range n).map (fBag P (lft n)):=by unfold filB;rw [if_pos ⟨hb,hsy⟩,nbr_len,hP]
 rw [←hP] at hG
 have hF:=FOk.all (left0:=lft n) hG (fun u=>lft_bit h8) (lft_lt h8)
 have hE:=fill_elim hF
 have hBl:(filB (nbr n q)).length=n:=by rw [hB];simp
 have hBg:∀i,i<n→(filB (nbr n q)).getD i 0=fBag P (lft n) i:=fun i hi=>by rw [lget_lt _ 0 (by rw [hBl];exact hi)];simp [hB]
 have hB0:∀s∈filB (nbr n q),s<256∧s≠0:=fun s hs=>by
  rw [hB] at hs
  obtain ⟨k,hk,rfl⟩:=List.mem_map.1 hs
  have hk:=List.mem_range.1 hk
  have ho:=hE.own k hk
  refine ⟨lt256 fun v hv=>?_,fun e=>by rw [e,Nat.zero_testBit] at ho;cases ho⟩
  rcases bag_bit.1 hv with h|h
  ·unfold updS at h
   exact bits_lt8 (hF k (by omega)).lt (and_bit.1 h).2
  ·rw [h]
   have:=((fl_left hF (by omega)).1 (fl_here hF hk)).1
   omega
 obtain ⟨S,hS⟩:∃S,S=filB (nbr n q):=⟨_,rfl⟩
 rw [←hS] at hBl hBg hB0 ⊢
 have hbags:=bagI_bags (P:=S) (by omega) (by omega) hB0
 have hsets:=bagI_sets hB0
 have hMl:(bagI S).length=n:=by unfold bagI;rw [List.length_map,hBl]
 have hK:trK (bagI S)=kpT S n:=by unfold trK;rw [if_pos hbags,hsets,hMl]
 obtain ⟨⟨E0,hR0⟩,hall⟩:=kpT_rip hE h1 hBl hBg
 have hKd:=kpT_nodup hE hBg
 have hKl:(kpT S n).length≤8:=Nat.le_trans kpT_len h8
 have hKp:1≤(kpT S n).length:=by
  obtain ⟨M,hM,_⟩:=hall 0 (by omega)
  exact List.length_pos_of_mem hM
 have hlt8:∀v,S.getD v 0<256:=fun v=>by
  by_cases hv:v<S.length
  ·rw [lget_lt S 0 hv];exact (hB0 _ (List.getElem_mem hv)).1
  ·rw [List.getD_eq_getElem?_getD,List.getElem?_eq_none (by omega)];exact (by decide:0<256)
 have hKlt:∀v,(kpT S n).getD v 0<256:=kpT_lt hlt8
 obtain ⟨hR,hends⟩:=prim_end hKd hKl hKp hKlt hR0
 have hin:∀M∈kpT S n,∃k,k<(kpT S n).length∧(kpT S n).getD k 0=M:=fun M hM=>by
  obtain ⟨k,hk,e⟩:=List.getElem_of_mem hM
  exact ⟨k,hk,by rw [lget_lt _ 0 hk];exact e⟩
 have hll:(trS (kpT S n) ((kpT S n).length-1)).1.length+1=(kpT S n).length:=by
  have:=lnkT_len (K:=kpT S n) (j:=(kpT S n).length-1)
  unfold lnkT at this
  rw [List.length_map] at this
  omega
 refine ⟨by unfold filE;rw [if_pos ⟨hb,hsy⟩],by omega,by unfold trE;rw [if_pos hbags],kpT S n,(trS (kpT S n) ((kpT S n).length-1)).1,hK,by unfold trL;rw [if_pos hbags,hK];rfl,⟨hKp,hKl,hKd,hKlt,hR,hll,hends,fun v hv=>?_,fun v u hv hu hq=>?_⟩⟩
 ·obtain ⟨k,hk,e⟩:=fl_all hF hv
  obtain ⟨M,hM,hsb⟩:=hall k hk
  obtain ⟨i,hi',e2⟩:=hin M hM
  exact ⟨i,hi',by rw [e2];exact hsb v (by rw [←e];exact hE.own k hk)⟩
 ·obtain ⟨k,hk,e1,e2⟩:=fill_edge hF (a:=v) (b:=u) (by rw [hPb v u hv];exact decide_eq_true ⟨hu,hq⟩)
  obtain ⟨M,hM,hsb⟩:=hall k hk
  obtain ⟨i,hi',e3⟩:=hin M hM
  exact ⟨i,hi',by rw [e3];exact ⟨hsb v e1,hsb u e2⟩⟩
end Go.Proofs.YtgjnbcfencallaaDoor
set_option linter.unusedVariables false
set_option linter.unusedSimpArgs false
namespace Go.Proofs.YtgjnbcfencallaaDoor
open Go Go.RowKit
theorem mem_els8 {s u:Nat} (h:u<8):decide (u∈els s)=s.testBit u:=by
 cases hb:s.testBit u with
 | true=>exact decide_eq_true (els_mem.2 ⟨h,hb⟩)
 | false=>exact decide_eq_false fun hm=>by rw [(els_mem.1 hm).2] at hb;cases hb
theorem Ns_ne {l:List Nat} (h:0<l.length):Ns l≠[]:=fun e=>by
 have:=congrArg List.length e
 rw [Ns_len] at this
 have h0:([]:List FV).length=0:=rfl
 omega
set_option maxRecDepth 100000 in
set_option maxHeartbeats 8000000 in
theorem connected_w {Kq:List Nat} {lks:List (Nat × Nat)} {v:Int} (hKd:Kq.Nodup) (h8:Kq.length≤8) (hlt:∀v,Kq.getD v 0<256) (hR:Rip Kq (fE Kq lks)) (hl:∀p∈lks,p.1<Kq.length∧p.2<Kq.length) (hll:lks.length≤8)
  (hv1:-1≤v) (hv2:v<8) (hne:wth Kq v≠[]):Good Tryd.prog 27 [.fz 1 (gvs Kq),.fz 3 (lks.map (lnkF Kq)),I v] (Bo true):=by
 have hgl:(gvs Kq).length=Kq.length:=gvs_len
 refine good_of Tryd.func27 rfl (by kernel_rfl) fun X hO hrd=>?_;rw [Tryd.ntmps27,Tryd.results27];simp only [ast0,List.map_cons,List.map_nil,List.length_cons,List.length_nil,Nat.reduceAdd,Nat.reduceSub,List.replicate_succ,List.replicate_zero,List.cons_append,List.nil_append]
 (repeat (with_reducible first|refine W_seq fun K hK=>?_|((fail_if_success refine J_region (id:=1) ?_);refine J_region ?_) |(refine Kont.go (by assumption) ?_)|(simp (config:={ maxSteps:=3000000 }) (disch:=omega) only [go_sem])))
 refine J_reserve ?_
 have h0:AV.f nilV=sl 0 1 (Ns (flt (wP Kq v) 0)):=rfl
 (repeat (with_reducible first|refine W_seq fun K hK=>?_|refine J_block ?_|refine J_region ?_ |(refine Kont.go (by assumption) ?_)|(simp (config:={ maxSteps:=3000000 }) (disch:=omega) only [go_sem])))
 refine W_loop [7,8,14,15,16,17,18,19,20,21,22,23,24,25,26,27,28,29,30,31,32,33] (fun x:Nat=>[(7,sl 0 1 (Ns (flt (wP Kq v) x))),(8,.f (I x))]) (fun x:Nat=>[ob 3 1 (Ns (flt (wP Kq v) x))]) (fun x:Nat=>x≤Kq.length) (fun x:Nat=>Kq.length-x) (0) (Nat.zero_le _) (by refine weak_of ?_ ?_<;>simp (disch:=omega) only [go_sem]<;>first|rfl|exact ⟨rfl,rfl⟩|exact Or.inl rfl|exact ⟨Or.inl rfl,Or.inl rfl⟩|trivial|assumption|omega|(symm;assumption)|((repeat' apply And.intro)<;>first|rfl|omega|trivial|exact .inl rfl|exact .inr ⟨rfl,rfl⟩|exact .inr rfl|(right;symm;assumption)|(symm;assumption)|assumption)) ?_
 rintro k hk
 have hfl:(flt (wP Kq v) k).length≤k:=flt_len
 simp only [go_sem]
 (repeat (with_reducible first|refine W_seq fun K hK=>?_|refine J_region ?_ |refine J_c ?_|(refine Kont.go (by assumption) ?_)|(simp (config:={ maxSteps:=3000000 }) (disch:=omega) only [go_sem,hgl])))
 refine Jc_if (fun hkk=>?_) (fun hkk=>?_)<;>try simp only [decide_eq_true_eq,decide_eq_false_iff_not] at hkk
 ·have gk:=gvs_get (P:=Kq) hkk
  have hal:((Ns (flt (wP Kq v) k)).length+1)*8≤140737488355328:=by rw [Ns_len];omega
  have hins:wP Kq v k=true→Ns (flt (wP Kq v) k)++[I (k:Int)]=Ns (flt (wP Kq v) (k+1)):=fun h=>by rw [flt_t h];exact Ns_snoc
  by_cases hv0:v<0
  ·have hs:=hins (by unfold wP;rw [decide_eq_true hv0];rfl)
   (repeat (with_reducible first|refine W_seq fun K hK=>?_|refine J_block ?_|refine J_skip ?_|refine J_region ?_ |refine aApp_sl ?_|refine J_c ?_|refine Jc_true ?_|(refine Kont.go (by assumption) ?_)|(simp (config:={ maxSteps:=3000000 }) (disch:=omega) only [go_sem,Nat.reduceEqDiff,↓reduceIte,Nat.reduceLeDiff,hv0,hal,hs,Nat.reduceMul,Nat.le_refl,true_and,and_self])))
   refine ⟨k+1,by omega,by omega,weak_of ?_ ?_⟩<;>(try simp (disch:=omega) only [go_sem])<;>(try first|done|omega|rfl|exact ⟨rfl,rfl⟩|trivial)
  ·obtain ⟨u,hu⟩:∃u:Nat,v=(u:Int):=⟨v.toNat,by omega⟩
   have hwp:wP Kq v k=(Kq.getD k 0).testBit u:=by unfold wP;rw [decide_eq_false hv0,Bool.false_or,hu];rfl
   have hin:=rinN_w u (els (Kq.getD k 0)) (by omega) (Nat.le_trans els_len (by decide))
   rw [mem_els8 (by omega),←hu] at hin
   (repeat (with_reducible first|refine W_seq fun K hK=>?_|refine J_block ?_|refine J_skip ?_|refine J_region ?_ |(refine Kont.go (by assumption) ?_)|(simp (config:={ maxSteps:=3000000 }) (disch:=omega) only [go_sem,↓reduceIte,hv0,gk,true_and])))
   (first|refine call_f (hin) rfl ?_|refine callQ_f (hin) rfl ?_|refine callHK_f (hin) rfl ?_|refine callH_f (hin) rfl ?_)
   cases ht:(Kq.getD k 0).testBit u with
   | true =>
    have hs:=hins (by rw [hwp,ht])
    (repeat (with_reducible first|refine J_region ?_ |refine aApp_sl ?_|refine J_c ?_|refine Jc_true ?_|(refine Kont.go (by assumption) ?_)|(simp (config:={ maxSteps:=3000000 }) (disch:=omega) only [go_sem,Nat.reduceEqDiff,↓reduceIte,Nat.reduceLeDiff,hal,hs,Nat.reduceMul,Nat.le_refl,true_and,and_self])))
    refine ⟨k+1,by omega,by omega,weak_of ?_ ?_⟩<;>(try simp (disch:=omega) only [go_sem])<;>(try first|done|omega|rfl|exact ⟨rfl,rfl⟩|trivial)
   | false =>
    have hs:=flt_f (p:=wP Kq v) (x:=k) (by rw [hwp,ht])
    (repeat (with_reducible first|refine J_skip ?_|refine J_region ?_ |refine J_c ?_|refine Jc_false ?_|(refine Kont.go (by assumption) ?_)|(simp (config:={ maxSteps:=3000000 }) (disch:=omega) only [go_sem])))
    refine ⟨k+1,by omega,by omega,weak_of ?_ ?_⟩<;>(try simp (disch:=omega) only [go_sem,hs])<;>(try first|done|omega|rfl|exact ⟨rfl,rfl⟩|trivial)
 ·have he:k=Kq.length:=by omega
  have hWe:flt (wP Kq v) k=wth Kq v:=by rw [he];rfl
  rw [hWe]
  have hend:=fun (i:Nat)=>con_end (v:=v) (i:=i) hKd hR hl
  have hWn:=@wth_nodup Kq v
  have hWK:∀x∈wth Kq v,x<Kq.length:=fun x hx=>(wth_mem.1 hx).1
  obtain ⟨W,hW⟩:∃W,W=wth Kq v:=⟨_,rfl⟩
  rw [←hW] at hne hend hWn hWK ⊢
  have hWl:(Ns W).length=W.length:=Ns_len
  have hWp:0<W.length:=List.length_pos_iff.2 hne
  have hW8:W.length≤8:=Nat.le_trans (nodup_lt hWn hWK) h8
  have hW0:¬((W.length:Nat):Int)=0:=by omega
  have gW:(Ns W)[0]?=some (I ((W.getD 0 0:Nat):Int)):=by unfold Ns;rw [List.getElem?_map,List.getElem?_eq_getElem hWp,lget_lt W 0 hWp];rfl
  refine J_freeze (j:=7) rfl rfl ?_
  (repeat (first|(with_reducible first|refine W_seq fun K hK=>?_|refine J_block ?_|refine J_skip ?_|refine J_exit ?_|refine J_region ?_ |refine J_c ?_|refine Jc_false ?_|(refine Kont.go (by assumption) ?_)|(simp (config:={ maxSteps:=3000000 }) (disch:=omega) only [go_sem,↓reduceIte,Int.reduceLE,hWl,hW0,gW]))|refine And.intro (by omega) ?_))
  have hS:sl 1 1 (Ns (oL W lks 0))=.own 1 1 0 1:=rfl
  have hOb:ob 3 1 (Ns (oL W lks 0))=some ⟨3,1,[.f (I ((W.getD 0 0:Nat):Int))]⟩:=rfl
  refine J_mask [40] (by refine weak_of ?_ ?_<;>simp (disch:=omega) only [go_sem,Nat.reduceAdd]<;>first|rfl|exact ⟨rfl,rfl⟩|exact Or.inl rfl|exact ⟨Or.inl rfl,Or.inl rfl⟩|trivial|assumption|omega|(symm;assumption)|((repeat' apply And.intro)<;>first|rfl|omega|trivial|exact .inr ⟨rfl,rfl⟩|exact .inr rfl|(right;symm;assumption)|(symm;assumption)|assumption)) ?_;simp only [go_sem]
  refine W_loop [9,10,11,12,13,41,42,43,44,45,46,47,48,49,50,51,52,53,54,55,56,57,58,59,60,61,62,63,64,65,66,67,68,69,70,71,72,73,74,75,76,77,78,79,80,81,82,83,84,85,86,87,88,89,90,91,92,93,94] (fun i:Nat=>[(9,sl 1 1 (Ns (oL W lks i))),(10,.f (I i))]) (fun i:Nat=>[none,ob 3 1 (Ns (oL W lks i))]) (fun i:Nat=>BOk W lks i) (fun i:Nat=>W.length-i) (0) (BOk.zero hne) (by refine weak_of ?_ ?_<;>simp (disch:=omega) only [go_sem,Nat.reduceAdd]<;>first|rfl|exact ⟨rfl,rfl⟩|exact Or.inl rfl|exact ⟨Or.inl rfl,Or.inl rfl⟩|trivial|assumption|omega|(symm;assumption)|((repeat' apply And.intro)<;>first|rfl|omega|trivial|exact .inl rfl|exact .inr ⟨rfl,rfl⟩|exact .inr rfl|(right;symm;assumption)|(symm;assumption)|assumption)) ?_
  rintro i hB
  have hBl:=hB.len_le
  have hBi:=hB.le
  have hlp:0<(oL W lks i).length:=List.length_pos_of_mem hB.at0
  have hneI:=Ns_ne hlp
  have hBsub:=hB.sub
  have hnx0:oL W lks (i+1)=inL W ((oL W lks i).getD i 0) lks (oL W lks i) lks.length:=rfl
  have hBn:=hB.next
  obtain ⟨l,hle⟩:∃l,l=oL W lks i:=⟨_,rfl⟩
  rw [←hle] at hBl hBi hlp hneI hBsub hnx0 hBn
  simp only [go_sem]
  rw [←hle]
  (repeat (with_reducible first|refine W_seq fun K hK=>?_|refine J_region ?_ |refine J_c ?_|(refine Kont.go (by assumption) ?_)|(simp (config:={ maxSteps:=3000000 }) (disch:=omega) only [go_sem,sl_pos hneI,ob_pos hneI,Ns_len])))
  refine Jc_if (fun hil=>?_) (fun hil=>?_)<;>try simp only [decide_eq_true_eq,decide_eq_false_iff_not] at hil
  ·obtain ⟨c,hc⟩:∃c,c=l.getD i 0:=⟨_,rfl⟩
   rw [←hc] at hnx0
   have hS2:sl 1 1 (Ns (inL W c lks l 0))=.own 1 1 0 l.length:=by show sl 1 1 (Ns l)=_;rw [sl_pos hneI,Ns_len]
   have hO2:ob 3 1 (Ns (inL W c lks l 0))=some ⟨3,1,(Ns l).map .f⟩:=ob_pos hneI
   (repeat (with_reducible first|refine W_seq fun K hK=>?_|refine J_block ?_|refine J_skip ?_|refine J_region ?_ |(refine Kont.go (by assumption) ?_)|(simp (config:={ maxSteps:=3000000 }) (disch:=omega) only [go_sem])))
   refine J_mask [42] (by refine weak_of ?_ ?_<;>simp (disch:=omega) only [go_sem,Nat.reduceAdd]<;>first|rfl|exact ⟨rfl,rfl⟩|exact Or.inl rfl|exact ⟨Or.inl rfl,Or.inl rfl⟩|trivial|assumption|omega|(symm;assumption)|((repeat' apply And.intro)<;>first|rfl|omega|trivial|exact .inr ⟨rfl,rfl⟩|exact .inr rfl|(right;symm;assumption)|(symm;assumption)|assumption)) ?_;simp only [go_sem]
   refine W_loop [9,11,12,13,47,48,49,50,51,52,53,54,55,56,57,58,59,60,61,62,63,64,65,66,67,68,69,70,71,72,73,74,75,76,77,78,79,80,81,82,83,84,85,86,87,88,89,90,91,92,93,94] (fun k:Nat=>[(9,sl 1 1 (Ns (inL W c lks l k))),(11,.f (I k))]) (fun k:Nat=>[none,ob 3 1 (Ns (inL W c lks l k))]) (fun k:Nat=>k≤lks.length) (fun k:Nat=>lks.length-k) (0) (Nat.zero_le _) (by refine weak_of ?_ ?_<;>simp (disch:=omega) only [go_sem,Nat.reduceAdd]<;>first|rfl|exact ⟨rfl,rfl⟩|exact Or.inl rfl|exact ⟨Or.inl rfl,Or.inl rfl⟩|trivial|assumption|omega|(symm;assumption)|((repeat' apply And.intro)<;>first|rfl|omega|trivial|exact .inl rfl|exact .inr ⟨rfl,rfl⟩|exact .inr rfl|(right;symm;assumption)|(symm;assumption)|assumption)) ?_
   rintro k hk2
   have hm:Mr W l (inL W c lks l k):=inL_mr k hk2
   have hgi:=hm.get hil
   rw [←hc] at hgi
   have hml:=hm.len
   have hms:=hm.sub hBsub
   have hmn:=hm.nd (hle▸hB.nd)
   have hnxt:∀h:k<lks.length,inL W c lks l (k+1)=lkS W c (inL W c lks l k) lks[k]:=fun h=>inL_next h
   obtain ⟨l',hl'⟩:∃l',l'=inL W c lks l k:=⟨_,rfl⟩
   rw [←hl'] at hgi hml hms hmn hnxt
   have hl8:l'.length≤8:=Nat.le_trans (List.Nodup.length_le_of_subset hmn hms) hW8
   have hne2:=Ns_ne (l:=l') (by omega)
   have gi:((Ns l').map AV.f)[i]?=some (.f (I (c:Int))):=by unfold Ns;rw [List.getElem?_map,List.getElem?_map,List.getElem?_eq_getElem (show i<l'.length by omega),←lget_lt l' 0 (by omega),hgi];rfl
   simp only [go_sem]
   rw [←hl']
   (repeat (with_reducible first|refine W_seq fun K hK=>?_|refine J_region ?_ |refine J_c ?_|(refine Kont.go (by assumption) ?_)|(simp (config:={ maxSteps:=3000000 }) (disch:=omega) only [go_sem,List.length_map])))
   refine Jc_if (fun hkm=>?_) (fun hkm=>?_)<;>try simp only [decide_eq_true_eq,decide_eq_false_iff_not] at hkm
   ·have gp:=map_get (lnkF Kq) lks hkm
    have hnx1:=hnxt hkm
    obtain ⟨p,hp⟩:∃p,p=lks[k]:=⟨_,rfl⟩
    have hpl:=hl p (by rw [hp];exact List.getElem_mem _)
    have g2:lnkF Kq p=.agg [I (p.1:Int),I (p.2:Int),.fz 1 (Ns (els (Kq.getD p.1 0&&&Kq.getD p.2 0)))]:=rfl
    rw [←hp,g2] at gp
    rw [←hp] at hnx1
    have same:lkS W c l' p=l'→sl 1 1 (Ns (inL W c lks l (k+1)))=.own 1 1 0 l'.length∧ob 3 1 (Ns (inL W c lks l (k+1)))=some ⟨3,1,(Ns l').map .f⟩:=fun e=>by
     rw [hnx1,e];exact ⟨by rw [sl_pos hne2,Ns_len],ob_pos hne2⟩
    have more:∀x:Nat,lkS W c l' p=l'++[x]→(∀r,sl r 1 (Ns (inL W c lks l (k+1)))=.own r 1 0 (l'.length+1))∧ob 3 1 (Ns (inL W c lks l (k+1)))=some ⟨3,1,(Ns (inL W c lks l (k+1))).map .f⟩∧((Ns l').map AV.f).take l'.length++[AV.f (I (x:Int))]=(Ns (inL W c lks l (k+1))).map AV.f:=fun x e=>by
     rw [hnx1,e]
     have h3:Ns (l'++[x])≠[]:=Ns_ne (by simp)
     refine ⟨fun r=>by rw [sl_pos h3,Ns_len];simp,ob_pos h3,?_⟩
     rw [List.take_of_length_le (by rw [List.length_map,Ns_len];omega),←Ns_snoc,List.map_append];rfl
    have hfz:Frz [none,some (⟨3,1,(Ns l').map .f⟩:AO)] (.own 1 1 0 l'.length) (.fz 1 (Ns l')):=Frz.own0 rfl (by rw [Ns_len])
    by_cases e:p.2=c
    ·have hi1:=rinN_w p.1 W (by omega) (by omega)
     have hi2:=rinN_w p.1 l' (by omega) (by omega)
     have e':(p.2:Int)=(c:Int):=by omega
     (repeat (first|(with_reducible first|refine W_seq fun K hK=>?_|refine J_block ?_|refine J_skip ?_|refine J_region ?_ |refine J_c ?_|refine Jc_true ?_|(refine Kont.go (by assumption) ?_)|(simp (config:={ maxSteps:=3000000 }) (disch:=omega) only [go_sem,↓reduceIte,gp,gi,sl_pos hne2,ob_pos hne2,Ns_len,e,true_and]))|refine And.intro (by omega) ?_))
     (first|refine call_f (hi1) rfl ?_|refine callQ_f (hi1) rfl ?_|refine callHK_f (hi1) rfl ?_|refine callH_f (hi1) rfl ?_)
     by_cases w:p.1∈W
     ·rw [decide_eq_true w]
      (repeat (with_reducible first|(simp (config:={ maxSteps:=3000000 }) (disch:=omega) only [go_sem])))
      refine call_fl hi2 (.v _) (FrzL.cons (.f _) (FrzL.cons hfz (FrzL.nil _))) ?_
      by_cases m:p.1∈l'
      ·obtain ⟨q1,q2⟩:=same (by unfold lkS;rw [if_pos e,if_neg fun h=>h.2 m])
       rw [decide_eq_true m]
       (repeat (with_reducible first|refine J_skip ?_|refine J_region ?_ |refine J_c ?_|refine Jc_false ?_|(refine Kont.go (by assumption) ?_)|(simp (config:={ maxSteps:=3000000 }) (disch:=omega) only [go_sem])))
       refine ⟨k+1,by omega,by omega,weak_of ?_ ?_⟩<;>(try simp (disch:=omega) only [go_sem,Nat.reduceAdd,q1,q2])<;>(try first|done|omega|rfl|exact ⟨rfl,rfl⟩|trivial)
      ·obtain ⟨q1,q2,q3⟩:=more p.1 (by unfold lkS;rw [if_pos e,if_pos ⟨w,m⟩])
       rw [decide_eq_false m]
       (repeat (first|(with_reducible first|refine J_region ?_ |refine aApp_old ?_|refine J_c ?_|refine Jc_true ?_|(refine Kont.go (by assumption) ?_)|(simp (config:={ maxSteps:=3000000 }) (disch:=omega) only [go_sem,↓reduceIte,Nat.reduceAdd,Nat.reduceLeDiff,Ns_len,q3,Nat.reduceMul,Nat.le_refl,true_and,and_self]))|refine And.intro (by omega) ?_))
       refine ⟨k+1,by omega,by omega,weak_ren [0,3] ⟨by decide,by first|decide|(simp;done)⟩ ?_ ?_⟩<;>(try simp (disch:=omega) only [go_sem,Nat.reduceAdd,q1,q2])<;>(try first|done|omega|rfl|exact ⟨rfl,rfl⟩|trivial)
     ·obtain ⟨q1,q2⟩:=same (by unfold lkS;rw [if_pos e,if_neg fun h=>w h.1])
      rw [decide_eq_false w]
      (repeat (with_reducible first|refine J_skip ?_|refine J_region ?_ |refine J_c ?_|refine Jc_false ?_|(refine Kont.go (by assumption) ?_)|(simp (config:={ maxSteps:=3000000 }) (disch:=omega) only [go_sem])))
      refine ⟨k+1,by omega,by omega,weak_of ?_ ?_⟩<;>(try simp (disch:=omega) only [go_sem,Nat.reduceAdd,q1,q2])<;>(try first|done|omega|rfl|exact ⟨rfl,rfl⟩|trivial)
    ·have e':¬(p.2:Int)=(c:Int):=by omega
     by_cases e1:p.1=c
     ·have hi1:=rinN_w p.2 W (by omega) (by omega)
      have hi2:=rinN_w p.2 l' (by omega) (by omega)
      (repeat (first|(with_reducible first|refine W_seq fun K hK=>?_|refine J_block ?_|refine J_skip ?_|refine J_region ?_ |refine J_c ?_|refine Jc_false ?_|(refine Kont.go (by assumption) ?_)|(simp (config:={ maxSteps:=3000000 }) (disch:=omega) only [go_sem,↓reduceIte,gp,gi,sl_pos hne2,ob_pos hne2,Ns_len,e',e1,true_and]))|refine And.intro (by omega) ?_))
      (first|refine call_f (hi1) rfl ?_|refine callQ_f (hi1) rfl ?_|refine callHK_f (hi1) rfl ?_|refine callH_f (hi1) rfl ?_)
      by_cases w:p.2∈W
      ·rw [decide_eq_true w]
       (repeat (with_reducible first|(simp (config:={ maxSteps:=3000000 }) (disch:=omega) only [go_sem])))
       refine call_fl hi2 (.v _) (FrzL.cons (.f _) (FrzL.cons hfz (FrzL.nil _))) ?_
       by_cases m:p.2∈l'
       ·obtain ⟨q1,q2⟩:=same (by unfold lkS;rw [if_neg e,if_neg fun h=>h.2.2 m])
        rw [decide_eq_true m]
        (repeat (with_reducible first|refine J_skip ?_|refine J_region ?_ |refine J_c ?_|refine Jc_false ?_|(refine Kont.go (by assumption) ?_)|(simp (config:={ maxSteps:=3000000 }) (disch:=omega) only [go_sem])))
        refine ⟨k+1,by omega,by omega,weak_of ?_ ?_⟩<;>(try simp (disch:=omega) only [go_sem,Nat.reduceAdd,q1,q2])<;>(try first|done|omega|rfl|exact ⟨rfl,rfl⟩|trivial)
       ·obtain ⟨q1,q2,q3⟩:=more p.2 (by unfold lkS;rw [if_neg e,if_pos ⟨e1,w,m⟩])
        rw [decide_eq_false m]
        (repeat (first|(with_reducible first|refine J_region ?_ |refine aApp_old ?_|refine J_c ?_|refine Jc_true ?_|(refine Kont.go (by assumption) ?_)|(simp (config:={ maxSteps:=3000000 }) (disch:=omega) only [go_sem,↓reduceIte,Nat.reduceAdd,Nat.reduceLeDiff,Ns_len,q3,Nat.reduceMul,Nat.le_refl,true_and,and_self]))|refine And.intro (by omega) ?_))
        refine ⟨k+1,by omega,by omega,weak_ren [0,3] ⟨by decide,by first|decide|(simp;done)⟩ ?_ ?_⟩<;>(try simp (disch:=omega) only [go_sem,Nat.reduceAdd,q1,q2])<;>(try first|done|omega|rfl|exact ⟨rfl,rfl⟩|trivial)
      ·obtain ⟨q1,q2⟩:=same (by unfold lkS;rw [if_neg e,if_neg fun h=>w h.2.1])
       rw [decide_eq_false w]
       (repeat (with_reducible first|refine J_skip ?_|refine J_region ?_ |refine J_c ?_|refine Jc_false ?_|(refine Kont.go (by assumption) ?_)|(simp (config:={ maxSteps:=3000000 }) (disch:=omega) only [go_sem])))
       refine ⟨k+1,by omega,by omega,weak_of ?_ ?_⟩<;>(try simp (disch:=omega) only [go_sem,Nat.reduceAdd,q1,q2])<;>(try first|done|omega|rfl|exact ⟨rfl,rfl⟩|trivial)
     ·have e1':¬(p.1:Int)=(c:Int):=by omega
      obtain ⟨q1,q2⟩:=same (by unfold lkS;rw [if_neg e,if_neg fun h=>e1 h.1])
      (repeat (first|(with_reducible first|refine W_seq fun K hK=>?_|refine J_block ?_|refine J_skip ?_|refine J_region ?_ |refine J_c ?_|refine Jc_false ?_|(refine Kont.go (by assumption) ?_)|(simp (config:={ maxSteps:=3000000 }) (disch:=omega) only [go_sem,↓reduceIte,gp,gi,sl_pos hne2,ob_pos hne2,Ns_len,e',e1',true_and]))|refine And.intro (by omega) ?_))
      refine ⟨k+1,by omega,by omega,weak_of ?_ ?_⟩<;>(try simp (disch:=omega) only [go_sem,Nat.reduceAdd,q1,q2])<;>(try first|done|omega|rfl|exact ⟨rfl,rfl⟩|trivial)
   ·have hkl:k=lks.length:=by omega
    have hLn:l'=oL W lks (i+1):=by rw [hl',hnx0,hkl]
    have hBx:=hBn hil
    have hxl:=hBx.len_le
    rw [hLn]
    (repeat (with_reducible first|refine J_exit ?_|refine J_region ?_ |(refine Kont.go (by assumption) ?_)|(simp (config:={ maxSteps:=3000000 }) (disch:=omega) only [go_sem,↓reduceIte])))
    refine ⟨i+1,hBx,by omega,weak_of ?_ ?_⟩<;>(try simp (disch:=omega) only [go_sem,Nat.reduceAdd])<;>(try first|done|omega|rfl|exact ⟨rfl,rfl⟩|trivial)
  ·have hfin:=hend i hB (by rw [←hle];omega)
   rw [←hle] at hfin
   (repeat (with_reducible first|refine W_seq fun K hK=>?_|refine J_exit ?_|refine J_ret ?_|refine J_region ?_ |exact Frz.f _|(refine Kont.go (by assumption) ?_)|(simp (config:={ maxSteps:=3000000 }) (disch:=omega) only [go_sem,↓reduceIte,hWl,hfin])))
end Go.Proofs.YtgjnbcfencallaaDoor
set_option linter.unusedVariables false
set_option linter.unusedSimpArgs false
namespace Go.Proofs.YtgjnbcfencallaaDoor
open Go Go.RowKit
def rwV (l:List FV):FV:=if l=[] then nilV else .fz 1 l
theorem Frz.rwV {H:AH} {l:List FV}:Frz H (.f (rwV l)) (.fz 1 l):=by
 unfold Go.Proofs.YtgjnbcfencallaaDoor.rwV
 split
 ·rename_i h;subst h;exact .nil _
 ·exact .f _
theorem fzr_sl_self {r sz:Nat} {l:List FV} (h:l≠[]):(sl r sz l).fzr r sz l=.f (.fz sz l):=by
 rw [sl_pos h,fzr_own,if_pos ⟨rfl,rfl,rfl,rfl⟩]
end Go.Proofs.YtgjnbcfencallaaDoor
