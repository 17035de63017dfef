/- Where the ball comes: plain. Conditions: none. -/
import Derived.Test.YtgjnbcfencallaaDoorZB12
import Derived.Test.YtgjnbcfencallaaDoorZB14
set_option linter.unusedVariables false
set_option linter.unusedSimpArgs false
namespace Go.Proofs.YtgjnbcfencallaaDoor
open Go Go.RowKit
def kdB (P:List Nat) (v i u w:Nat):Bool:=(decide (w<v)&&paO P u w)||(decide (w=v)&&decide (u∈(els (P.getD v 0)).take i))
def kdS (P:List Nat) (n v i u:Nat):Nat:=setB n (kdB P v i u)
def kdL (P:List Nat) (n v i:Nat):List Nat:=(List.range n).map (kdS P n v i)
section
variable {P : List Nat} {n v i u w : Nat}
theorem kdL_len:(kdL P n v i).length=n:=by simp [kdL]
theorem kdL_get (h:u<n):(kdL P n v i).getD u 0=kdS P n v i u:=by
 rw [lget_lt _ 0 (by rw [kdL_len];exact h)];simp [kdL]
theorem kdL_zero:kdL P n 0 0=List.replicate n 0:=by
 unfold kdL
 apply List.ext_getElem?
 intro j
 by_cases hj:j<n
 ·simp [hj]
  refine ext_bits' fun w=>?_
  unfold kdS
  rw [setB_bit,Nat.zero_testBit]
  simp [kdB]
 ·rw [List.getElem?_eq_none (by simp;omega),List.getElem?_eq_none (by simp;omega)]
theorem kdS_lt (hn:n≤8):kdS P n v i u<256:=setB_lt hn
theorem kdS_step (hv:v<n) (hu:(els (P.getD v 0))[i]?=some u):kdS P n v i u|||bit v=kdS P n v (i+1) u:=ext_bits' fun w=>by
 unfold kdS
 rw [Nat.testBit_or,bit_bit,setB_bit,setB_bit]
 have h2:decide (u∈(els (P.getD v 0)).take (i+1))=true:=decide_eq_true (by rw [List.take_add_one,hu];simp)
 unfold kdB
 rw [h2]
 by_cases e:v=w
 ·subst e;simp [hv]
 ·have e':¬w=v:=fun h=>e h.symm
  simp [e,e']
theorem kdS_other (hu:(els (P.getD v 0))[i]?=some u) (hw:w≠u):kdS P n v (i+1) w=kdS P n v i w:=ext_bits' fun x=>by
 unfold kdS
 rw [setB_bit,setB_bit]
 unfold kdB
 have:decide (w∈(els (P.getD v 0)).take (i+1))=decide (w∈(els (P.getD v 0)).take i):=by
  rw [List.take_add_one,hu];simp [hw]
 rw [this]
theorem kdL_step (hv:v<n) (hu:(els (P.getD v 0))[i]?=some u) (hun:u<n):(((kdL P n v i).map U).map AV.f).set u (.f (U (kdS P n v (i+1) u)))=((kdL P n v (i+1)).map U).map .f:=by
 rw [←List.map_set,←List.map_set]
 congr 2
 unfold kdL
 rw [range_set hun]
 refine List.map_congr_left fun k hk=>?_
 by_cases e:k=u
 ·rw [if_pos e,e]
 ·rw [if_neg e,kdS_other hu e]
theorem kdL_all (hg:GP n P):kdL P n v (els (P.getD v 0)).length=kdL P n (v+1) 0:=by
 unfold kdL
 refine List.map_congr_left fun u hu=>ext_bits' fun w=>?_
 unfold kdS
 rw [setB_bit,setB_bit]
 congr 1
 unfold kdB
 rw [List.take_length,List.take_zero,mem_els hg]
 by_cases e:w=v
 ·subst e;simp
 ·have:(w<v+1)=(w<v):=propext ⟨fun h=>by omega,fun h=>by omega⟩
  simp [e,this]
theorem kd_bit (hg:GP n P) (hu:u<n):((kdL P n n 0).getD u 0).testBit w=paO P u w:=by
 rw [kdL_get hu]
 unfold kdS
 rw [setB_bit]
 unfold kdB
 rw [List.take_zero]
 rw [Bool.eq_iff_iff]
 simp only [Bool.and_eq_true,Bool.or_eq_true,decide_eq_true_eq,List.not_mem_nil,and_false,or_false]
 exact ⟨fun h=>h.2.2,fun h=>⟨(hg.pa u w h).2,(hg.pa u w h).2,h⟩⟩
end
abbrev Nd:=Nat × Bool
structure Srch (P : List Nat) (n x z : Nat) (L T : List Nd) (got : Nat) : Prop where
  nd : L.Nodup
  ball : ∀ p, p ∈ L ∨ p ∈ T → p.1 < n ∧ Ball (paO P) (anO P n z) z.testBit x.testBit p.1 p.2
  start : ∀ v, x.testBit v = true → (v, true) ∈ L ∨ (v, true) ∈ T
  down : ∀ p, p ∈ L → z.testBit p.1 = false → ∀ k, paO P p.1 k = true → (k, false) ∈ L ∨ (k, false) ∈ T
  up : ∀ p, p ∈ L → (p.2 = true ∧ z.testBit p.1 = false) ∨ (p.2 = false ∧ anO P n z p.1 = true) → ∀ u, paO P u p.1 = true → (u, true) ∈ L ∨ (u, true) ∈ T
  got : ∀ v, got.testBit v = true ↔ z.testBit v = false ∧ ∃ d, (v, d) ∈ L
  tl : T.length ≤ 8 + 16 * L.length
def IsGot (P:List Nat) (n x z g:Nat):Prop:=∀v,g.testBit v=true↔z.testBit v=false∧∃d,Ball (paO P) (anO P n z) z.testBit x.testBit v d
section
variable {P : List Nat} {n x z got g : Nat} {L T : List Nd}
theorem Srch.len (h:Srch P n x z L T got) (hn:n≤8):L.length≤16:=by
 have hsub:∀p∈L,p∈(List.range 8).flatMap fun v=>[(v,false),(v,true)]:=fun p hp=>by
  have:=(h.ball p (.inl hp)).1
  refine List.mem_flatMap.2 ⟨p.1,List.mem_range.2 (by omega),?_⟩
  obtain ⟨v,d⟩:=p
  cases d<;>simp
 have:=List.Nodup.length_le_of_subset h.nd hsub
 have e:((List.range 8).flatMap fun v=>[(v,false),(v,true)]).length=16:=by decide
 omega
theorem Srch.done (h:Srch P n x z L [] got):IsGot P n x z got:=fun v=>by
 rw [h.got v]
 have hcl:∀t d,Ball (paO P) (anO P n z) z.testBit x.testBit t d→(t,d)∈L:=by
  intro t d hb
  induction hb with
  | start hx=>exact (h.start _ hx).resolve_right (by simp)
  | down hb hz hp ih=>exact (h.down _ ih hz _ hp).resolve_right (by simp)
  | up hb hc hp ih=>exact (h.up _ ih hc _ hp).resolve_right (by simp)
 exact ⟨fun ⟨h1,d,h2⟩=>⟨h1,d,(h.ball _ (.inl h2)).2⟩,fun ⟨h1,d,h2⟩=>⟨h1,d,hcl _ _ h2⟩⟩
theorem Srch.skip {p:Nd} (h:Srch P n x z L (T++[p]) got) (hp:p∈L):Srch P n x z L T got:=by
 have hm:∀q,q∈L∨q∈T++[p]→q∈L∨q∈T:=fun q hq=>by
  rcases hq with hq|hq
  ·exact .inl hq
  ·rcases List.mem_append.1 hq with hq|hq
   ·exact .inr hq
   ·rw [List.mem_singleton.1 hq];exact .inl hp
 refine ⟨h.nd,fun q hq=>h.ball q (hq.imp id fun h=>List.mem_append_left _ h),fun v hv=>hm _ (h.start v hv),fun q hq hz k hk=>hm _ (h.down q hq hz k hk),fun q hq hc u hu=>hm _ (h.up q hq hc u hu),h.got,?_⟩
 have:=h.tl
 rw [List.length_append] at this
 omega
def nxD (P:List Nat) (n z:Nat) (p:Nd):List Nd:=if z.testBit p.1=true then [] else (els ((kdL P n n 0).getD p.1 0)).map fun k=>(k,false)
def nxU (P:List Nat) (n z:Nat) (p:Nd):List Nd:=if (p.2&&!z.testBit p.1||(!p.2&&anO P n z p.1))=true then (els (P.getD p.1 0)).map fun k=>(k,true) else []
theorem Srch.next {p:Nd} (hg:GP n P) (h:Srch P n x z L (T++[p]) got) (hp:p∉L):Srch P n x z (L++[p]) (T++(nxD P n z p++nxU P n z p)) (if z.testBit p.1=true then got else got|||bit p.1):=by
 obtain ⟨hpn,hpb⟩:=h.ball p (.inr (by simp))
 have hm:∀q,q∈L∨q∈T++[p]→q∈L++[p]∨q∈T++(nxD P n z p++nxU P n z p):=fun q hq=>by
  rcases hq with hq|hq
  ·exact .inl (List.mem_append_left _ hq)
  ·rcases List.mem_append.1 hq with hq|hq
   ·exact .inr (List.mem_append_left _ hq)
   ·exact .inl (List.mem_append_right _ hq)
 have hD:∀q,q∈nxD P n z p↔z.testBit p.1=false∧q.2=false∧paO P p.1 q.1=true:=fun q=>by
  unfold nxD
  obtain ⟨k,d⟩:=q
  cases hz:z.testBit p.1 with
  | true=>simp
  | false =>
   rw [if_neg (by decide)]
   simp only [List.mem_map,els_mem,kd_bit hg hpn,Prod.mk.injEq,true_and]
   constructor
   ·rintro ⟨a,⟨_,h1⟩,rfl,rfl⟩;exact ⟨rfl,h1⟩
   ·rintro ⟨rfl,h1⟩;exact ⟨k,⟨by have:=(hg.pa _ _ h1).2;have:=hg.n8;omega,h1⟩,rfl,rfl⟩
 have hU:∀q,q∈nxU P n z p↔((p.2=true∧z.testBit p.1=false)∨(p.2=false∧anO P n z p.1=true))∧q.2=true∧paO P q.1 p.1=true:=fun q=>by
  unfold nxU
  obtain ⟨k,d⟩:=q
  by_cases hc:(p.2&&!z.testBit p.1||(!p.2&&anO P n z p.1))=true
  ·rw [if_pos hc]
   have hc':(p.2=true∧z.testBit p.1=false)∨(p.2=false∧anO P n z p.1=true):=by simpa using hc
   simp only [List.mem_map,els_mem,Prod.mk.injEq]
   constructor
   ·rintro ⟨a,⟨_,h1⟩,rfl,rfl⟩;exact ⟨hc',rfl,h1⟩
   ·rintro ⟨_,rfl,h1⟩;exact ⟨k,⟨by have:=(hg.pa _ _ h1).1;have:=hg.n8;omega,h1⟩,rfl,rfl⟩
  ·rw [if_neg hc]
   have hc':¬((p.2=true∧z.testBit p.1=false)∨(p.2=false∧anO P n z p.1=true)):=fun h=>hc (by simpa using h)
   simp only [List.not_mem_nil,false_iff]
   exact fun h=>hc' h.1
 refine ⟨?_,fun q hq=>?_,fun v hv=>hm _ (h.start v hv),fun q hq hz k hk=>?_,fun q hq hc u hu=>?_,fun v=>?_,?_⟩
 ·exact List.nodup_append.2 ⟨h.nd,by simp,fun a ha b hb=>by rw [List.mem_singleton.1 hb];exact fun e=>hp (e▸ha)⟩
 ·rcases hq with hq|hq
  ·rcases List.mem_append.1 hq with hq|hq
   ·exact h.ball q (.inl hq)
   ·rw [List.mem_singleton.1 hq];exact ⟨hpn,hpb⟩
  ·rcases List.mem_append.1 hq with hq|hq
   ·exact h.ball q (.inr (List.mem_append_left _ hq))
   ·rcases List.mem_append.1 hq with hq|hq
    ·obtain ⟨h1,h2,h3⟩:=(hD q).1 hq
     obtain ⟨k,d⟩:=q
     subst h2
     exact ⟨(hg.pa _ _ h3).2,.down hpb h1 h3⟩
    ·obtain ⟨h1,h2,h3⟩:=(hU q).1 hq
     obtain ⟨k,d⟩:=q
     subst h2
     exact ⟨(hg.pa _ _ h3).1,.up hpb h1 h3⟩
 ·rcases List.mem_append.1 hq with hq|hq
  ·exact hm _ (h.down q hq hz k hk)
  ·rw [List.mem_singleton.1 hq] at hz hk
   exact .inr (List.mem_append_right _ (List.mem_append_left _ ((hD (k,false)).2 ⟨hz,rfl,hk⟩)))
 ·rcases List.mem_append.1 hq with hq|hq
  ·exact hm _ (h.up q hq hc u hu)
  ·rw [List.mem_singleton.1 hq] at hc hu
   exact .inr (List.mem_append_right _ (List.mem_append_right _ ((hU (u,true)).2 ⟨hc,rfl,hu⟩)))
 ·have hex:(∃d,(v,d)∈L++[p])↔(∃d,(v,d)∈L)∨v=p.1:=by
   constructor
   ·rintro ⟨d,hd⟩
    rcases List.mem_append.1 hd with hd|hd
    ·exact .inl ⟨d,hd⟩
    ·exact .inr (by rw [←List.mem_singleton.1 hd])
   ·rintro (⟨d,hd⟩|rfl)
    ·exact ⟨d,List.mem_append_left _ hd⟩
    ·exact ⟨p.2,by simp⟩
  rw [hex]
  cases hz:z.testBit p.1 with
  | true =>
   rw [if_pos rfl,h.got v]
   constructor
   ·rintro ⟨h1,h2⟩;exact ⟨h1,.inl h2⟩
   ·rintro ⟨h1,h2|h2⟩
    ·exact ⟨h1,h2⟩
    ·rw [h2,hz] at h1;cases h1
  | false =>
   rw [if_neg (by decide),Nat.testBit_or,Bool.or_eq_true,h.got v,bit_bit,decide_eq_true_eq]
   constructor
   ·rintro (⟨h1,h2⟩|h1)
    ·exact ⟨h1,.inl h2⟩
    ·exact ⟨by rw [←h1];exact hz,.inr h1.symm⟩
   ·rintro ⟨h1,h2|h2⟩
    ·exact .inl ⟨h1,h2⟩
    ·exact .inr h2.symm
 ·have h1:=h.tl
  have h2:(nxD P n z p).length≤8:=by
   unfold nxD
   split
   ·simp
   ·rw [List.length_map];exact els_len
  have h3:(nxU P n z p).length≤8:=by
   unfold nxU
   split
   ·rw [List.length_map];exact els_len
   ·simp
  simp only [List.length_append,List.length_cons,List.length_nil] at h1 ⊢
  omega
theorem IsGot.uniq (h:IsGot P n x z g) (h':IsGot P n x z got):g=got:=ext_bits' fun v=>by
 rw [Bool.eq_iff_iff,h v,h' v]
theorem Srch.init (hx:∀v,x.testBit v=true→v<n) (hn:n≤8):Srch P n x z [] ((els x).map fun v=>(v,true)) 0:=by
 refine ⟨List.nodup_nil,fun p hp=>?_,fun v hv=>.inr ?_,fun p hp=>by simp at hp,fun p hp=>by simp at hp,fun v=>by simp,?_⟩
 ·rcases hp with hp|hp
  ·simp at hp
  ·obtain ⟨v,hv,rfl⟩:=List.mem_map.1 hp
   have:=(els_mem.1 hv).2
   exact ⟨hx v this,.start this⟩
 ·exact List.mem_map.2 ⟨v,els_mem.2 ⟨by have:=hx v hv;omega,hv⟩,rfl⟩
 ·rw [List.length_map];have:=els_len (s:=x);simp;omega
theorem Srch.glt (h:Srch P n x z L T got) (hn:n≤8):got<256:=lt256 fun v hv=>by
 obtain ⟨_,d,hd⟩:=(h.got v).1 hv
 have:=(h.ball _ (.inl hd)).1
 simp only at this
 omega
theorem IsGot.lt (h:IsGot P n x z g) (hg:GP n P) (hx:∀v,x.testBit v=true→v<n):g<256:=lt256 fun v hv=>by
 obtain ⟨_,d,hb⟩:=(h v).1 hv
 have:v<n:=by
  cases hb with
  | start hx'=>exact hx v hx'
  | down _ _ hp=>exact (hg.pa _ _ hp).2
  | up _ _ hp=>exact (hg.pa _ _ hp).1
 have:=hg.n8
 omega
end
end Go.Proofs.YtgjnbcfencallaaDoor
