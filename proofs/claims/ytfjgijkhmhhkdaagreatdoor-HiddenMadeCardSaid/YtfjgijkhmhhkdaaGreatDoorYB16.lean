/- Hidden chains, in plain Lean: the path, step by step the first that is likeliest. No program in sight. Conditions: none. -/
import Derived.Test.YtfjgijkhmhhkdaaGreatDoorYB13
import Derived.Test.YtfjgijkhmhhkdaaGreatDoorYB10
import Derived.Test.YtfjgijkhmhhkdaaGreatDoorYB11
set_option linter.unusedVariables false
set_option linter.unusedSimpArgs false
namespace Go.Proofs.YtfjgijkhmhhkdaaGreatDoor
open Go Go.RowKit
def HM.tr (h:HM) (l:List Nat) (t k:Nat):Rat:=if t=0 then h.a k else h.mv (l.getD (t-1) 0) k
def HM.on (h:HM) (l:List Nat) (so:Rat) (t k:Nat):Rat:=so*h.tr l t k*h.sh k (h.s t)
def HM.pick (h:HM) (l:List Nat) (so:Rat) (t:Nat):Option Nat:=(List.range h.n).find? fun k=>decide (h.on l so t k*h.mx t k=h.best)
def HM.pth (h:HM):Nat→List Nat × Rat
 | 0=>([],1)
 | t+1=>match h.pick (HM.pth h t).1 (HM.pth h t).2 t with
  | some k=>((HM.pth h t).1++[k],h.on (HM.pth h t).1 (HM.pth h t).2 t k)
  | none=>HM.pth h t
section
variable {h : HM} {t : Nat}
theorem pick_first {l:List Nat} {so:Rat} {i:Nat} (hi:i<h.n) (he:h.on l so t i*h.mx t i=h.best) (hp:∀j,j<i→h.on l so t j*h.mx t j≠h.best):h.pick l so t=some i:=by
 unfold HM.pick
 rw [List.find?_range_eq_some]
 exact ⟨by simpa using he,by simpa using hi,fun j hj=>by simpa using hp j hj⟩
theorem HM.pth_at (hb:h.best≠0):∀{t:Nat},t<h.T→(h.pth t).1.length=t∧(∀x∈(h.pth t).1,x<h.n)∧(∃k,k<h.n∧h.on (h.pth t).1 (h.pth t).2 t k*h.mx t k=h.best):=by
 intro t
 induction t with
 | zero =>
  intro ht
  refine ⟨rfl,fun x hx=>(by cases hx),?_⟩
  obtain ⟨k,hk,e⟩:=HM.att0 ht hb
  exact ⟨k,hk,e⟩
 | succ t ih =>
  intro ht
  obtain ⟨h1,h2,k,hk,hp⟩:=ih (by omega)
  have hsome:(h.pick (h.pth t).1 (h.pth t).2 t).isSome=true:=by
   unfold HM.pick
   rw [List.find?_isSome]
   exact ⟨k,by simpa using hk,by simpa using hp⟩
  obtain ⟨q,hq⟩:=Option.isSome_iff_exists.1 hsome
  have hq':=hq
  unfold HM.pick at hq'
  have hqp:=List.find?_some hq'
  have hqn:=List.mem_range.1 (List.mem_of_find?_eq_some hq')
  have e:h.pth (t+1)=((h.pth t).1++[q],h.on (h.pth t).1 (h.pth t).2 t q):=by
   show (match h.pick (h.pth t).1 (h.pth t).2 t with|some k=>_|none=>_)=_
   rw [hq]
  rw [e]
  refine ⟨by simp [h1],fun x hx=>?_,?_⟩
  ·rcases List.mem_append.1 hx with hx|hx
   ·exact h2 x hx
   ·simp at hx;subst hx;exact hqn
  ·obtain ⟨k',hk',e'⟩:=HM.att1 (i:=q) (so:=h.on (h.pth t).1 (h.pth t).2 t q) ht hb (by simpa using hqp)
   refine ⟨k',hk',?_⟩
   have et:h.tr ((h.pth t).1++[q]) (t+1) k'=h.mv q k':=by
    unfold HM.tr
    rw [if_neg (by omega)]
    congr 1
    show List.getD _ (t+1-1) 0=q
    rw [show t+1-1=t by omega]
    simp [List.getD,h1]
   unfold HM.on at e' ⊢
   rw [et]
   exact e'
theorem HM.pth_next (hb:h.best≠0) (ht:t<h.T):∃k,k<h.n∧h.pick (h.pth t).1 (h.pth t).2 t=some k∧h.on (h.pth t).1 (h.pth t).2 t k*h.mx t k=h.best∧h.pth (t+1)=((h.pth t).1++[k],h.on (h.pth t).1 (h.pth t).2 t k):=by
 obtain ⟨h1,h2,k,hk,hp⟩:=HM.pth_at hb ht
 have hsome:(h.pick (h.pth t).1 (h.pth t).2 t).isSome=true:=by
  unfold HM.pick
  rw [List.find?_isSome]
  exact ⟨k,by simpa using hk,by simpa using hp⟩
 obtain ⟨q,hq⟩:=Option.isSome_iff_exists.1 hsome
 have hq':=hq
 unfold HM.pick at hq'
 have hqp:=List.find?_some hq'
 have hqn:=List.mem_range.1 (List.mem_of_find?_eq_some hq')
 refine ⟨q,hqn,hq,by simpa using hqp,?_⟩
 show (match h.pick (h.pth t).1 (h.pth t).2 t with|some k=>_|none=>_)=_
 rw [hq]
theorem HM.pth_len (hb:h.best≠0):∀{t:Nat},t≤h.T→(h.pth t).1.length=t∧∀x∈(h.pth t).1,x<h.n:=by
 intro t
 cases t with
 | zero=>intro _;exact ⟨rfl,fun x hx=>by cases hx⟩
 | succ t =>
  intro ht
  obtain ⟨h1,h2,_⟩:=HM.pth_at hb (t:=t) (by omega)
  obtain ⟨k,hk,_,_,e⟩:=HM.pth_next hb (t:=t) (by omega)
  rw [e]
  refine ⟨by simp [h1],fun x hx=>?_⟩
  rcases List.mem_append.1 hx with hx|hx
  ·exact h2 x hx
  ·simp at hx;subst hx;exact hk
theorem HM.pth_way (hb:h.best≠0) {p:Nat→Nat}:∀{t:Nat},t≤h.T→(∀j,j<t→(h.pth t).1.getD j 0=p j)→(h.pth t).2=h.wv p t:=by
 intro t
 induction t with
 | zero=>intro _ _;rfl
 | succ t ih =>
  intro ht hp
  obtain ⟨h1,h2,_⟩:=HM.pth_at hb (t:=t) (by omega)
  obtain ⟨k,hk,_,_,e⟩:=HM.pth_next hb (t:=t) (by omega)
  rw [e] at hp ⊢
  have hk':k=p t:=by
   have:=hp t (by omega)
   simpa [List.getD,h1] using this
  have hpre:∀j,j<t→(h.pth t).1.getD j 0=p j:=fun j hj=>by
   have:=hp j (by omega)
   rw [←this]
   simp [List.getD,List.getElem?_append_left (show j<(h.pth t).1.length by omega)]
  show h.on (h.pth t).1 (h.pth t).2 t k=h.wv p t*(if t=0 then h.a (p 0) else h.mv (p (t-1)) (p t))*h.sh (p t) (h.s t)
  unfold HM.on HM.tr
  rw [ih (by omega) hpre,hk']
  by_cases t0:t=0
  ·subst t0;rfl
  ·rw [if_neg t0,if_neg t0,hpre (t-1) (by omega)]
theorem HM.pth_best (hb:h.best≠0):h.wv (fun j=>(h.pth h.T).1.getD j 0) h.T=h.best:=by
 rw [←HM.pth_way hb (Nat.le_refl _) fun j _=>rfl]
 by_cases h0:h.T=0
 ·rw [h0];unfold HM.best;rw [if_pos h0];rfl
 ·obtain ⟨T,hT⟩:∃T,h.T=T+1:=⟨h.T-1,by omega⟩
  obtain ⟨k,hk,_,e1,e⟩:=HM.pth_next hb (t:=T) (by omega)
  rw [hT,e]
  rw [HM.mx_last (by omega),Rat.mul_one] at e1
  exact e1
end
end Go.Proofs.YtfjgijkhmhhkdaaGreatDoor
set_option linter.unusedVariables false
set_option linter.unusedSimpArgs false
namespace Go.Proofs.YtfjgijkhmhhkdaaGreatDoor
open Go Go.RowKit
abbrev Mx:=Nat→Nat→Rat
def piv (M:Mx) (c n:Nat):Option Nat:=(List.range (n-c)).find? fun p=>decide (M (c+p) c≠0)
def swapM (M:Mx) (c r:Nat):Mx:=fun i k=>if i=c then M r k else if i=r then M c k else M i k
def divM (M:Mx) (c:Nat):Mx:=fun i k=>if i=c then M c k/M c c else M i k
def elimM (M:Mx) (c:Nat):Mx:=fun i k=>if i=c then M c k else M i k-M i c*M c k
def stepM (M:Mx) (c r:Nat):Mx:=elimM (divM (swapM M c r) c) c
def gs (n:Nat) (M:Mx):Nat→Option Mx
 | 0=>some M
 | c+1=>match gs n M c with
  | none=>none
  | some M'=>match piv M' c n with
   | none=>none
   | some p=>some (stepM M' c (c+p))
section
variable {n c r : Nat} {M : Mx} {y x : Nat → Rat}
theorem sumF_single {f:Nat→Rat} {i:Nat} (h:∀k,k<n→k≠i→f k=0) (hi:i<n):sumF f n=f i:=by
 induction n with
 | zero=>omega
 | succ n ih =>
  show sumF f n+f n=f i
  by_cases e:i=n
  ·subst e
   rw [sumF_eq_zero fun k hk=>h k (by omega) (by omega)]
   grind
  ·rw [ih (fun k hk hne=>h k (by omega) hne) (by omega),h n (by omega) (fun e'=>e e'.symm)]
   grind
end
end Go.Proofs.YtfjgijkhmhhkdaaGreatDoor
set_option linter.unusedVariables false
set_option linter.unusedSimpArgs false
namespace Go.Proofs.YtfjgijkhmhhkdaaGreatDoor
open Go Go.RowKit
def wyL (n:Nat):Nat→List (List Nat)
 | 0=>[[]]
 | t+1=>(wyL n t).flatMap fun w=>(List.range n).map fun s=>w++[s]
def lsm {α:Type} (f:α→Rat):List α→Rat
 | []=>0
 | a::l=>f a+lsm f l
section
variable {α β : Type} {f g : α → Rat} {n t : Nat}
theorem lsm_app {l l':List α}:lsm f (l++l')=lsm f l+lsm f l':=by
 induction l with
 | nil=>show _=0+_;rw [Rat.zero_add];rfl
 | cons a l ih=>show f a+lsm f (l++l')=f a+lsm f l+_;rw [ih,Rat.add_assoc]
theorem lsm_congr {l:List α} (h:∀a∈l,f a=g a):lsm f l=lsm g l:=by
 induction l with
 | nil=>rfl
 | cons a l ih=>show f a+_=g a+_;rw [h a List.mem_cons_self,ih fun b hb=>h b (List.mem_cons_of_mem _ hb)]
theorem lsm_flat {l:List β} {k:β→List α}:lsm f (l.flatMap k)=lsm (fun b=>lsm f (k b)) l:=by
 induction l with
 | nil=>rfl
 | cons b l ih=>rw [List.flatMap_cons,lsm_app,ih];rfl
theorem lsm_map {l:List β} {k:β→α}:lsm f (l.map k)=lsm (fun b=>f (k b)) l:=by
 induction l with
 | nil=>rfl
 | cons b l ih=>show _+lsm f (l.map k)=_;rw [ih];rfl
theorem lsm_range {f:Nat→Rat}:lsm f (List.range n)=sumF f n:=by
 induction n with
 | zero=>rfl
 | succ n ih=>rw [List.range_succ,lsm_app,ih];show _+(f n+0)=_;rw [Rat.add_zero];rfl
theorem lsm_F {l:List α} {d:α}:lsm f l=sumF (fun i=>f (l.getD i d)) l.length:=by
 induction l with
 | nil=>rfl
 | cons a l ih =>
  have e:∀{h:Nat→Rat} {m:Nat},sumF h (m+1)=h 0+sumF (fun k=>h (k+1)) m:=by
   intro h m
   induction m with
   | zero=>show 0+h 0=h 0+0;grind
   | succ m ih=>show sumF h (m+1)+h (m+1)=h 0+(sumF (fun k=>h (k+1)) m+h (m+1));rw [ih];grind
  rw [List.length_cons,e]
  show f a+lsm f l=f a+_
  rw [ih];rfl
end
theorem wyL_len {n:Nat}:∀{t:Nat} {w:List Nat},w∈wyL n t→w.length=t∧∀s∈w,s<n:=by
 intro t
 induction t with
 | zero=>intro w hw;rw [List.mem_singleton.1 (show w∈[[]] from hw)];exact ⟨rfl,fun s hs=>by cases hs⟩
 | succ t ih =>
  intro w hw
  obtain ⟨v,hv,hm⟩:=List.mem_flatMap.1 (show w∈(wyL n t).flatMap _ from hw)
  obtain ⟨s,hs,rfl⟩:=List.mem_map.1 hm
  obtain ⟨h1,h2⟩:=ih hv
  refine ⟨by simp [h1],fun x hx=>?_⟩
  rcases List.mem_append.1 hx with hx|hx
  ·exact h2 x hx
  ·rw [List.mem_singleton.1 hx];exact List.mem_range.1 hs
def HM.wl (h:HM) (w:List Nat):Rat:=h.wv (fun j=>w.getD j 0) w.length
section
variable {h : HM} {t : Nat}
theorem wv_congr {p q:Nat→Nat}:∀{t:Nat},(∀j,j<t→p j=q j)→h.wv p t=h.wv q t:=by
 intro t
 induction t with
 | zero=>intro _;rfl
 | succ t ih =>
  intro e
  show h.wv p t*(if t=0 then h.a (p 0) else h.mv (p (t-1)) (p t))*h.sh (p t) (h.s t)=h.wv q t*(if t=0 then h.a (q 0) else h.mv (q (t-1)) (q t))*h.sh (q t) (h.s t)
  rw [ih fun j hj=>e j (by omega),e t (by omega)]
  by_cases t0:t=0
  ·rw [if_pos t0,if_pos t0,e 0 (by omega)]
  ·rw [if_neg t0,if_neg t0,e (t-1) (by omega)]
theorem wl_snoc {w:List Nat} {s:Nat}:h.wl (w++[s])=h.wl w*(if w.length=0 then h.a s else h.mv (w.getD (w.length-1) 0) s)*h.sh s (h.s w.length):=by
 have hg:∀j,j<w.length→(w++[s]).getD j 0=w.getD j 0:=fun j hj=>by
  rw [List.getD_eq_getElem?_getD,List.getD_eq_getElem?_getD,List.getElem?_append_left hj]
 have hl:(w++[s]).getD w.length 0=s:=by simp [List.getD]
 unfold HM.wl
 rw [List.length_append]
 show h.wv (fun j=>(w++[s]).getD j 0) w.length*(if w.length=0 then h.a ((w++[s]).getD 0 0) else h.mv ((w++[s]).getD (w.length-1) 0) ((w++[s]).getD w.length 0))*h.sh ((w++[s]).getD w.length 0) (h.s w.length)=_
 rw [wv_congr hg,hl]
 by_cases t0:w.length=0
 ·rw [if_pos t0,if_pos t0]
  have:(w++[s]).getD 0 0=s:=by have:=hl;rw [t0] at this;exact this
  rw [this]
 ·rw [if_neg t0,if_neg t0,hg _ (by omega)]
theorem wy_last (φ:Nat→Rat):∀t,lsm (fun w=>h.wl w*φ (w.getD t 0)) (wyL h.n (t+1))=sumF (fun k=>h.fw t k*φ k) h.n:=by
 intro t
 induction t generalizing φ with
 | zero =>
  show lsm _ (([[]]:List (List Nat)).flatMap fun w=>(List.range h.n).map fun s=>w++[s])=_
  rw [lsm_flat]
  show lsm _ ((List.range h.n).map fun s=>[]++[s])+0=_
  rw [Rat.add_zero,lsm_map,lsm_range]
  refine sumF_congr fun s _=>?_
  rw [wl_snoc]
  show (1:Rat)*h.a s*h.sh s (h.s 0)*φ s=h.a s*h.sh s (h.s 0)*φ s
  rw [Rat.one_mul]
 | succ t ih =>
  show lsm _ ((wyL h.n (t+1)).flatMap fun w=>(List.range h.n).map fun s=>w++[s])=_
  rw [lsm_flat]
  have e:lsm (fun w=>lsm (fun w=>h.wl w*φ (w.getD (t+1) 0)) ((List.range h.n).map fun s=>w++[s])) (wyL h.n (t+1))=lsm (fun w=>h.wl w*(fun k=>sumF (fun s=>h.mv k s*h.sh s (h.s (t+1))*φ s) h.n) (w.getD t 0)) (wyL h.n (t+1)):=lsm_congr fun w hw=>by
   have hl:=(wyL_len hw).1
   rw [lsm_map,lsm_range]
   show _=h.wl w*sumF _ h.n
   rw [sumF_mul]
   refine sumF_congr fun s _=>?_
   rw [wl_snoc,if_neg (by omega),hl]
   have:(w++[s]).getD (t+1) 0=s:=by rw [←hl];simp [List.getD]
   rw [this,show t+1-1=t by omega]
   grind
  rw [e,ih fun k=>sumF (fun s=>h.mv k s*h.sh s (h.s (t+1))*φ s) h.n]
  have e2:sumF (fun k=>h.fw t k*sumF (fun s=>h.mv k s*h.sh s (h.s (t+1))*φ s) h.n) h.n=sumF (fun k=>sumF (fun s=>h.fw t k*h.mv k s*(h.sh s (h.s (t+1))*φ s)) h.n) h.n:=sumF_congr fun k _=>by
   rw [sumF_mul];exact sumF_congr fun s _=>by grind
  rw [e2,sumF_swap]
  refine sumF_congr fun s _=>?_
  show _=sumF (fun k=>h.fw t k*h.mv k s) h.n*h.sh s (h.s (t+1))*φ s
  rw [Rat.mul_assoc,sumF_mulr]
theorem wy_lik:lsm h.wl (wyL h.n h.T)=h.lik:=by
 unfold HM.lik
 by_cases h0:h.T=0
 ·rw [if_pos h0,h0]
  show h.wl []+0=1
  rw [Rat.add_zero];rfl
 ·rw [if_neg h0]
  have:=wy_last (h:=h) (fun _=>1) (h.T-1)
  rw [show h.T-1+1=h.T by omega] at this
  rw [lsm_congr (g:=fun w=>h.wl w*1) fun w _=>(Rat.mul_one _).symm,this]
  exact sumF_congr fun k _=>Rat.mul_one _
theorem wy_at (φ:Nat→Rat):∀(u:Nat),u+t+1≤h.T→lsm (fun w=>h.wl w*(φ (w.getD t 0)*1)) (wyL h.n h.T)=lsm (fun w=>h.wl w*(φ (w.getD t 0)*h.bwU u (w.getD (h.T-u-1) 0))) (wyL h.n (h.T-u)):=by
 intro u
 induction u with
 | zero=>intro _;rfl
 | succ u ih =>
  intro hu
  rw [ih (by omega)]
  obtain ⟨L,hL⟩:∃L,h.T-u=L+1:=⟨h.T-u-1,by omega⟩
  rw [show h.T-(u+1)=L by omega,hL,show L+1-1=L by omega]
  show lsm _ ((wyL h.n L).flatMap fun w=>(List.range h.n).map fun s=>w++[s])=_
  rw [lsm_flat]
  refine lsm_congr fun w hw=>?_
  have hl:=(wyL_len hw).1
  rw [lsm_map,lsm_range]
  show _=h.wl w*(φ (w.getD t 0)*sumF (fun k=>h.mv (w.getD (L-1) 0) k*h.sh k (h.s (h.T-1-u))*h.bwU u k) h.n)
  rw [show h.T-1-u=L by omega,←Rat.mul_assoc,sumF_mul]
  refine sumF_congr fun s _=>?_
  have h1:(w++[s]).getD t 0=w.getD t 0:=by rw [List.getD_eq_getElem?_getD,List.getD_eq_getElem?_getD,List.getElem?_append_left (by omega)]
  have h2:(w++[s]).getD L 0=s:=by rw [←hl];simp [List.getD]
  rw [wl_snoc,if_neg (by omega),hl,h1,h2]
  grind
theorem wy_smooth (ht:t<h.T) (i:Nat) (hi:i<h.n):lsm (fun w=>if w.getD t 0=i then h.wl w else 0) (wyL h.n h.T)=h.fw t i*h.bw t i:=by
 have e0:lsm (fun w=>if w.getD t 0=i then h.wl w else 0) (wyL h.n h.T)=lsm (fun w=>h.wl w*((fun k=>if k=i then (1:Rat) else 0) (w.getD t 0)*1)) (wyL h.n h.T):=lsm_congr fun w _=>by
  show _=h.wl w*((if w.getD t 0=i then (1:Rat) else 0)*1)
  split<;>grind
 rw [e0,wy_at (fun k=>if k=i then (1:Rat) else 0) (h.T-1-t) (by omega)]
 rw [show h.T-(h.T-1-t)=t+1 by omega,show t+1-1=t by omega]
 have:=wy_last (h:=h) (fun k=>(if k=i then (1:Rat) else 0)*h.bwU (h.T-1-t) k) t
 rw [this,sumF_single (i:=i) (fun k _ hne=>by rw [if_neg hne];grind) hi,if_pos rfl,Rat.one_mul]
 rfl
end
def lexLt (u v:List Nat):Prop:=∃j,j<u.length∧j<v.length∧(∀k,k<j→u.getD k 0=v.getD k 0)∧u.getD j 0<v.getD j 0
theorem getD_left {u v:List Nat} {j:Nat} (h:j<u.length):(u++v).getD j 0=u.getD j 0:=by
 rw [List.getD_eq_getElem?_getD,List.getD_eq_getElem?_getD,List.getElem?_append_left h]
theorem getD_last {u:List Nat} {s:Nat}:(u++[s]).getD u.length 0=s:=by simp [List.getD]
theorem wyL_pw {n:Nat}:∀t,(wyL n t).Pairwise lexLt:=by
 intro t
 induction t with
 | zero=>exact List.pairwise_singleton _ _
 | succ t ih =>
  show List.Pairwise lexLt ((wyL n t).flatMap fun w=>(List.range n).map fun s=>w++[s])
  rw [List.pairwise_flatMap]
  refine ⟨fun w hw=>?_,?_⟩
  ·rw [List.pairwise_map]
   refine List.pairwise_lt_range.imp fun {a b} hab=>⟨w.length,by simp,by simp,fun k hk=>by rw [getD_left hk,getD_left hk],by rw [getD_last,getD_last];exact hab⟩
  ·refine ih.imp_of_mem fun {u v} hu hv huv x hx y hy=>?_
   obtain ⟨a,_,rfl⟩:=List.mem_map.1 hx
   obtain ⟨b,_,rfl⟩:=List.mem_map.1 hy
   obtain ⟨j,h1,h2,h3,h4⟩:=huv
   exact ⟨j,by simp;omega,by simp;omega,fun k hk=>by rw [getD_left (by omega),getD_left (by omega)];exact h3 k hk,by rw [getD_left h1,getD_left h2];exact h4⟩
theorem wyL_all {n:Nat}:∀{t:Nat} {w:List Nat},w.length=t→(∀s∈w,s<n)→w∈wyL n t:=by
 intro t
 induction t with
 | zero=>intro w hw _;rw [List.length_eq_zero_iff.1 hw];exact List.mem_singleton.2 rfl
 | succ t ih =>
  intro w hw hn
  obtain ⟨v,s,e⟩:∃v s,w=v++[s]:=⟨w.dropLast,w.getLast (fun h=>by rw [h] at hw;cases hw),(List.dropLast_concat_getLast _).symm⟩
  subst e
  exact List.mem_flatMap.2 ⟨v,ih (by simpa using hw) fun x hx=>hn x (List.mem_append_left _ hx),List.mem_map.2 ⟨s,List.mem_range.2 (hn s (by simp)),rfl⟩⟩
section
variable {h : HM} {t : Nat}
theorem wv_down (ok:h.Ok) {p:Nat→Nat} (hp:∀j,p j<h.n) (ht:t+1<h.T):h.wv p (t+2)*h.mx (t+1) (p (t+1))≤h.wv p (t+1)*h.mx t (p t):=by
 show h.wv p (t+1)*(if t+1=0 then h.a (p 0) else h.mv (p (t+1-1)) (p (t+1)))*h.sh (p (t+1)) (h.s (t+1))*h.mx (t+1) (p (t+1))≤_
 rw [if_neg (by omega),show t+1-1=t by omega]
 have e:h.wv p (t+1)*h.mv (p t) (p (t+1))*h.sh (p (t+1)) (h.s (t+1))*h.mx (t+1) (p (t+1))=h.wv p (t+1)*(h.mv (p t) (p (t+1))*h.sh (p (t+1)) (h.s (t+1))*h.mx (t+1) (p (t+1))):=by grind
 rw [e,HM.mx_next (t:=t) (by omega)]
 exact Rat.mul_le_mul_of_nonneg_left (maxF_ge (f:=fun k=>h.mv (p t) k*h.sh k (h.s (t+1))*h.mx (t+1) k) (hp (t+1))) (HM.wv_nonneg ok _)
theorem wv_best (ok:h.Ok) {p:Nat→Nat} (hp:∀j,p j<h.n) (hb:h.wv p h.T=h.best):∀u,u+1≤h.T→h.wv p (h.T-u)*h.mx (h.T-u-1) (p (h.T-u-1))=h.best:=by
 intro u
 induction u with
 | zero =>
  intro hu
  rw [show h.T-0=h.T by omega,HM.mx_last (by omega),Rat.mul_one,hb]
 | succ u ih =>
  intro hu
  have h1:=ih (by omega)
  obtain ⟨t,ht⟩:∃t,h.T-u=t+2:=⟨h.T-u-2,by omega⟩
  rw [show h.T-(u+1)=t+1 by omega,show t+1-1=t by omega]
  rw [ht,show t+2-1=t+1 by omega] at h1
  have h2:=wv_down ok hp (t:=t) (by omega)
  rw [h1] at h2
  exact Rat.le_antisymm (HM.wv_le ok hp t (by omega)) h2
theorem pth_pre (hb:h.best≠0):∀{u:Nat},t+u≤h.T→∀j,j<t→(h.pth (t+u)).1.getD j 0=(h.pth t).1.getD j 0:=by
 intro u
 induction u with
 | zero=>intro _ j _;rfl
 | succ u ih =>
  intro hu j hj
  obtain ⟨k,hk,_,_,e⟩:=HM.pth_next hb (t:=t+u) (by omega)
  have hl:=(HM.pth_at hb (t:=t+u) (by omega)).1
  show (h.pth (t+u+1)).1.getD j 0=_
  rw [e,getD_left (by omega)]
  exact ih (by omega) j hj
theorem path_first (ok:h.Ok) (hn:0<h.n) (hb:h.best≠0) {w:List Nat} (hw:w∈wyL h.n h.T) (hlt:lexLt w (h.pth h.T).1):h.wl w≠h.best:=fun hwb=>by
 obtain ⟨hwl,hwn⟩:=wyL_len hw
 obtain ⟨j,h1,h2,h3,h4⟩:=hlt
 rw [hwl] at h1
 obtain ⟨p,hp⟩:∃p:Nat→Nat,p=fun j=>w.getD j 0:=⟨_,rfl⟩
 have hpn:∀j,p j<h.n:=fun j=>by
  rw [hp]
  by_cases hj:j<w.length
  ·show w.getD j 0<_;rw [lget_lt w 0 hj];exact hwn _ (List.getElem_mem _)
  ·show w.getD j 0<_;rw [List.getD_eq_getElem?_getD,List.getElem?_eq_none (by omega)];exact hn
 have hbp:h.wv p h.T=h.best:=by rw [←hwb];unfold HM.wl;rw [hwl,hp]
 have hj:=wv_best ok hpn hbp (h.T-(j+1)) (by omega)
 rw [show h.T-(h.T-(j+1))=j+1 by omega,show j+1-1=j by omega] at hj
 obtain ⟨k,hk,hpick,_,e⟩:=HM.pth_next hb (t:=j) h1
 have hlj:=(HM.pth_at hb (t:=j) h1).1
 have hPk:(h.pth h.T).1.getD j 0=k:=by
  have:=pth_pre hb (t:=j+1) (u:=h.T-(j+1)) (by omega) j (by omega)
  rw [show j+1+(h.T-(j+1))=h.T by omega] at this
  have hh:((h.pth j).1++[k]).getD j 0=k:=by have:=getD_last (u:=(h.pth j).1) (s:=k);rw [hlj] at this;exact this
  rw [this,e];exact hh
 have hpre:∀i,i<j→(h.pth j).1.getD i 0=p i:=fun i hi=>by
  have:=pth_pre hb (t:=j) (u:=h.T-j) (by omega) i hi
  rw [show j+(h.T-j)=h.T by omega] at this
  rw [←this,←h3 i hi,hp]
 have hso:=HM.pth_way hb (p:=p) (t:=j) (by omega) hpre
 have hon:h.on (h.pth j).1 (h.pth j).2 j (p j)*h.mx j (p j)=h.best:=by
  rw [←hj]
  congr 1
  show _=h.wv p j*(if j=0 then h.a (p 0) else h.mv (p (j-1)) (p j))*h.sh (p j) (h.s j)
  unfold HM.on HM.tr
  rw [hso]
  by_cases j0:j=0
  ·subst j0;rfl
  ·rw [if_neg j0,if_neg j0,hpre (j-1) (by omega)]
 rw [hPk] at h4
 have hpj:w.getD j 0=p j:=by rw [hp]
 rw [hpj] at h4
 unfold HM.pick at hpick
 rw [List.find?_range_eq_some] at hpick
 have:=hpick.2.2 (p j) h4
 rw [hon] at this
 simp at this
def bstW (h:HM) (l:List (List Nat)):Nat→List Nat × Rat
 | 0=>([],-1)
 | x+1=>if (bstW h l x).2<h.wl (l.getD x []) then (l.getD x [],h.wl (l.getD x [])) else bstW h l x
theorem wl_nonneg (ok:h.Ok) (w:List Nat):0≤h.wl w:=HM.wv_nonneg ok _
theorem bstW_spec (ok:h.Ok) {l:List (List Nat)}:∀x,x≤l.length→(x=0∧bstW h l x=([],-1))∨∃i,i<x∧bstW h l x=(l.getD i [],h.wl (l.getD i []))∧(∀j,j<x→h.wl (l.getD j [])≤h.wl (l.getD i []))∧∀j,j<i→h.wl (l.getD j [])<h.wl (l.getD i []):=by
 intro x
 induction x with
 | zero=>intro _;exact .inl ⟨rfl,rfl⟩
 | succ x ih =>
  intro hx
  have e:bstW h l (x+1)=if (bstW h l x).2<h.wl (l.getD x []) then (l.getD x [],h.wl (l.getD x [])) else bstW h l x:=rfl
  rcases ih (by omega) with ⟨rfl,e0⟩|⟨i,hi,ei,h1,h2⟩
  ·refine .inr ⟨0,by omega,?_,fun j hj=>by rw [show j=0 by omega];exact Rat.le_refl,fun j hj=>by omega⟩
   rw [e,e0,if_pos (Std.lt_of_lt_of_le (show (-1:Rat)<0 by decide) (wl_nonneg ok _))]
  ·rw [e,ei]
   show _∨∃i',i'<x+1∧(if h.wl (l.getD i [])<h.wl (l.getD x []) then _ else _)=_∧_
   by_cases hc:h.wl (l.getD i [])<h.wl (l.getD x [])
   ·refine .inr ⟨x,by omega,by rw [if_pos hc],fun j hj=>?_,fun j hj=>?_⟩
    ·by_cases ej:j=x
     ·rw [ej];exact Rat.le_refl
     ·exact Rat.le_trans (h1 j (by omega)) (Rat.le_of_lt hc)
    ·exact Std.lt_of_le_of_lt (h1 j hj) hc
   ·refine .inr ⟨i,by omega,by rw [if_neg hc],fun j hj=>?_,h2⟩
    by_cases ej:j=x
    ·rw [ej];exact Rat.not_lt.1 hc
    ·exact h1 j (by omega)
theorem bstW_path (ok:h.Ok) (hn:0<h.n) (hb:h.best≠0):bstW h (wyL h.n h.T) (wyL h.n h.T).length=((h.pth h.T).1,h.best):=by
 obtain ⟨l,hl⟩:∃l,l=wyL h.n h.T:=⟨_,rfl⟩
 rw [←hl]
 obtain ⟨P,hP⟩:∃P,P=(h.pth h.T).1:=⟨_,rfl⟩
 obtain ⟨hPl,hPn⟩:=HM.pth_len hb (t:=h.T) (Nat.le_refl _)
 have hPm:P∈l:=by rw [hP,hl];exact wyL_all hPl hPn
 have hPw:h.wl P=h.best:=by unfold HM.wl;rw [hP,hPl];exact HM.pth_best hb
 obtain ⟨q,hq,eq⟩:=List.getElem_of_mem hPm
 have hg:∀i,(hi:i<l.length)→l.getD i []=l[i]:=fun i hi=>lget_lt l [] hi
 have hle:∀w∈l,h.wl w≤h.best:=fun w hw=>by
  rw [hl] at hw
  obtain ⟨w1,w2⟩:=wyL_len hw
  unfold HM.wl
  rw [w1]
  refine HM.way_le ok fun j=>?_
  by_cases hj:j<w.length
  ·rw [lget_lt w 0 hj];exact w2 _ (List.getElem_mem _)
  ·rw [List.getD_eq_getElem?_getD,List.getElem?_eq_none (by omega)];exact hn
 rcases bstW_spec (h:=h) ok (l:=l) l.length (Nat.le_refl _) with ⟨e0,_⟩|⟨i,hi,ei,h1,h2⟩
 ·omega
 have hib:h.wl l[i]=h.best:=by
  refine Rat.le_antisymm (hle _ (List.getElem_mem _)) ?_
  have:=h1 q hq
  rw [hg q hq,hg i hi,eq,hPw] at this
  exact this
 have hiq:i=q:=by
  rcases Nat.lt_trichotomy i q with hlt|rfl|hlt
  ·have hpw:=List.pairwise_iff_getElem.1 (wyL_pw (n:=h.n) h.T) i q (by rw [←hl];exact hi) (by rw [←hl];exact hq) hlt
   simp only [←hl] at hpw
   rw [eq,hP] at hpw
   exact absurd hib (path_first ok hn hb (by rw [←hl];exact List.getElem_mem _) hpw)
  ·rfl
  ·have:=h2 q hlt
   rw [hg q hq,hg i hi,eq,hPw,hib] at this
   exact absurd this Rat.lt_irrefl
 subst hiq
 rw [ei,hg i hi,eq,hPw,hP]
end
end Go.Proofs.YtfjgijkhmhhkdaaGreatDoor
set_option linter.unusedVariables false
set_option linter.unusedSimpArgs false
namespace Go.Proofs.YtfjgijkhmhhkdaaGreatDoor
open Go Go.RowKit
abbrev Bx:=Nat→Nat→Bool
inductive Star (n : Nat) (E : Bx) (i : Nat) : Nat → Prop
  | refl : Star n E i i
  | step {j k : Nat} (h : Star n E i j) (hk : k < n) (he : E j k = true) : Star n E i k
section
variable {n K i j k : Nat} {E : Bx}
theorem Star.trans (h1:Star n E i j) (h2:Star n E j k):Star n E i k:=by
 induction h2 with
 | refl=>exact h1
 | step _ hk he ih=>exact .step ih hk he
theorem Star.lt (h:Star n E i j) (hi:i<n):j<n:=by cases h with|refl=>exact hi|step _ hk _=>exact hk
structure Pre (n : Nat) (R : Bx) : Prop where
  refl : ∀ i, R i i = true
  trans : ∀ i j k, j < n → R i j = true → R j k = true → R i k = true
variable {R : Bx}
end
end Go.Proofs.YtfjgijkhmhhkdaaGreatDoor
set_option linter.unusedVariables false
set_option linter.unusedSimpArgs false
namespace Go.Proofs.YtfjgijkhmhhkdaaGreatDoor
open Go Go.RowKit
def posE (Q:Mx):Bx:=fun i j=>decide (0<Q i j)
structure Irr (L : Nat) (Q : Mx) : Prop where
  nonneg : ∀ i k, 0 ≤ Q i k
  sum : ∀ i, i < L → sumF (Q i) L = 1
  con : ∀ i k, i < L → k < L → Star L (posE Q) i k
section
variable {L : Nat} {Q : Mx} {y p : Nat → Rat} {f g : Nat → Rat} {n : Nat}
end
end Go.Proofs.YtfjgijkhmhhkdaaGreatDoor
set_option linter.unusedVariables false
set_option linter.unusedSimpArgs false
namespace Go.Proofs.YtfjgijkhmhhkdaaGreatDoor
open Go Go.RowKit
def mulM (n:Nat) (A B:Mx):Mx:=fun i k=>sumF (fun j=>A i j*B j k) n
def idM:Mx:=fun i k=>if i=k then 1 else 0
def powM (n:Nat) (A:Mx):Nat→Mx
 | 0=>idM
 | k+1=>mulM n (powM n A k) A
def EqM (n:Nat) (A B:Mx):Prop:=∀i k,i<n→k<n→A i k=B i k
def mxL (n:Nat) (M:Mx):List (List Rat):=(List.range n).map fun i=>(List.range n).map (M i)
structure Sto (n : Nat) (A : Mx) : Prop where
  nonneg : ∀ i k, i < n → k < n → 0 ≤ A i k
  sum : ∀ i, i < n → sumF (A i) n = 1
section
variable {n a b : Nat} {A B C D : Mx} {y : Nat → Rat}
theorem EqM.symm (h:EqM n A B):EqM n B A:=fun i k hi hk=>(h i k hi hk).symm
theorem EqM.trans (h:EqM n A B) (h':EqM n B C):EqM n A C:=fun i k hi hk=>(h i k hi hk).trans (h' i k hi hk)
theorem mul_congr (h:EqM n A B) (h':EqM n C D):EqM n (mulM n A C) (mulM n B D):=fun i k hi hk=>sumF_congr fun j hj=>by rw [h i j hi hj,h' j k hj hk]
theorem mul_id:EqM n (mulM n A idM) A:=fun i k hi hk=>by
 show sumF (fun j=>A i j*idM j k) n=_
 rw [sumF_single (i:=k) (fun j _ hne=>by unfold idM;rw [if_neg hne,Rat.mul_zero]) hk]
 unfold idM;rw [if_pos rfl,Rat.mul_one]
theorem mul_assoc':mulM n (mulM n A B) C=mulM n A (mulM n B C):=by
 funext i k
 show sumF (fun j=>sumF (fun l=>A i l*B l j) n*C j k) n=sumF (fun l=>A i l*sumF (fun j=>B l j*C j k) n) n
 have e1:sumF (fun j=>sumF (fun l=>A i l*B l j) n*C j k) n=sumF (fun j=>sumF (fun l=>A i l*B l j*C j k) n) n:=sumF_congr fun j _=>by rw [sumF_mulr]
 rw [e1,sumF_swap]
 refine sumF_congr fun l _=>?_
 rw [sumF_mul]
 exact sumF_congr fun j _=>by rw [Rat.mul_assoc]
theorem pow_add:∀b,EqM n (powM n A (a+b)) (mulM n (powM n A a) (powM n A b)):=by
 intro b
 induction b with
 | zero=>exact (mul_id (A:=powM n A a)).symm
 | succ b ih =>
  show EqM n (mulM n (powM n A (a+b)) A) (mulM n (powM n A a) (mulM n (powM n A b) A))
  rw [←mul_assoc']
  exact mul_congr ih fun _ _ _ _=>rfl
theorem mxL_len:(mxL n A).length=n:=by simp [mxL]
theorem mxL_row (r:List Rat) (h:r∈mxL n A):r.length=n:=by obtain ⟨i,_,rfl⟩:=List.mem_map.1 h;simp
end
end Go.Proofs.YtfjgijkhmhhkdaaGreatDoor
set_option linter.unusedVariables false
set_option linter.unusedSimpArgs false
namespace Go.Proofs.YtfjgijkhmhhkdaaGreatDoor
open Go Go.RowKit
end Go.Proofs.YtfjgijkhmhhkdaaGreatDoor
set_option linter.unusedVariables false
set_option linter.unusedSimpArgs false
namespace Go.Proofs.YtfjgijkhmhhkdaaGreatDoor
open Go Go.RowKit
def rowsO (e:TypeId) (sz:Nat) (R:List (List FV)):AH:=R.map fun l=>some ⟨e,sz,l.map .f⟩
def dy (A:AH) (e:TypeId) (sz:Nat) (R:List (List FV)) (B:AH):AH:=A++(rowsO e sz R++B)
section
variable {A A' B C : AH} {e : TypeId} {sz a n i j N : Nat} {R : List (List FV)} {l : List FV} {o : Option AO}
theorem rowsO_len:(rowsO e sz R).length=R.length:=by simp [rowsO]
theorem dy_len:(dy A e sz R B).length=A.length+(R.length+B.length):=by simp [dy,rowsO_len]
theorem dy_app:dy A e sz R B++C=dy A e sz R (B++C):=by simp [dy]
theorem dy_get0 (h:i<A.length):(dy A e sz R B)[i]?=A[i]?:=List.getElem?_append_left h
theorem dy_getR (ha:A.length=a) (hi:R[i]?=some l):(dy A e sz R B)[a+i]?=some (some ⟨e,sz,l.map .f⟩):=by
 have hil:=glt hi
 unfold dy
 rw [List.getElem?_append_right (by omega),show a+i-A.length=i by omega,List.getElem?_append_left (by rw [rowsO_len];exact hil)]
 simp [rowsO,hi]
theorem dy_setR (ha:A.length=a) (hi:i<R.length):(dy A e sz R B).set (a+i) (some ⟨e,sz,l.map .f⟩)=dy A e sz (R.set i l) B:=by
 unfold dy
 rw [List.set_append_right _ _ (by omega),show a+i-A.length=i by omega,List.set_append_left _ _ (by rw [rowsO_len];exact hi)]
 congr 2
 unfold rowsO
 rw [List.map_set]
theorem dy_getB (ha:A.length=a) (hn:R.length=n):(dy A e sz R B)[a+(n+j)]?=B[j]?:=by
 unfold dy
 rw [List.getElem?_append_right (by omega),show a+(n+j)-A.length=n+j by omega,List.getElem?_append_right (by rw [rowsO_len];omega),rowsO_len,show n+j-R.length=j by omega]
theorem dy_getB0 (ha:A.length=a) (hn:R.length=n):(dy A e sz R B)[a+n]?=B[0]?:=by
 have:=dy_getB (A:=A) (B:=B) (e:=e) (sz:=sz) (j:=0) ha hn
 rwa [Nat.add_zero] at this
theorem dy_setB (ha:A.length=a) (hn:R.length=n):(dy A e sz R B).set (a+(n+j)) o=dy A e sz R (B.set j o):=by
 unfold dy
 rw [List.set_append_right _ _ (by omega),show a+(n+j)-A.length=n+j by omega,List.set_append_right _ _ (by rw [rowsO_len];omega),rowsO_len,show n+j-R.length=j by omega]
theorem dy_setB0 (ha:A.length=a) (hn:R.length=n):(dy A e sz R B).set (a+n) o=dy A e sz R (B.set 0 o):=by
 have:=dy_setB (A:=A) (B:=B) (e:=e) (sz:=sz) (j:=0) (o:=o) ha hn
 rwa [Nat.add_zero] at this
theorem weakH_app {H:AH}:A.length=A'.length→(WeakH N (A++H) (A'++C)↔WeakH N A A'∧WeakH N H C):=by
 induction A generalizing A' with
 | nil =>
  intro h
  cases A' with
  | nil=>rw [List.nil_append,List.nil_append,weakH_nil];simp
  | cons b A'=>simp at h
 | cons b A ih =>
  intro h
  cases A' with
  | nil=>simp at h
  | cons c A' =>
   have:=ih (A':=A') (by simpa using h)
   show (_∧WeakH N (A++H) (A'++C))↔(_∧WeakH N A A')∧_
   rw [this,and_assoc]
theorem weakH_rows:WeakH N (rowsO e sz R++B) (rowsO e sz R++[]):=by
 rw [List.append_nil]
 induction R with
 | nil=>exact (weakH_nil N B).mpr trivial
 | cons l R ih=>exact ⟨⟨rfl,fun x hx=>by obtain ⟨y,_,rfl⟩:=List.mem_map.1 (show x∈l.map AV.f from hx);rfl⟩,ih⟩
theorem weakH_dyB (h:A.length=A'.length):WeakH N (dy A e sz R B) (dy A' e sz R C)=(WeakH N A A'∧WeakH N B C):=by
 unfold dy
 refine propext ⟨fun hh=>⟨((weakH_app h).1 hh).1,((weakH_app rfl).1 ((weakH_app h).1 hh).2).2⟩,fun hh=>(weakH_app h).2 ⟨hh.1,(weakH_app rfl).2 ⟨?_,hh.2⟩⟩⟩
 have:=weakH_rows (N:=N) (e:=e) (sz:=sz) (R:=R) (B:=[])
 simpa using this
theorem weakHr_get {g:Nat→Nat} {N:Nat} {H m:AH} (h:WeakHr g N H 0 m):∀(r:Nat) o,m[r]?=some (some o)→H[g r]?=some (some ⟨o.e,o.sz,o.es.map (AV.ren g)⟩)∧∀e∈o.es,e.lt0 N=true:=fun r o hr=>by
 have:=weakHr h r o hr
 rwa [Nat.zero_add] at this
end
section
variable {A B C : AH} {e : TypeId} {sz N : Nat} {R : List (List FV)} {o p q r o' p' q' r' : Option AO}
theorem dy_g0:(dy (o::A) e sz R B)[0]?=some o:=(rfl)
theorem dy_g1:(dy (o::p::A) e sz R B)[1]?=some p:=(rfl)
theorem dy_g2:(dy (o::p::q::A) e sz R B)[2]?=some q:=(rfl)
theorem dy_g3:(dy (o::p::q::r::A) e sz R B)[3]?=some r:=(rfl)
theorem dy_s0:(dy (o::A) e sz R B).set 0 o'=dy (o'::A) e sz R B:=(rfl)
theorem dy_s1:(dy (o::p::A) e sz R B).set 1 o'=dy (o::o'::A) e sz R B:=(rfl)
theorem dy_s2:(dy (o::p::q::A) e sz R B).set 2 o'=dy (o::p::o'::A) e sz R B:=(rfl)
theorem dy_s3:(dy (o::p::q::r::A) e sz R B).set 3 o'=dy (o::p::q::o'::A) e sz R B:=(rfl)
theorem weakH_dy1:WeakH N (dy [o] e sz R B) (dy [o'] e sz R C)=(WeakH N [o] [o']∧WeakH N B C):=weakH_dyB rfl
theorem weakH_dy2:WeakH N (dy [o,p] e sz R B) (dy [o',p'] e sz R C)=(WeakH N [o,p] [o',p']∧WeakH N B C):=weakH_dyB rfl
theorem weakH_dy3:WeakH N (dy [o,p,q] e sz R B) (dy [o',p',q'] e sz R C)=(WeakH N [o,p,q] [o',p',q']∧WeakH N B C):=weakH_dyB rfl
theorem weakH_dy4:WeakH N (dy [o,p,q,r] e sz R B) (dy [o',p',q',r'] e sz R C)=(WeakH N [o,p,q,r] [o',p',q',r']∧WeakH N B C):=weakH_dyB rfl
end
abbrev nilV:FV:=.v (.slice none 0 0)
attribute [go_sem] dy_len dy_app dy_g0 dy_g1 dy_g2 dy_g3 dy_s0 dy_s1 dy_s2 dy_s3 weakH_dy1 weakH_dy2 weakH_dy3 weakH_dy4
end Go.Proofs.YtfjgijkhmhhkdaaGreatDoor
set_option linter.unusedVariables false
set_option linter.unusedSimpArgs false
namespace Go.Proofs.YtfjgijkhmhhkdaaGreatDoor
open Go Go.RowKit
theorem sumF_fz {f:Nat→Rat} {s:Nat}:∀{n:Nat},(∀k,k<n→Fz (f k) s)→Fz (sumF f n) (8+n*(s+1)):=by
 intro n
 induction n with
 | zero=>intro _;exact (Fz.int (n:=0) (by decide)).up (by omega)
 | succ n ih=>intro h;exact ((ih fun k hk=>h k (by omega)).add (h n (by omega))).up (by rw [Nat.add_mul];omega)
theorem Row.getD {k:Nat} {l:List Rat} (h:Row k l) {i:Nat} (hi:i<l.length):Fz (l.getD i 0) k:=by rw [lget_lt l 0 hi];exact h.get hi
structure SqM (k : Nat) (ys : List FV) (m : List (List Rat)) : Prop where
  fr : FrM k ys m
  sq : ∀ r ∈ m, List.length r = m.length
  le : m.length ≤ 6
section
variable {a b : Nat} {ps ys : List FV} {p : List Rat} {m : List (List Rat)} {i j : Nat}
theorem SqM.e2 (h:SqM b ys m) (hi:i<m.length) (hj:j<m.length):at2 m i j=(m[i]'hi)[j]'(by rw [h.sq _ (List.getElem_mem hi)];exact hj):=by unfold at2;rw [lget_lt m [] hi,lget_lt _ 0]
theorem SqM.at2 (h:SqM b ys m) (hi:i<m.length) (hj:j<m.length):∃xs g n d,ys[i]?=some (.fz 3 xs)∧xs[j]?=some (frR g n d)∧IsFr (frR g n d) (at2 m i j) b:=by
 obtain ⟨xs,h1,h2⟩:=h.fr.at hi
 obtain ⟨g,n,d,h3,h4⟩:=h2.at3 (i:=j) (by rw [h.sq _ (List.getElem_mem hi)];exact hj)
 exact ⟨xs,g,n,d,h1,h3,by rw [h.e2 hi hj];exact h4⟩
theorem SqM.f2 (h:SqM b ys m) (h1:1≤b) (hi:i<m.length) (hj:j<m.length):Fz (Go.Proofs.YtfjgijkhmhhkdaaGreatDoor.at2 m i j) b:=by
 obtain ⟨xs,g,n,d,_,_,h4⟩:=h.at2 hi hj
 exact h4.fz h1
theorem SqM.c {A:Mx} {n:Nat} (hn:n≤6) (h:∀i k,i<n→k<n→Fz (A i k) b):SqM b ((mxL n A).map frs) (mxL n A) where
 fr:=FrM.c fun r hr=>by
  obtain ⟨i,hi,rfl⟩:=List.mem_map.1 hr
  intro q hq
  obtain ⟨k,hk,rfl⟩:=List.mem_map.1 hq
  exact h i k (List.mem_range.1 hi) (List.mem_range.1 hk)
 sq:=fun r hr=>by rw [mxL_len];exact mxL_row r hr
 le:=by rw [mxL_len];exact hn
theorem SqM.up (h:SqM a ys m) (hab:a≤b):SqM b ys m:=⟨⟨h.fr.len,fun i r hr=>by obtain ⟨xs,h1,h2⟩:=h.fr.get i r hr;exact ⟨xs,h1,h2.up hab⟩⟩,h.sq,h.le⟩
end
end Go.Proofs.YtfjgijkhmhhkdaaGreatDoor
set_option linter.unusedVariables false
set_option linter.unusedSimpArgs false
namespace Go.Proofs.YtfjgijkhmhhkdaaGreatDoor
open Go Go.RowKit
section
variable {a b n : Nat} {xs ys : List FV} {A B : List (List Rat)}
end
def szP (k:Nat):Nat→Nat
 | 0=>k+8
 | j+1=>12*szP k j+14
structure PwI where
  j : Nat
  k : Nat
  d : Nat
  h : Nat
  hv : List FV
  hm : List (List Rat)
structure PwOk (s n k0 : Nat) (A : Mx) (x : PwI) : Prop where
  j5 : x.j ≤ 5
  kl : x.k < 2 ^ (5 - x.j)
  hk : x.d + x.k * x.h = k0
  sq : SqM (szP s x.j) x.hv x.hm
  ln : x.hm.length = n
  eq : EqM n (at2 x.hm) (powM n A x.h)
  dz : ∀ i k, i < n → k < n → Fz (powM n A x.d i k) (szP s x.j)
def idTo (i x:Nat):List FV:=(List.range x).map fun k=>fr (idM i k)
theorem idTo_zero {i:Nat}:idTo i 0=[]:=rfl
attribute [go_sem] idTo_zero
end Go.Proofs.YtfjgijkhmhhkdaaGreatDoor
set_option linter.unusedVariables false
set_option linter.unusedSimpArgs false
namespace Go.Proofs.YtfjgijkhmhhkdaaGreatDoor
open Go Go.RowKit
abbrev b2i (b:Bool):Int:=if b=true then 1 else 0
def rowW (n:Nat) (W:Bx) (i:Nat):List FV:=(List.range n).map fun k=>I (b2i (W i k))
def rTo (W:Bx) (i x:Nat):List FV:=(List.range x).map fun k=>I (b2i (W i k))
theorem rTo_zero {W:Bx} {i:Nat}:rTo W i 0=[]:=rfl
attribute [go_sem] rTo_zero
def rowsW (n:Nat) (W:Bx) (x:Nat):List (List FV):=(List.range x).map (rowW n W)
def oes (n x:Nat):List AV:=(List.range n).map fun j=>if j<x then .own (1+j) 1 0 n else .f nilV
section
variable {n x i j k N : Nat} {W : Bx}
theorem rowsW_len:(rowsW n W x).length=x:=by simp [rowsW]
theorem objLt_oes {e:TypeId} (h:x<N):objLt N ⟨e,1,oes n x⟩=True:=propext ⟨fun _=>trivial,fun _ y hy=>by
 obtain ⟨j,_,rfl⟩:=List.mem_map.1 (show y∈oes n x from hy)
 split
 ·exact decide_eq_true (show 1+j<N by omega)
 ·rfl⟩
theorem objLt_oesl {e:TypeId} {r:Nat} {l:List FV} (h:x<N) (hr:r<N):objLt N ⟨e,1,(oes n x).set i (sl r 1 l)⟩=True:=propext ⟨fun _=>trivial,fun _ y hy=>by
 rcases List.mem_or_eq_of_mem_set (show y∈(oes n x).set i (sl r 1 l) from hy) with hy|rfl
 ·obtain ⟨j,_,rfl⟩:=List.mem_map.1 (show y∈oes n x from hy)
  split
  ·exact decide_eq_true (show 1+j<N by omega)
  ·rfl
 ·cases l with
  | nil=>rfl
  | cons a l=>exact decide_eq_true hr⟩
variable {E : Bx}
end
attribute [go_sem] rowsW_len objLt_oes objLt_oesl
end Go.Proofs.YtfjgijkhmhhkdaaGreatDoor
set_option linter.unusedVariables false
set_option linter.unusedSimpArgs false
namespace Go.Proofs.YtfjgijkhmhhkdaaGreatDoor
open Go Go.RowKit
def rowQ (n:Nat) (M:Mx) (i:Nat):List FV:=(List.range n).map fun k=>fr (M i k)
def rowsQ (n c:Nat) (M:Mx) (x:Nat):List (List FV):=(List.range x).map (rowQ c M)
def oeG (n c x:Nat) (d:Nat→FV):List AV:=(List.range n).map fun j=>if j<x then .own (1+j) 3 0 c else .f (d j)
section
variable {n c x i j k N : Nat} {M : Mx} {d : Nat → FV}
theorem rowsQ_len:(rowsQ n c M x).length=x:=by simp [rowsQ]
theorem objLt_oeG {e:TypeId} (h:x<N):objLt N ⟨e,1,oeG n c x d⟩=True:=propext ⟨fun _=>trivial,fun _ y hy=>by
 obtain ⟨j,_,rfl⟩:=List.mem_map.1 (show y∈oeG n c x d from hy)
 split
 ·exact decide_eq_true (show 1+j<N by omega)
 ·rfl⟩
theorem objLt_oeGo {e:TypeId} {r z o k:Nat} (h:x<N) (hr:r<N):objLt N ⟨e,1,(oeG n c x d).set i (.own r z o k)⟩=True:=propext ⟨fun _=>trivial,fun _ y hy=>by
 rcases List.mem_or_eq_of_mem_set (show y∈(oeG n c x d).set i (.own r z o k) from hy) with hy|rfl
 ·obtain ⟨j,_,rfl⟩:=List.mem_map.1 (show y∈oeG n c x d from hy)
  split
  ·exact decide_eq_true (show 1+j<N by omega)
  ·rfl
 ·exact decide_eq_true hr⟩
end
attribute [go_sem] rowsQ_len objLt_oeG objLt_oeGo
end Go.Proofs.YtfjgijkhmhhkdaaGreatDoor
set_option linter.unusedVariables false
set_option linter.unusedSimpArgs false
namespace Go.Proofs.YtfjgijkhmhhkdaaGreatDoor
open Go Go.RowKit
def Ns (l:List Nat):List FV:=l.map fun k:Nat=>I (k:Int)
theorem Ns_len {l:List Nat}:(Ns l).length=l.length:=by unfold Ns;rw [List.length_map]
theorem Ns_get {l:List Nat} {i:Nat} (h:i<l.length):(Ns l)[i]?=some (I (l.getD i 0:Nat)):=by
 unfold Ns;rw [map_get (fun k:Nat=>I (k:Int)) l h,lget_lt l 0 h]
end Go.Proofs.YtfjgijkhmhhkdaaGreatDoor
set_option linter.unusedVariables false
set_option linter.unusedSimpArgs false
namespace Go.Proofs.YtfjgijkhmhhkdaaGreatDoor
open Go Go.RowKit
section
variable {n i k x : Nat} {R : Bx}
end
end Go.Proofs.YtfjgijkhmhhkdaaGreatDoor
set_option linter.unusedVariables false
set_option linter.unusedSimpArgs false
namespace Go.Proofs.YtfjgijkhmhhkdaaGreatDoor
open Go Go.RowKit
def wM (m:List (List Rat)) (l:List Nat):Mx:=fun i k=>if i=0 then 1 else at2 m (l.getD k 0) (l.getD i 0)-(if l.getD k 0=l.getD i 0 then 1 else 0)
def wTo (m:List (List Rat)) (l:List Nat) (i x:Nat):List FV:=(List.range x).map fun k=>fr (wM m l i k)
section
variable {m : List (List Rat)} {l : List Nat} {i x : Nat}
theorem wTo_zero:wTo m l i 0=[]:=rfl
end
attribute [go_sem] wTo_zero
end Go.Proofs.YtfjgijkhmhhkdaaGreatDoor
set_option linter.unusedVariables false
set_option linter.unusedSimpArgs false
namespace Go.Proofs.YtfjgijkhmhhkdaaGreatDoor
open Go Go.RowKit
section
variable {n x : Nat} {l : List Nat} {sol : List Rat}
end
end Go.Proofs.YtfjgijkhmhhkdaaGreatDoor
set_option linter.unusedVariables false
set_option linter.unusedSimpArgs false
namespace Go.Proofs.YtfjgijkhmhhkdaaGreatDoor
open Go Go.RowKit
section
variable {m : List (List Rat)} {l : List Nat} {L : Nat}
end
end Go.Proofs.YtfjgijkhmhhkdaaGreatDoor
set_option linter.unusedVariables false
set_option linter.unusedSimpArgs false
namespace Go.Proofs.YtfjgijkhmhhkdaaGreatDoor
open Go Go.RowKit
end Go.Proofs.YtfjgijkhmhhkdaaGreatDoor
set_option linter.unusedVariables false
set_option linter.unusedSimpArgs false
namespace Go.Proofs.YtfjgijkhmhhkdaaGreatDoor
open Go Go.RowKit
def tTo (p:List Rat) (m:List (List Rat)) (x:Nat):List FV:=(List.range x).map fun k=>fr (sumF (fun i=>p.getD i 0*at2 m i k) m.length)
section
variable {a b : Nat} {ps ys : List FV} {p : List Rat} {m : List (List Rat)} {x : Nat}
theorem tTo_zero:tTo p m 0=[]:=rfl
attribute [go_sem] tTo_zero
end
def pRw (m:List (List Rat)) (d i:Nat):List Rat:=(List.range m.length).map (powM m.length (at2 m) d i)
def pTo (m:List (List Rat)) (k x:Nat):List FV:=(List.range x).map fun i=>frs (pRw m k i)
def eTo (i x:Nat):List FV:=(List.range x).map fun k=>fr (idM i k)
section
variable {b : Nat} {ys : List FV} {m : List (List Rat)} {d i k x : Nat}
theorem pTo_zero:pTo m k 0=[]:=rfl
theorem eTo_zero:eTo i 0=[]:=rfl
attribute [go_sem] pTo_zero eTo_zero
end
end Go.Proofs.YtfjgijkhmhhkdaaGreatDoor
