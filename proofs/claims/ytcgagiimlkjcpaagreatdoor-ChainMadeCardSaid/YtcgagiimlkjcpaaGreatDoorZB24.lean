/- What is still, by trees: plain Lean. Conditions: none. -/
import Derived.Test.YtcgagiimlkjcpaaGreatDoorZB21
import Derived.Test.YtcgagiimlkjcpaaGreatDoorZB14
import Derived.Test.YtcgagiimlkjcpaaGreatDoorZB08
import Derived.Test.YtcgagiimlkjcpaaGreatDoorZB19
set_option linter.unusedVariables false
set_option linter.unusedSimpArgs false
namespace Go.Proofs.YtcgagiimlkjcpaaGreatDoor
open Go Go.RowKit
abbrev Fn:=Nat→Nat
def it (f:Fn):Nat→Nat→Nat
 | 0,i=>i
 | n+1,i=>f (it f n i)
def upd (f:Fn) (a k:Nat):Fn:=fun i=>if i=a then k else f i
def allTo (L r:Nat) (f:Fn):Bool:=(List.range L).all fun i=>(List.range (L+1)).any fun n=>it f n i==r
section
variable {L r k n i j a c d at_ : Nat} {f g : Fn}
theorem it_add:∀m,it f (m+n) i=it f m (it f n i):=by
 intro m
 induction m with
 | zero=>rw [Nat.zero_add];rfl
 | succ m ih=>rw [show m+1+n=(m+n)+1 by omega];show f (it f (m+n) i)=f (it f m (it f n i));rw [ih]
theorem it_lt (hf:∀i,i<L→f i<L) (hi:i<L):∀n,it f n i<L:=by
 intro n
 induction n with
 | zero=>exact hi
 | succ n ih=>exact hf _ ih
theorem least {p:Nat→Prop}:∀{n:Nat},p n→∃m,p m∧∀j,j<m→¬p j:=by
 intro n
 induction n using Nat.strongRecOn with
 | ind n ih =>
  intro h
  by_cases hl:∃j,j<n∧p j
  ·obtain ⟨j,hj,hp⟩:=hl
   exact ih j hj hp
  ·exact ⟨n,h,fun j hj hp=>hl ⟨j,hj,hp⟩⟩
theorem it_short (hf:∀i,i<L→f i<L) (hi:i<L) (h:it f n i=r):∃m,m≤L∧it f m i=r:=by
 obtain ⟨m,hm,hmin⟩:=least (p:=fun n=>it f n i=r) h
 refine ⟨m,?_,hm⟩
 have hd:((List.range m).map fun q=>it f q i).Nodup:=by
  refine List.nodup_iff_pairwise_ne.2 (List.pairwise_map.2 ?_)
  refine List.Pairwise.imp_of_mem (fun {a b} ha hb hab=>?_) List.pairwise_lt_range
  intro e
  have hb:=List.mem_range.1 hb
  refine hmin (m-b+a) (by omega) ?_
  show it f (m-b+a) i=r
  rw [it_add,e,←it_add,show m-b+b=m by omega]
  exact hm
 have:=nodup_le (n:=L) hd fun a ha=>by
  obtain ⟨q,_,rfl⟩:=List.mem_map.1 ha
  exact it_lt hf hi q
 rw [List.length_map,List.length_range] at this
 exact this
theorem allTo_iff (hf:∀i,i<L→f i<L):allTo L r f=true↔∀i,i<L→∃n,it f n i=r:=by
 unfold allTo
 rw [List.all_eq_true]
 constructor
 ·intro h i hi
  obtain ⟨n,_,e⟩:=List.any_eq_true.1 (h i (List.mem_range.2 hi))
  exact ⟨n,eq_of_beq e⟩
 ·intro h i hi
  have hi:=List.mem_range.1 hi
  obtain ⟨n,hn⟩:=h i hi
  obtain ⟨m,hm,e⟩:=it_short hf hi hn
  exact List.any_eq_true.2 ⟨m,List.mem_range.2 (by omega),by rw [e];exact beq_self_eq_true r⟩
theorem cyc_one (hf:∀i,i<L→f i<L) (hk:k<L) (h1:f k≠k) (h2:allTo L k f=true):∃i,i<L∧(i≠k∧f i=k∧allTo L i f=true)∧∀j,j<L→(j≠k∧f j=k∧allTo L j f=true)→j=i:=by
 have ht:=(allTo_iff hf).1 h2
 obtain ⟨n0,hn0⟩:=ht (f k) (hf k hk)
 obtain ⟨m,hm,hmin⟩:=least (p:=fun n=>it f n (f k)=k) hn0
 cases m with
 | zero=>exact absurd hm h1
 | succ m =>
  have hiL:=it_lt hf (hf k hk) m
  obtain ⟨i,hi⟩:∃i,i=it f m (f k):=⟨_,rfl⟩
  rw [←hi] at hiL
  have hfi:f i=k:=by rw [hi];exact hm
  have hik:i≠k:=fun e=>hmin m (by omega) (by rw [←hi];exact e)
  have hki:it f (m+1) k=i:=by
   rw [hi,it_add (n:=1)];rfl
  have hTi:allTo L i f=true:=(allTo_iff hf).2 fun v hv=>by
   obtain ⟨n,hn⟩:=ht v hv
   exact ⟨m+1+n,by rw [it_add,hn];exact hki⟩
  refine ⟨i,hiL,⟨hik,hfi,hTi⟩,fun j hj ⟨hjk,hfj,hTj⟩=>?_⟩
  -- the way from k comes to both; whichever comes first turns back to k
  have key:∀x y:Nat,f x=k→x<L→y<L→(∃n,it f n k=x)→(∃n,it f n k=y)→(∀p q,it f p k=x→(∀s,s<p→it f s k≠x)→it f q k=y→(∀s,s<q→it f s k≠y)→¬p<q):=fun x y hfx _ _ _ _ p q hp _ hq hqm hlt=>by
   have hper:∀t,it f (t*(p+1)) k=k:=fun t=>by
    induction t with
    | zero=>rw [Nat.zero_mul];rfl
    | succ t ih=>rw [Nat.succ_mul,Nat.add_comm,it_add,ih];show f (it f p k)=k;rw [hp];exact hfx
   have hmod:it f (q%(p+1)) k=y:=by
    have:=Nat.mod_add_div q (p+1)
    rw [Nat.mul_comm] at this
    rw [←hq]
    conv=>rhs;rw [←this]
    rw [it_add,hper]
   exact hqm (q%(p+1)) (by have:=Nat.mod_lt q (show 0<p+1 by omega);omega) hmod
  have exi:∃n,it f n k=i:=⟨_,hki⟩
  have exj:∃n,it f n k=j:=(allTo_iff hf).1 hTj k hk
  obtain ⟨p,hp,hpm⟩:=least (p:=fun n=>it f n k=i) hki
  obtain ⟨q0,hq0⟩:=exj
  obtain ⟨q,hq,hqm⟩:=least (p:=fun n=>it f n k=j) hq0
  have n1:=key i j hfi hiL hj exi ⟨_,hq0⟩ p q hp hpm hq hqm
  have n2:=key j i hfj hj hiL ⟨_,hq0⟩ exi q p hq hqm hp hpm
  have:p=q:=by omega
  rw [←hq,←this];exact hp
theorem cyc_back (hf:∀i,i<L→f i<L) (hk:k<L) (hi:i<L) (h1:i≠k) (h2:f i=k) (h3:allTo L i f=true):f k≠k∧allTo L k f=true:=by
 have ht:=(allTo_iff hf).1 h3
 constructor
 ·intro e
  have hs:∀n,it f n k=k:=fun n=>by
   induction n with
   | zero=>rfl
   | succ n ih=>show f (it f n k)=k;rw [ih];exact e
  obtain ⟨n,hn⟩:=ht k hk
  exact h1 (hn.symm.trans (hs n))
 ·exact (allTo_iff hf).2 fun v hv=>by
   obtain ⟨n,hn⟩:=ht v hv
   exact ⟨n+1,by show f (it f n v)=k;rw [hn];exact h2⟩
theorem allTo_upd (hf:∀i,i<L→f i<L) (hj:j<L):allTo L k (upd f k j)=allTo L k f:=by
 have hu:∀g:Fn,(∀i,i<L→g i<L)→∀j,j<L→∀i,i<L→upd g k j i<L:=fun g hg j hj i hi=>by unfold upd;split;exact hj;exact hg i hi
 have key:∀(g:Fn) j,(∀i,i<L→g i<L)→j<L→(∀i,i<L→∃n,it g n i=k)→∀i,i<L→∃n,it (upd g k j) n i=k:=fun g j hg hj h i hi=>by
  obtain ⟨n0,h0⟩:=h i hi
  obtain ⟨n,hn,hmin⟩:=least (p:=fun n=>it g n i=k) h0
  have:∀m,m≤n→it (upd g k j) m i=it g m i:=fun m=>by
   induction m with
   | zero=>intro _;rfl
   | succ m ih =>
    intro hm
    show upd g k j (it (upd g k j) m i)=g (it g m i)
    rw [ih (by omega)]
    unfold upd
    rw [if_neg (hmin m (by omega))]
  exact ⟨n,by rw [this n (Nat.le_refl _)];exact hn⟩
 have hback:upd (upd f k j) k (f k)=f:=by
  funext i
  unfold upd
  by_cases e:i=k
  ·rw [if_pos e,e]
  ·rw [if_neg e,if_neg e]
 by_cases hkL:k<L
 ·rw [Bool.eq_iff_iff,allTo_iff (hu f hf j hj),allTo_iff hf]
  refine ⟨fun h=>?_,key f j hf hj⟩
  have:=key (upd f k j) (f k) (hu f hf j hj) (hf k hkL) h
  rwa [hback] at this
 ·rw [Bool.eq_iff_iff,allTo_iff (hu f hf j hj),allTo_iff hf]
  have same:∀i,i<L→∀n,it (upd f k j) n i=it f n i∧it f n i<L:=fun i hi n=>by
   induction n with
   | zero=>exact ⟨rfl,hi⟩
   | succ n ih =>
    refine ⟨?_,hf _ ih.2⟩
    show upd f k j (it (upd f k j) n i)=f (it f n i)
    rw [ih.1]
    unfold upd
    rw [if_neg (by have:=ih.2;omega)]
  exact ⟨fun h i hi=>by obtain ⟨n,hn⟩:=h i hi;exact ⟨n,by rw [←(same i hi n).1];exact hn⟩,fun h i hi=>by obtain ⟨n,hn⟩:=h i hi;exact ⟨n,by rw [(same i hi n).1];exact hn⟩⟩
end
def sumB (L:Nat) (F:Fn→Rat):Nat→Nat→Fn→Rat
 | 0,_,g=>F g
 | d+1,p,g=>sumF (fun k=>sumB L F d (p+1) (upd g p k)) L
section
variable {L k n i j a c : Nat} {F G : Fn → Rat}
theorem upd_self {f:Fn}:upd f a k a=k:=if_pos rfl
theorem upd_ne {f:Fn} (h:i≠a):upd f a k i=f i:=if_neg h
theorem upd_comm {f:Fn} (h:a≠c):upd (upd f a i) c j=upd (upd f c j) a i:=by
 funext q
 unfold upd
 by_cases e1:q=c
 ·rw [if_pos e1,if_neg (by omega),if_pos e1]
 ·by_cases e2:q=a
  ·rw [if_neg e1,if_pos e2,if_pos e2]
  ·rw [if_neg e1,if_neg e2,if_neg e2,if_neg e1]
theorem sumB_congr:∀{d p:Nat} {g:Fn},(∀f:Fn,(∀i,i<p→f i=g i)→(∀i,p≤i→i<p+d→f i<L)→F f=G f)→sumB L F d p g=sumB L G d p g:=by
 intro d
 induction d with
 | zero=>intro p g h;exact h g (fun _ _=>rfl) fun i h1 h2=>by omega
 | succ d ih =>
  intro p g h
  refine sumF_congr fun k hk=>ih fun f h1 h2=>h f (fun i hi=>?_) fun i h3 h4=>?_
  ·rw [h1 i (by omega),upd_ne (by omega)]
  ·by_cases e:i=p
   ·rw [e,h1 p (by omega),upd_self];exact hk
   ·exact h2 i (by omega) (by omega)
theorem sumB_mul (q:Rat):∀{d p:Nat} {g:Fn},q*sumB L F d p g=sumB L (fun f=>q*F f) d p g:=by
 intro d
 induction d with
 | zero=>intro p g;rfl
 | succ d ih =>
  intro p g
  show q*sumF _ L=sumF _ L
  rw [sumF_mul]
  exact sumF_congr fun k _=>ih
theorem sumB_sum (H:Nat→Fn→Rat) (m:Nat):∀{d p:Nat} {g:Fn},sumF (fun k=>sumB L (H k) d p g) m=sumB L (fun f=>sumF (fun k=>H k f) m) d p g:=by
 intro d
 induction d with
 | zero=>intro p g;rfl
 | succ d ih =>
  intro p g
  show sumF (fun k=>sumF (fun q=>sumB L (H k) d (p+1) (upd g p q)) L) m=sumF _ L
  rw [sumF_swap]
  exact sumF_congr fun q _=>ih
theorem sumB_nonneg (h:∀f:Fn,0≤F f):∀{d p:Nat} {g:Fn},0≤sumB L F d p g:=by
 intro d
 induction d with
 | zero=>intro p g;exact h g
 | succ d ih=>intro p g;exact sumF_nonneg fun k _=>ih
theorem sumB_ge (h:∀f:Fn,0≤F f) {f:Fn}:∀{d p:Nat} {g:Fn},(∀i,p≤i→i<p+d→f i<L)→F (fun i=>if p≤i∧i<p+d then f i else g i)≤sumB L F d p g:=by
 intro d
 induction d with
 | zero =>
  intro p g _
  show _≤F g
  have:(fun i=>if p≤i∧i<p+0 then f i else g i)=g:=by funext i;rw [if_neg (by omega)]
  rw [this];exact Rat.le_refl
 | succ d ih =>
  intro p g hf
  have h1:=ih (p:=p+1) (g:=upd g p (f p)) fun i a b=>hf i (by omega) (by omega)
  have e:(fun i=>if p+1≤i∧i<p+1+d then f i else upd g p (f p) i)=fun i=>if p≤i∧i<p+(d+1) then f i else g i:=by
   funext i
   by_cases e:i=p
   ·rw [if_neg (by omega),if_pos (by omega),e,upd_self]
   ·rw [upd_ne e]
    by_cases e2:p+1≤i∧i<p+1+d
    ·rw [if_pos e2,if_pos (by omega)]
    ·rw [if_neg e2,if_neg (by omega)]
  rw [e] at h1
  exact Rat.le_trans h1 (sumF_ge (f:=fun k=>sumB L F d (p+1) (upd g p k)) (fun k _=>sumB_nonneg h) (hf p (by omega) (by omega)))
theorem sumB_fix:∀{d p:Nat} {g:Fn},c<p→sumB L (fun f=>F (upd f c j)) d p g=sumB L F d p (upd g c j):=by
 intro d
 induction d with
 | zero=>intro p g _;rfl
 | succ d ih =>
  intro p g h
  refine sumF_congr fun k _=>?_
  rw [ih (by omega),upd_comm (by omega)]
theorem sumB_part (c0:Nat) (h0:c0<L):∀{d p:Nat} {g:Fn},p≤c→c<p+d→sumB L F d p g=sumB L (fun f=>if f c=c0 then sumF (fun j=>F (upd f c j)) L else 0) d p g:=by
 intro d
 induction d with
 | zero=>intro p g h1 h2;omega
 | succ d ih =>
  intro p g h1 h2
  by_cases e:c=p
  ·subst e
   show sumF _ L=sumF _ L
   have hz:∀k,k<L→k≠c0→sumB L (fun f=>if f c=c0 then sumF (fun j=>F (upd f c j)) L else 0) d (c+1) (upd g c k)=0:=fun k hk hne=>by
    rw [sumB_congr (G:=fun _=>0*0) fun f hf _=>?_]
    ·rw [←sumB_mul 0 (F:=fun _=>(0:Rat)),Rat.zero_mul]
    ·rw [hf c (by omega),upd_self,if_neg hne,Rat.zero_mul]
   rw [sumF_single (f:=fun k=>sumB L (fun f=>if f c=c0 then sumF (fun j=>F (upd f c j)) L else 0) d (c+1) (upd g c k)) (i:=c0) hz h0]
   have h3:sumB L (fun f=>if f c=c0 then sumF (fun j=>F (upd f c j)) L else 0) d (c+1) (upd g c c0)=sumB L (fun f=>sumF (fun j=>F (upd f c j)) L) d (c+1) (upd g c c0):=sumB_congr fun f hf _=>by
    rw [hf c (by omega),upd_self,if_pos rfl]
   rw [h3,←sumB_sum]
   refine sumF_congr fun k _=>?_
   rw [sumB_fix (by omega)]
   congr 1
   funext q
   unfold upd
   by_cases e:q=c
   ·rw [if_pos e,if_pos e]
   ·rw [if_neg e,if_neg e,if_neg e]
  ·exact sumF_congr fun k _=>ih (by omega) (by omega)
end
def sumA (L:Nat) (F:Fn→Rat):Rat:=sumB L F L 0 (fun _=>0)
def wtP (L:Nat) (Q:Mx) (r:Nat) (f:Fn):Rat:=prodF (fun a=>if a=r then 1 else Q a (f a)) L
def allP (L:Nat) (Q:Mx) (f:Fn):Rat:=prodF (fun a=>Q a (f a)) L
def treW (L:Nat) (Q:Mx) (r:Nat):Rat:=sumA L fun f=>if f r=r∧allTo L r f=true then wtP L Q r f else 0
section
variable {L k i j r n : Nat} {Q : Mx} {h : Nat → Rat} {p : Nat → Rat}
theorem prodF_at (hk:k<n):prodF h n=h k*prodF (fun a=>if a=k then 1 else h a) n:=by
 induction n with
 | zero=>omega
 | succ n ih =>
  show prodF h n*h n=h k*(prodF (fun a=>if a=k then 1 else h a) n*(if n=k then 1 else h n))
  by_cases e:n=k
  ·subst e
   rw [if_pos rfl,Rat.mul_one,Rat.mul_comm]
   congr 1
   exact prodF_congr fun a ha=>by rw [if_neg (by omega)]
  ·rw [if_neg e,ih (by omega)];grind
theorem allP_upd {f:Fn} (hk:k<L):allP L Q (upd f k j)=Q k j*wtP L Q k f:=by
 unfold allP wtP
 rw [prodF_at (k:=k) hk,upd_self]
 congr 1
 refine prodF_congr fun a _=>?_
 by_cases e:a=k
 ·rw [if_pos e,if_pos e]
 ·rw [if_neg e,if_neg e,upd_ne e]
theorem tree_out (hk:k<L):treW L Q k*sumF (fun j=>if j=k then 0 else Q k j) L=sumA L fun f=>if f k≠k∧allTo L k f=true then allP L Q f else 0:=by
 rw [Rat.mul_comm]
 unfold treW sumA
 rw [sumB_mul,sumB_part (c:=k) (F:=fun f=>if f k≠k∧allTo L k f=true then allP L Q f else 0) k hk (Nat.zero_le _) (by omega)]
 refine sumB_congr fun f _ hf=>?_
 have hfL:∀i,i<L→f i<L:=fun i hi=>hf i (Nat.zero_le _) (by omega)
 by_cases e:f k=k
 ·rw [if_pos e]
  by_cases ht:allTo L k f=true
  ·rw [if_pos ⟨e,ht⟩,sumF_mulr]
   refine sumF_congr fun j hj=>?_
   show (if j=k then 0 else Q k j)*wtP L Q k f=if upd f k j k≠k∧allTo L k (upd f k j)=true then allP L Q (upd f k j) else 0
   rw [upd_self,allTo_upd hfL hj,allP_upd hk]
   by_cases ej:j=k
   ·rw [if_pos ej,if_neg (fun h=>h.1 ej),Rat.zero_mul]
   ·rw [if_neg ej,if_pos ⟨ej,ht⟩]
  ·rw [if_neg (fun h=>ht h.2),Rat.mul_zero]
   refine (sumF_eq_zero fun j hj=>?_).symm
   show (if upd f k j k≠k∧allTo L k (upd f k j)=true then allP L Q (upd f k j) else 0)=0
   rw [allTo_upd hfL hj,if_neg (fun h=>ht h.2)]
 ·rw [if_neg e,if_neg (fun h=>e h.1),Rat.mul_zero]
theorem tree_in (hi:i<L) (hk:k<L):treW L Q i*Q i k=sumA L fun f=>if f i=k∧allTo L i f=true then allP L Q f else 0:=by
 rw [Rat.mul_comm]
 unfold treW sumA
 rw [sumB_mul,sumB_part (c:=i) (F:=fun f=>if f i=k∧allTo L i f=true then allP L Q f else 0) i hi (Nat.zero_le _) (by omega)]
 refine sumB_congr fun f _ hf=>?_
 have hfL:∀i,i<L→f i<L:=fun i hi=>hf i (Nat.zero_le _) (by omega)
 by_cases e:f i=i
 ·rw [if_pos e]
  have hs:sumF (fun j=>if upd f i j i=k∧allTo L i (upd f i j)=true then allP L Q (upd f i j) else 0) L=if allTo L i f=true then Q i k*wtP L Q i f else 0:=by
   rw [sumF_single (i:=k) (fun j hj hne=>by rw [if_neg (fun h=>hne (by rw [←h.1,upd_self]))]) hk,upd_self,allTo_upd hfL hk,allP_upd hi]
   by_cases ht:allTo L i f=true
   ·rw [if_pos ⟨rfl,ht⟩,if_pos ht]
   ·rw [if_neg (fun h=>ht h.2),if_neg ht]
  refine Eq.trans ?_ hs.symm
  by_cases ht:allTo L i f=true
  ·rw [if_pos ⟨e,ht⟩,if_pos ht]
  ·rw [if_neg (fun h=>ht h.2),if_neg ht,Rat.mul_zero]
 ·rw [if_neg e,if_neg (fun h=>e h.1),Rat.mul_zero]
theorem tree_bal (hk:k<L):sumF (fun i=>if i=k then 0 else treW L Q i*Q i k) L=treW L Q k*sumF (fun j=>if j=k then 0 else Q k j) L:=by
 rw [tree_out hk]
 have e:sumF (fun i=>if i=k then 0 else treW L Q i*Q i k) L=sumF (fun i=>sumA L fun f=>if i≠k∧f i=k∧allTo L i f=true then allP L Q f else 0) L:=sumF_congr fun i hi=>by
  by_cases ei:i=k
  ·rw [if_pos ei]
   unfold sumA
   rw [sumB_congr (G:=fun _=>0*0) fun f _ _=>by rw [if_neg (fun h=>h.1 ei),Rat.zero_mul]]
   rw [←sumB_mul 0 (F:=fun _=>(0:Rat)),Rat.zero_mul]
  ·rw [if_neg ei,tree_in hi hk]
   unfold sumA
   exact sumB_congr fun f _ _=>by
    by_cases hc:f i=k∧allTo L i f=true
    ·rw [if_pos hc,if_pos ⟨ei,hc⟩]
    ·rw [if_neg hc,if_neg (fun h=>hc h.2)]
 rw [e]
 unfold sumA
 rw [sumB_sum]
 refine sumB_congr fun f _ hf=>?_
 have hfL:∀i,i<L→f i<L:=fun i hi=>hf i (Nat.zero_le _) (by omega)
 by_cases hc:f k≠k∧allTo L k f=true
 ·obtain ⟨i0,hi0,hc0,huq⟩:=cyc_one hfL hk hc.1 hc.2
  rw [if_pos hc,sumF_single (i:=i0) (fun j hj hne=>by rw [if_neg (fun h=>hne (huq j hj h))]) hi0,if_pos hc0]
 ·rw [if_neg hc]
  exact sumF_eq_zero fun i hi=>by rw [if_neg (fun h=>hc (cyc_back hfL hk hi h.1 h.2.1 h.2.2))]
theorem tree_stat (hs:∀i,i<L→sumF (Q i) L=1):Stat L Q (treW L Q):=fun k hk=>by
 have hb:=tree_bal (Q:=Q) hk
 have split:∀g:Nat→Rat,sumF g L=sumF (fun j=>if j=k then 0 else g j) L+g k:=fun g=>by
  have:sumF (fun j=>if j=k then g j else 0) L=g k:=by
   rw [sumF_single (i:=k) (fun j _ hne=>by rw [if_neg hne]) hk,if_pos rfl]
  rw [←this,←sumF_add]
  refine sumF_congr fun j _=>?_
  by_cases e:j=k
  ·rw [if_pos e,if_pos e,Rat.zero_add]
  ·rw [if_neg e,if_neg e,Rat.add_zero]
 rw [split,hb]
 have:=split (Q k)
 rw [hs k hk] at this
 grind
theorem wtP_nonneg (h:∀i k,0≤Q i k) {f:Fn}:0≤wtP L Q r f:=by
 unfold wtP
 have:∀n,0≤prodF (fun a=>if a=r then 1 else Q a (f a)) n:=fun n=>by
  induction n with
  | zero=>show (0:Rat)≤1;decide
  | succ n ih =>
   refine Rat.mul_nonneg ih ?_
   show (0:Rat)≤if n=r then 1 else Q n (f n)
   split
   ·decide
   ·exact h _ _
 exact this L
theorem tre_nonneg (h:∀i k,0≤Q i k):0≤treW L Q r:=sumB_nonneg fun f=>by
 show (0:Rat)≤if _ then _ else _
 split
 ·exact wtP_nonneg h
 ·exact Rat.le_refl
def wayN (L:Nat) (Q:Mx) (r:Nat):Nat→Nat→Prop
 | 0,v=>v=r
 | n+1,v=>∃k,k<L∧0<Q v k∧wayN L Q r n k
theorem tre_pos (h:Irr L Q) (hr:r<L):0<treW L Q r:=by
 have hway:∀v,v<L→∃n,wayN L Q r n v:=fun v hv=>by
  have key:∀j,Star L (posE Q) v j→∀n,wayN L Q r n j→∃n',wayN L Q r n' v:=fun j hst=>by
   induction hst with
   | refl=>exact fun n hn=>⟨n,hn⟩
   | step hst hk he ih=>exact fun n hn=>ih (n+1) ⟨_,hk,of_decide_eq_true he,hn⟩
  exact key r (h.con v r hv hr) 0 rfl
 have hleast:∀v,v<L→∃n,wayN L Q r n v∧∀j,j<n→¬wayN L Q r j v:=fun v hv=>by
  obtain ⟨n,hn⟩:=hway v hv
  exact least (p:=fun n=>wayN L Q r n v) hn
 have hnext:∀v,∃k,(v<L→v≠r→k<L∧0<Q v k∧∀n,(wayN L Q r n v∧∀j,j<n→¬wayN L Q r j v)→∃m,m<n∧wayN L Q r m k)∧(v<L→v=r→k=r)∧(L≤v→k=0):=fun v=>by
  by_cases hv:v<L
  ·by_cases e:v=r
   ·exact ⟨r,fun _ hne=>absurd e hne,fun _ _=>rfl,fun h=>by omega⟩
   ·obtain ⟨n,hn,hm⟩:=hleast v hv
    cases n with
    | zero=>exact absurd hn e
    | succ n =>
     obtain ⟨k,hk,hq,hw⟩:=hn
     refine ⟨k,fun _ _=>⟨hk,hq,fun n' ⟨h1,h2⟩=>?_⟩,fun _ h=>absurd h e,fun h=>by omega⟩
     have:n'=n+1:=by
      rcases Nat.lt_trichotomy n' (n+1) with hlt|heq|hgt
      ·exact absurd h1 (hm n' hlt)
      ·exact heq
      ·exact absurd ⟨k,hk,hq,hw⟩ (h2 (n+1) hgt)
     exact ⟨n,by omega,hw⟩
  ·exact ⟨0,fun h=>absurd h hv,fun h=>absurd h hv,fun _=>rfl⟩
 obtain ⟨f,hf⟩:∃f:Fn,∀v,(v<L→v≠r→f v<L∧0<Q v (f v)∧∀n,(wayN L Q r n v∧∀j,j<n→¬wayN L Q r j v)→∃m,m<n∧wayN L Q r m (f v))∧(v<L→v=r→f v=r)∧(L≤v→f v=0):=⟨fun v=>(hnext v).choose,fun v=>(hnext v).choose_spec⟩
 have hfL:∀i,i<L→f i<L:=fun i hi=>by
  by_cases e:i=r
  ·rw [(hf i).2.1 hi e];exact hr
  ·exact ((hf i).1 hi e).1
 have hall:allTo L r f=true:=(allTo_iff hfL).2 fun v hv=>by
  have key:∀n v,v<L→wayN L Q r n v→∃m,it f m v=r:=fun n=>by
   induction n using Nat.strongRecOn with
   | ind n ih =>
    intro v hv hw
    by_cases e:v=r
    ·exact ⟨0,e⟩
    ·obtain ⟨n0,hn0,hm0⟩:=least (p:=fun n=>wayN L Q r n v) hw
     have hle:n0≤n:=Nat.not_lt.1 fun hlt=>hm0 n hlt hw
     obtain ⟨h1,_,h3⟩:=(hf v).1 hv e
     obtain ⟨m,hmn,hwm⟩:=h3 n0 ⟨hn0,hm0⟩
     obtain ⟨q,hq⟩:=ih m (by omega) (f v) h1 hwm
     exact ⟨q+1,by rw [it_add];exact hq⟩
  obtain ⟨n,hn⟩:=hway v hv
  exact key n v hv hn
 have hge:=sumB_ge (L:=L) (F:=fun f=>if f r=r∧allTo L r f=true then wtP L Q r f else 0) (fun f=>by
  show (0:Rat)≤if _ then _ else _
  split
  ·exact wtP_nonneg h.nonneg
  ·exact Rat.le_refl) (f:=f) (d:=L) (p:=0) (g:=fun _=>0) fun i _ hi=>hfL i (by omega)
 have e:(fun i=>if 0≤i∧i<0+L then f i else (fun _=>0) i)=f:=by
  funext i
  by_cases hi:i<L
  ·rw [if_pos (by omega)]
  ·rw [if_neg (by omega),(hf i).2.2 (by omega)]
 rw [e] at hge
 have hw:0<wtP L Q r f:=prodF_pos fun a ha=>by
  by_cases ea:a=r
  ·rw [if_pos ea];decide
  ·rw [if_neg ea];exact ((hf a).1 ha ea).2.1
 have hv:(if f r=r∧allTo L r f=true then wtP L Q r f else 0)=wtP L Q r f:=if_pos ⟨(hf r).2.1 hr rfl,hall⟩
 rw [hv] at hge
 exact Std.lt_of_lt_of_le hw hge
theorem tree_thm (h:Irr L Q) (h0:0<L) (hp:Stat L Q p) (h1:sumF p L=1):∀i,i<L→treW L Q i/sumF (treW L Q) L=p i:=by
 have hW:0<sumF (treW L Q) L:=Std.lt_of_lt_of_le (tre_pos h h0) (sumF_ge (f:=treW L Q) (fun k _=>tre_nonneg h.nonneg) h0)
 obtain ⟨c,hc⟩:∃c,c=(sumF (treW L Q) L)⁻¹:=⟨_,rfl⟩
 have hst:Stat L Q fun i=>treW L Q i*c:=fun k hk=>by
  have e:sumF (fun i=>treW L Q i*c*Q i k) L=sumF (fun i=>treW L Q i*Q i k) L*c:=by
   rw [sumF_mulr];exact sumF_congr fun i _=>by grind
  rw [e,tree_stat (fun i hi=>h.sum i hi) k hk]
 have hsum:sumF (fun i=>treW L Q i*c) L=1:=by rw [←sumF_mulr,hc];exact Rat.mul_inv_cancel _ (Rat.ne_of_gt hW)
 intro i hi
 rw [Rat.div_def,←hc]
 exact stat_unique h hp hst (by rw [h1,hsum]) i hi
end
end Go.Proofs.YtcgagiimlkjcpaaGreatDoor
set_option linter.unusedVariables false
set_option linter.unusedSimpArgs false
namespace Go.Proofs.YtcgagiimlkjcpaaGreatDoor
open Go Go.RowKit
def trS (L:Nat) (Q:Mx) (r:Nat):Nat→Nat→Fn→Rat
 | 0,_,g=>if allTo L r g=true then 1 else 0
 | d+1,p,g=>if p=r then trS L Q r d (p+1) (upd g p p) else sumF (fun k=>if k=p∨Q p k=0 then 0 else trS L Q r d (p+1) (upd g p k)*Q p k) L
section
variable {L r : Nat} {Q : Mx}
theorem it_fix {f:Fn} {p:Nat} (h:f p=p):∀n,it f n p=p:=by
 intro n
 induction n with
 | zero=>rfl
 | succ n ih=>show f (it f n p)=p;rw [ih,h]
theorem allTo_fix {f:Fn} {p:Nat} (hp:p<L) (hne:p≠r) (h:f p=p):allTo L r f=false:=by
 cases ha:allTo L r f with
 | false=>rfl
 | true =>
  unfold allTo at ha
  rw [List.all_eq_true] at ha
  obtain ⟨n,_,e⟩:=List.any_eq_true.1 (ha p (List.mem_range.2 hp))
  have:=eq_of_beq e
  rw [it_fix h n] at this
  exact absurd this hne
theorem sumB_zero:∀{d p:Nat} {g:Fn},sumB L (fun _=>0) d p g=0:=by
 intro d
 induction d with
 | zero=>intro p g;rfl
 | succ d ih=>intro p g;exact sumF_eq_zero fun k _=>ih
theorem trS_sum (hr:r<L):∀{d p:Nat} {g:Fn},p+d=L→(∀i,i<p→g i<L)→(r<p→g r=r) →
  sumB L (fun f=>if f r=r∧allTo L r f=true then wtP L Q r f else 0) d p g=prodF (fun a=>if a=r then 1 else Q a (g a)) p*trS L Q r d p g:=by
 intro d
 induction d with
 | zero =>
  intro p g hp hg h
  have hpL:p=L:=by omega
  subst hpL
  show (if g r=r∧allTo p r g=true then wtP p Q r g else 0)=wtP p Q r g*(if allTo p r g=true then 1 else 0)
  by_cases ha:allTo p r g=true
  ·rw [if_pos ⟨h hr,ha⟩,if_pos ha,Rat.mul_one]
  ·rw [if_neg fun hh=>ha hh.2,if_neg ha,Rat.mul_zero]
 | succ d ih =>
  intro p g hp hg h
  have hgk:∀k,k<L→∀i,i<p+1→upd g p k i<L:=fun k hk i hi=>by
   by_cases e:i=p
   ·subst e;rw [upd_self];exact hk
   ·rw [upd_ne e];exact hg i (by omega)
  have hz:∀k,k<L→(∀f:Fn,f p=k→¬(f r=r∧allTo L r f=true))→sumB L (fun f=>if f r=r∧allTo L r f=true then wtP L Q r f else 0) d (p+1) (upd g p k)=0:=fun k hk hf=>by
   rw [sumB_congr (G:=fun _=>0) fun f h1 h2=>if_neg (hf f (by rw [h1 p (by omega),upd_self]))]
   exact sumB_zero
  have hpr:∀k,prodF (fun a=>if a=r then 1 else Q a (upd g p k a)) p=prodF (fun a=>if a=r then 1 else Q a (g a)) p:=fun k=>prodF_congr fun a ha=>by rw [upd_ne (by omega)]
  show sumF (fun k=>sumB L _ d (p+1) (upd g p k)) L=_
  by_cases e:p=r
  ·rw [sumF_single (i:=p) (fun k hk hne=>hz k hk fun f hf hh=>by rw [e] at hf;rw [hh.1] at hf;omega) (by omega)]
   rw [ih (by omega) (hgk p (by omega)) (fun _=>by rw [←e,upd_self])]
   show prodF _ p*(if p=r then 1 else Q p (upd g p p p))*_=prodF _ p*(if p=r then trS L Q r d (p+1) (upd g p p) else _)
   rw [if_pos e,if_pos e,hpr,Rat.mul_one]
  ·show _=prodF _ p*(if p=r then trS L Q r d (p+1) (upd g p p) else sumF (fun k=>if k=p∨Q p k=0 then 0 else trS L Q r d (p+1) (upd g p k)*Q p k) L)
   rw [if_neg e,sumF_mul]
   refine sumF_congr fun k hk=>?_
   by_cases ek:k=p
   ·rw [if_pos (.inl ek),Rat.mul_zero]
    subst ek
    exact hz k hk fun f hf hh=>by rw [allTo_fix hk e hf] at hh;exact absurd hh.2 (by decide)
   ·have hi:=ih (p:=p+1) (g:=upd g p k) (by omega) (hgk k hk) (fun hrp=>by rw [upd_ne (fun h=>e h.symm)];exact h (by omega))
    rw [hi]
    show prodF _ p*(if p=r then 1 else Q p (upd g p k p))*_=_
    rw [if_neg e,upd_self,hpr]
    by_cases eq:Q p k=0
    ·rw [if_pos (.inr eq),eq];grind
    ·rw [if_neg (fun hh=>hh.elim ek eq)];grind
theorem trS_all (hr:r<L) {g:Fn}:trS L Q r L 0 (fun _=>0)=treW L Q r:=by
 unfold treW sumA
 rw [trS_sum hr (by omega) (fun i hi=>by omega) (fun h=>by omega)]
 show _=1*_
 rw [Rat.one_mul]
end
end Go.Proofs.YtcgagiimlkjcpaaGreatDoor
set_option linter.unusedVariables false
set_option linter.unusedSimpArgs false
namespace Go.Proofs.YtcgagiimlkjcpaaGreatDoor
open Go Go.RowKit
def hitM (n:Nat) (A:Mx) (S C:Nat→Bool):Mx:=fun i k=>if k=n then (if S i=true then 1 else 0) else if C i=true∧S i=false then (if i=k then 1 else 0)-A i k else (if i=k then 1 else 0)
def CanTo (n:Nat) (A:Mx) (S C:Nat→Bool):Prop:=∀i,i<n→(C i=true↔∃t,t<n∧S t=true∧Star n (posE A) i t)
theorem argmax_ex (y:Nat→Rat):∀{n:Nat},0<n→∃i,i<n∧∀k,k<n→y k≤y i:=by
 intro n
 induction n with
 | zero=>intro h;omega
 | succ n ih =>
  intro _
  by_cases h0:n=0
  ·subst h0
   exact ⟨0,by omega,fun k hk=>by rw [show k=0 by omega];exact Rat.le_refl⟩
  ·obtain ⟨i,hi,hm⟩:=ih (by omega)
   by_cases h:y n≤y i
   ·refine ⟨i,by omega,fun k hk=>?_⟩
    by_cases e:k=n
    ·rw [e];exact h
    ·exact hm k (by omega)
   ·have h':=Rat.not_le.1 h
    refine ⟨n,by omega,fun k hk=>?_⟩
    by_cases e:k=n
    ·rw [e];exact Rat.le_refl
    ·exact Rat.le_trans (hm k (by omega)) (Rat.le_of_lt h')
section
variable {n : Nat} {A : Mx} {S C : Nat → Bool} {y h : Nat → Rat}
theorem CanTo.mem (hC:CanTo n A S C) {i:Nat} (hi:i<n) (hS:S i=true):C i=true:=(hC i hi).2 ⟨i,hi,hS,.refl⟩
theorem CanTo.back (hC:CanTo n A S C) {i k:Nat} (hi:i<n) (hk:k<n) (he:0<A i k) (h:C k=true):C i=true:=by
 obtain ⟨t,ht,hS,hst⟩:=(hC k hk).1 h
 exact (hC i hi).2 ⟨t,ht,hS,(Star.step .refl hk (decide_eq_true he)).trans hst⟩
theorem max_pr (hs:Sto n A) (hC:CanTo n A S C) {B:Rat} (hB:∀i,i<n→(S i=true∨C i=false)→y i≤B)
  (hy:∀i,i<n→S i=false→C i=true→y i≤sumF (fun k=>A i k*y k) n):∀i,i<n→y i≤B:=by
 intro i hi
 refine Rat.not_lt.1 fun hlt=>?_
 obtain ⟨a,ha,hm⟩:=argmax_ex y (n:=n) (by omega)
 have hMB:B<y a:=Std.lt_of_lt_of_le hlt (hm i hi)
 have key:∀j,Star n (posE A) a j→y j=y a:=fun j hst=>by
  induction hst with
  | refl=>rfl
  | step hst hk he ih =>
   rename_i j k
   have hj:=hst.lt ha
   have hn:¬(S j=true∨C j=false):=fun hh=>by
    have:=hB j hj hh
    rw [ih] at this
    exact Rat.not_lt.2 this hMB
   have hSj:S j=false:=by cases hc:S j<;>simp_all
   have hCj:C j=true:=by cases hc:C j<;>simp_all
   have h1:=hy j hj hSj hCj
   have h2:sumF (fun k=>A j k*(y a-y k)) n=y a-sumF (fun k=>A j k*y k) n:=by
    have e:sumF (fun k=>A j k*y a) n=y a:=by rw [←sumF_mulr,hs.sum j hj,Rat.one_mul]
    have e3:sumF (fun k=>A j k*(y a-y k)) n=sumF (fun k=>A j k*y a-A j k*y k) n:=sumF_congr fun k _=>by grind
    rw [e3,sumF_sub,e]
   have hnn:∀k,k<n→0≤A j k*(y a-y k):=fun k hk=>Rat.mul_nonneg (hs.nonneg j k hj hk) (by have:=hm k hk;grind)
   have h0:sumF (fun k=>A j k*(y a-y k)) n=0:=by
    refine Rat.le_antisymm ?_ (sumF_nonneg hnn)
    rw [h2]
    rw [ih] at h1
    grind
   have hz:=sumF_zero_each hnn h0 k hk
   have hpos:0<A j k:=of_decide_eq_true he
   rcases Rat.mul_eq_zero.1 hz with hh|hh
   ·rw [hh] at hpos;exact absurd hpos (by decide)
   ·grind
 have hCa:C a=true:=by
  cases hc:C a with
  | true=>rfl
  | false=>exact absurd (hB a ha (.inr hc)) (Rat.not_le.2 hMB)
 obtain ⟨t,ht,hSt,hst⟩:=(hC a ha).1 hCa
 have:=hB t ht (.inl hSt)
 rw [key t hst] at this
 exact Rat.not_lt.2 this hMB
theorem hit_row (i:Nat) (hi:i<n):sumF (fun k=>hitM n A S C i k*y k) n=if C i=true∧S i=false then y i-sumF (fun k=>A i k*y k) n else y i:=by
 have e:sumF (fun k=>(if i=k then (1:Rat) else 0)*y k) n=y i:=by
  rw [sumF_single (i:=i) (fun k _ hne=>by rw [if_neg (Ne.symm hne),Rat.zero_mul]) hi,if_pos rfl,Rat.one_mul]
 split
 ·rename_i hc
  conv=>rhs;rw [←e]
  rw [←sumF_sub]
  refine sumF_congr fun k hk=>?_
  unfold hitM
  rw [if_neg (by omega),if_pos hc]
  grind
 ·rename_i hc
  conv=>rhs;rw [←e]
  refine sumF_congr fun k hk=>?_
  unfold hitM
  rw [if_neg (by omega),if_neg hc]
theorem hit_hom (hs:Sto n A) (hC:CanTo n A S C) (hy:Hom n (hitM n A S C) y):∀k,k<n→y k=0:=by
 have e1:∀i,i<n→(S i=true∨C i=false)→y i=0:=fun i hi hh=>by
  have:=hy i hi
  rwa [hit_row i hi,if_neg (fun ⟨a,b⟩=>by rcases hh with c|c<;>simp_all)] at this
 have e2:∀i,i<n→S i=false→C i=true→y i=sumF (fun k=>A i k*y k) n:=fun i hi a b=>by
  have:=hy i hi
  rw [hit_row i hi,if_pos ⟨b,a⟩] at this
  grind
 have u1:=max_pr hs hC (B:=0) (y:=y) (fun i hi hh=>by rw [e1 i hi hh];exact Rat.le_refl) (fun i hi a b=>by rw [←e2 i hi a b];exact Rat.le_refl)
 have u2:=max_pr hs hC (B:=0) (y:=fun i=>- y i) (fun i hi hh=>by show-y i≤0;rw [e1 i hi hh];decide) (fun i hi a b=>by
  have:sumF (fun k=>A i k*- y k) n=- sumF (fun k=>A i k*y k) n:=by rw [←sumF_neg];exact sumF_congr fun k _=>by grind
  show-y i≤sumF (fun k=>A i k*- y k) n
  rw [this,←e2 i hi a b];exact Rat.le_refl)
 intro k hk
 have:=u1 k hk
 have:=u2 k hk
 grind
structure Hit (n : Nat) (A : Mx) (S C : Nat → Bool) (h : Nat → Rat) : Prop where
  there : ∀ i, i < n → S i = true → h i = 1
  never : ∀ i, i < n → C i = false → h i = 0
  next : ∀ i, i < n → S i = false → C i = true → h i = sumF (fun k => A i k * h k) n
theorem hit_gs (hs:Sto n A) (hC:CanTo n A S C):∃M',gs n (hitM n A S C) n=some M'∧Hit n A S C (fun i=>M' i n):=by
 obtain ⟨M',hM⟩:=gs_some (M:=hitM n A S C) fun y hy=>hit_hom hs hC hy
 have hsol:=(gs_sol hM).2 fun i _=>rfl
 have hb:∀i,hitM n A S C i n=if S i=true then 1 else 0:=fun i=>by unfold hitM;rw [if_pos rfl]
 refine ⟨M',hM,fun i hi hS=>?_,fun i hi hc=>?_,fun i hi hS hc=>?_⟩
 ·have:=hsol i hi
  rwa [hit_row i hi,if_neg (fun ⟨a,b⟩=>by simp_all),hb,if_pos hS] at this
 ·have:=hsol i hi
  have hS:¬S i=true:=fun h=>by have:=hC.mem hi h;simp_all
  rwa [hit_row i hi,if_neg (fun ⟨a,b⟩=>by simp_all),hb,if_neg hS] at this
 ·have:=hsol i hi
  rw [hit_row i hi,if_pos ⟨hc,hS⟩,hb,if_neg (by simp [hS])] at this
  grind
theorem Hit.le (hh:Hit n A S C h) (hs:Sto n A) (hC:CanTo n A S C):∀i,i<n→h i≤1 :=
 max_pr hs hC (fun i hi c=>by
  rcases c with c|c
  ·rw [hh.there i hi c];exact Rat.le_refl
  ·rw [hh.never i hi c];decide) fun i hi a b=>by rw [←hh.next i hi a b];exact Rat.le_refl
theorem Hit.ge (hh:Hit n A S C h) (hs:Sto n A) (hC:CanTo n A S C):∀i,i<n→0≤h i:=by
 have:=max_pr hs hC (B:=0) (y:=fun i=>- h i) (fun i hi c=>by
  show-h i≤0
  rcases c with c|c
  ·rw [hh.there i hi c];decide
  ·rw [hh.never i hi c];decide) (fun i hi a b=>by
  have e:sumF (fun k=>A i k*- h k) n=- sumF (fun k=>A i k*h k) n:=by rw [←sumF_neg];exact sumF_congr fun k _=>by grind
  show-h i≤sumF (fun k=>A i k*- h k) n
  rw [e,←hh.next i hi a b];exact Rat.le_refl)
 intro i hi
 have:=this i hi
 grind
theorem Hit.step (hh:Hit n A S C h) (hs:Sto n A) (hC:CanTo n A S C):∀i,i<n→S i=false→h i=sumF (fun k=>A i k*h k) n:=fun i hi hS=>by
 cases hc:C i with
 | true=>exact hh.next i hi hS hc
 | false =>
  rw [hh.never i hi hc]
  refine ((sumF_congr fun k hk=>?_).trans (sumF_zero (n:=n))).symm
  by_cases he:0<A i k
  ·have:C k=false:=by
    cases h':C k with
    | false=>rfl
    | true=>have:=hC.back hi hk he h';simp_all
   rw [hh.never k hk this,Rat.mul_zero]
  ·rw [show A i k=0 from Rat.le_antisymm (Rat.not_lt.1 he) (hs.nonneg i k hi hk),Rat.zero_mul]
theorem Hit.pos (hh:Hit n A S C h) (hs:Sto n A) (hC:CanTo n A S C) {i:Nat} (hi:i<n) (hc:C i=true):0<h i:=by
 have key:∀j,Star n (posE A) i j→0<h j→0<h i:=fun j hst=>by
  induction hst with
  | refl=>exact id
  | step hst hk he ih =>
   rename_i j k
   refine fun hp=>ih ?_
   have hj:=hst.lt hi
   cases hS:S j with
   | true=>rw [hh.there j hj hS];decide
   | false =>
    rw [hh.step hs hC j hj hS]
    have:=sumF_ge (f:=fun k=>A j k*h k) (fun k hk=>Rat.mul_nonneg (hs.nonneg j k hj hk) (hh.ge hs hC k hk)) hk
    exact Std.lt_of_lt_of_le (Rat.mul_pos (of_decide_eq_true he) hp) this
 obtain ⟨t,ht,hS,hst⟩:=(hC i hi).1 hc
 exact key t hst (by rw [hh.there t ht hS];decide)
theorem Hit.zero (hh:Hit n A S C h) (hs:Sto n A) (hC:CanTo n A S C) {i:Nat} (hi:i<n):(h i=0)=(C i=false):=propext ⟨fun e=>by
 cases hc:C i with
 | false=>rfl
 | true=>have:=hh.pos hs hC hi hc;rw [e] at this;exact absurd this (by decide),hh.never i hi⟩
end
end Go.Proofs.YtcgagiimlkjcpaaGreatDoor
set_option linter.unusedVariables false
set_option linter.unusedSimpArgs false
namespace Go.Proofs.YtcgagiimlkjcpaaGreatDoor
open Go Go.RowKit
def bckM (L:Nat) (Q:Mx) (i:Nat):Mx:=fun n k=>if k=L then 1 else if k=i then (if n=k then 1 else 0) else (if n=k then 1 else 0)-Q n k
section
variable {L i : Nat} {Q : Mx} {x y p : Nat → Rat}
def offI (i:Nat) (y:Nat→Rat):Nat→Rat:=fun k=>if k=i then 0 else y k
theorem Irr.sto (h:Irr L Q):Sto L Q:=⟨fun i k _ _=>h.nonneg i k,fun i hi=>h.sum i hi⟩
theorem bck_row {n:Nat} (hn:n<L):sumF (fun k=>bckM L Q i n k*y k) L=y n-sumF (fun k=>Q n k*offI i y k) L:=by
 have e:sumF (fun k=>(if n=k then (1:Rat) else 0)*y k) L=y n:=by
  rw [sumF_single (i:=n) (fun k _ hne=>by rw [if_neg (Ne.symm hne),Rat.zero_mul]) hn,if_pos rfl,Rat.one_mul]
 conv=>rhs;rw [←e]
 rw [←sumF_sub]
 refine sumF_congr fun k hk=>?_
 unfold bckM offI
 rw [if_neg (by omega)]
 by_cases h:k=i
 ·rw [if_pos h,if_pos h,Rat.mul_zero];grind
 ·rw [if_neg h,if_neg h];grind
theorem can_all (h:Irr L Q) (hi:i<L):CanTo L Q (fun t=>decide (t=i)) (fun _=>true):=fun n hn =>
 ⟨fun _=>⟨i,hi,decide_eq_true rfl,h.con n i hn hi⟩,fun _=>rfl⟩
theorem off_zero (h:Irr L Q) (hi:i<L) (hz:∀n,n<L→n≠i→y n=sumF (fun k=>Q n k*y k) L) (h0:y i=0):∀n,n<L→y n=0:=by
 have u1:=max_pr h.sto (can_all h hi) (B:=0) (y:=y) (fun n hn hh=>by
  rcases hh with hh|hh
  ·rw [of_decide_eq_true hh,h0];exact Rat.le_refl
  ·cases hh) (fun n hn a b=>by rw [←hz n hn (of_decide_eq_false a)];exact Rat.le_refl)
 have u2:=max_pr h.sto (can_all h hi) (B:=0) (y:=fun n=>- y n) (fun n hn hh=>by
  rcases hh with hh|hh
  ·show-y n≤0;rw [of_decide_eq_true hh,h0];decide
  ·cases hh) (fun n hn a b=>by
  have e:sumF (fun k=>Q n k*- y k) L=- sumF (fun k=>Q n k*y k) L:=by rw [←sumF_neg];exact sumF_congr fun k _=>by grind
  show-y n≤sumF (fun k=>Q n k*- y k) L
  rw [e,←hz n hn (of_decide_eq_false a)];exact Rat.le_refl)
 intro n hn
 have:=u1 n hn
 have:=u2 n hn
 grind
theorem bck_hom (h:Irr L Q) (hi:i<L) (hy:Hom L (bckM L Q i) y):∀n,n<L→y n=0:=by
 have e:∀n,n<L→y n=sumF (fun k=>Q n k*offI i y k) L:=fun n hn=>by
  have:=hy n hn
  rw [bck_row hn] at this
  grind
 have hz:=off_zero (y:=offI i y) h hi (fun n hn hne=>by
  have:offI i y n=y n:=if_neg hne
  rw [this];exact e n hn) (if_pos rfl)
 intro n hn
 rw [e n hn]
 exact sumF_eq_zero fun k hk=>by rw [hz k hk,Rat.mul_zero]
end
end Go.Proofs.YtcgagiimlkjcpaaGreatDoor
set_option linter.unusedVariables false
set_option linter.unusedSimpArgs false
namespace Go.Proofs.YtcgagiimlkjcpaaGreatDoor
open Go Go.RowKit
theorem sumF_head {f:Nat→Rat}:∀{n:Nat},sumF f (n+1)=f 0+sumF (fun k=>f (k+1)) n:=by
 intro n
 induction n with
 | zero=>show 0+f 0=f 0+0;grind
 | succ n ih=>show sumF f (n+1)+f (n+1)=f 0+(sumF (fun k=>f (k+1)) n+f (n+1));rw [ih];grind
theorem sumF_list (f:Nat→Rat) {n:Nat}:∀{l:List Nat},l.Nodup→(∀s∈l,s<n)→sumF (fun c=>f (l.getD c 0)) l.length=sumF (fun k=>if k∈l then f k else 0) n:=by
 intro l
 induction l with
 | nil=>intro _ _;exact (sumF_eq_zero fun k _=>by simp).symm
 | cons a l ih =>
  intro hd hl
  obtain ⟨ha,hd⟩:=List.nodup_cons.1 hd
  rw [List.length_cons,sumF_head]
  have e1:sumF (fun k=>f ((a::l).getD (k+1) 0)) l.length=sumF (fun k=>f (l.getD k 0)) l.length:=sumF_congr fun k _=>by rw [List.getD_cons_succ]
  rw [e1,ih hd fun s hs=>hl s (List.mem_cons_of_mem _ hs)]
  have e2:sumF (fun k=>if k∈a::l then f k else 0) n=sumF (fun k=>(if k=a then f a else 0)+(if k∈l then f k else 0)) n:=sumF_congr fun k _=>by
   by_cases e:k=a
   ·subst e;rw [if_pos List.mem_cons_self,if_pos rfl,if_neg ha,Rat.add_zero]
   ·rw [if_neg e,Rat.zero_add];simp [e]
  rw [e2,sumF_add,sumF_single (i:=a) (fun k _ hne=>if_neg hne) (hl a List.mem_cons_self),if_pos rfl]
  rfl
def smA (m:List (List Rat)) (S:List Nat):Mx:=fun i k=>(if i=k then 1 else 0)-at2 m (S.getD i 0) (S.getD k 0)
def dsl (n:Nat) (A:Mx) (b:Nat→Rat) (k:Nat):Rat:=det n (cset A k b)/det n A
section
variable {m : List (List Rat)} {S l : List Nat} {n : Nat} {y Y : Nat → Rat}
theorem ext_ex (hd:S.Nodup) (y:Nat→Rat):∃Y:Nat→Rat,(∀c,c<S.length→Y (S.getD c 0)=y c)∧∀s,s∉S→Y s=0:=by
 refine ⟨fun s=>sumF (fun c=>if S.getD c 0=s then y c else 0) S.length,fun c hc=>?_,fun s hs=>?_⟩
 ·show sumF (fun d=>if S.getD d 0=S.getD c 0 then y d else 0) S.length=_
  rw [sumF_single (i:=c) (fun d hd' hne=>if_neg fun e=>hne ?_) hc,if_pos rfl]
  rw [lget_lt S 0 hd',lget_lt S 0 hc] at e
  exact nodup_inj hd hd' hc e
 ·exact sumF_eq_zero fun c hc=>if_neg fun e:S.getD c 0=s=>hs (by rw [←e];exact getD_mem hc)
theorem smA_row (hd:S.Nodup) (hl:∀s∈S,s<n) (h1:∀c,c<S.length→Y (S.getD c 0)=y c) (h0:∀s,s∉S→Y s=0) {i:Nat} (hi:i<S.length) :
  sumF (fun k=>smA m S i k*y k) S.length=Y (S.getD i 0)-sumF (fun s=>at2 m (S.getD i 0) s*Y s) n:=by
 have e:sumF (fun k=>smA m S i k*y k) S.length=sumF (fun k=>(if i=k then 1 else 0)*y k-at2 m (S.getD i 0) (S.getD k 0)*Y (S.getD k 0)) S.length:=sumF_congr fun k hk=>by
  unfold smA;rw [h1 k hk];grind
 rw [e,sumF_sub]
 congr 1
 ·rw [sumF_single (i:=i) (fun k _ hne=>by rw [if_neg (Ne.symm hne),Rat.zero_mul]) hi,if_pos rfl,Rat.one_mul,h1 i hi]
 ·rw [sumF_list (fun s=>at2 m (S.getD i 0) s*Y s) hd hl]
  refine sumF_congr fun s _=>?_
  by_cases hs:s∈S
  ·rw [if_pos hs]
  ·rw [if_neg hs,h0 s hs,Rat.mul_zero]
theorem hits_det {C T:Nat→Bool} {h:Nat→Rat} (hs:Sto n (at2 m)) (hC:CanTo n (at2 m) T C) (hh:Hit n (at2 m) T C h) (hd:S.Nodup) (hS:∀s,s∈S↔s<n∧T s=false∧C s=true)
  (hld:l.Nodup) (hl:∀t∈l,t<n) (hT:∀t,T t=decide (t∈l)) :
  det S.length (smA m S)≠0∧∀k,k<S.length→dsl S.length (smA m S) (fun i=>sumF (fun k=>at2 m (S.getD i 0) (l.getD k 0)) l.length) k=h (S.getD k 0):=by
 have hlt:∀s∈S,s<n:=fun s h=>((hS s).1 h).1
 have hdet:det S.length (smA m S)≠0:=det_hom fun y hy k hk=>by
  obtain ⟨Y,h1,h0⟩:=ext_ex hd y
  have hz:=hit_hom (y:=Y) hs hC fun i hi=>by
   rw [hit_row i hi]
   by_cases hc:C i=true∧T i=false
   ·rw [if_pos hc]
    have hm:i∈S:=(hS i).2 ⟨hi,hc.2,hc.1⟩
    obtain ⟨c,hcl,e⟩:=List.getElem_of_mem hm
    have e':S.getD c 0=i:=by rw [lget_lt S 0 hcl,e]
    have:=hy c hcl
    rw [smA_row hd hlt h1 h0 hcl,e'] at this
    exact this
   ·rw [if_neg hc]
    exact h0 i fun hm=>hc ⟨((hS i).1 hm).2.2,((hS i).1 hm).2.1⟩
  rw [←h1 k hk]
  exact hz _ (hlt _ (getD_mem hk))
 refine ⟨hdet,fun k hk=>cramer_div (x:=fun k=>h (S.getD k 0)) hdet hk fun i hi=>?_⟩
 have hiS:=(hS _).1 (getD_mem hi)
 obtain ⟨Y,hY⟩:∃Y:Nat→Rat,Y=fun s=>if s∈S then h s else 0:=⟨_,rfl⟩
 rw [smA_row (Y:=Y) hd hlt (fun c hc=>by rw [hY];exact if_pos (getD_mem hc)) (fun s hs=>by rw [hY];exact if_neg hs) hi]
 have e1:Y (S.getD i 0)=h (S.getD i 0):=by rw [hY];exact if_pos (getD_mem hi)
 rw [e1,hh.step hs hC _ hiS.1 hiS.2.1,sumF_list (fun t=>at2 m (S.getD i 0) t) hld hl]
 have e2:sumF (fun k=>at2 m (S.getD i 0) k*h k) n=sumF (fun k=>at2 m (S.getD i 0) k*Y k+(if k∈l then at2 m (S.getD i 0) k else 0)) n:=sumF_congr fun k hk=>by
  by_cases hkl:k∈l
  ·have hTk:T k=true:=by rw [hT];exact decide_eq_true hkl
   have hkS:k∉S:=fun hm=>by have:=((hS k).1 hm).2.1;rw [hTk] at this;cases this
   rw [if_pos hkl,hY,hh.there k hk hTk]
   show _=at2 m (S.getD i 0) k*(if k∈S then h k else 0)+_
   rw [if_neg hkS];grind
  ·have hTk:T k=false:=by rw [hT];exact decide_eq_false hkl
   rw [if_neg hkl,Rat.add_zero,hY]
   show _=at2 m (S.getD i 0) k*(if k∈S then h k else 0)
   by_cases hkS:k∈S
   ·rw [if_pos hkS]
   ·rw [if_neg hkS,hh.never k hk (by
     cases hc:C k with
     | false=>rfl
     | true=>exact absurd ((hS k).2 ⟨hk,hTk,hc⟩) hkS)]
 rw [e2,sumF_add];grind
theorem back_det {x:Nat→Rat} {c:Nat} (hQ:Irr l.length (inQ m l)) (hld:l.Nodup) (hl:∀s∈l,s<n) (hc:c<l.length) (hd:S.Nodup) (hS:∀s,s∈S↔s∈l∧s≠l.getD c 0)
  (hx:∀a,a<l.length→x a=1+sumF (fun k=>inQ m l a k*offI c x k) l.length) :
  det S.length (smA m S)≠0∧∃X:Nat→Rat,(∀k,k<S.length→dsl S.length (smA m S) (fun _=>1) k=X k)∧1+sumF (fun k=>at2 m (l.getD c 0) (S.getD k 0)*X k) S.length=x c:=by
 have hlt:∀s∈S,s<n:=fun s h=>hl s ((hS s).1 h).1
 have hinj:∀a b,a<l.length→b<l.length→l.getD a 0=l.getD b 0→a=b:=fun a b ha hb e=>by
  rw [lget_lt l 0 ha,lget_lt l 0 hb] at e
  exact nodup_inj hld ha hb e
 have hmS:∀a,a<l.length→(l.getD a 0∈S↔a≠c):=fun a ha=>by
  rw [hS]
  exact ⟨fun h e=>h.2 (by rw [e]),fun h=>⟨getD_mem ha,fun e=>h (hinj a c ha hc e)⟩⟩
 -- over l without its c-th, and over all states
 have key:∀(Y z:Nat→Rat) (b:Nat),(∀s,s∉S→Y s=0)→(∀a,a<l.length→a≠c→Y (l.getD a 0)=z a)→sumF (fun k=>inQ m l b k*offI c z k) l.length=sumF (fun s=>at2 m (l.getD b 0) s*Y s) n:=fun Y z b h0 h1=>by
  have e1:sumF (fun k=>inQ m l b k*offI c z k) l.length=sumF (fun k=>at2 m (l.getD b 0) (l.getD k 0)*Y (l.getD k 0)) l.length:=sumF_congr fun k hk=>by
   unfold inQ offI
   by_cases e:k=c
   ·rw [if_pos e,h0 _ fun hm=>((hmS k hk).1 hm) e]
   ·rw [if_neg e,h1 k hk e]
  rw [e1,sumF_list (fun s=>at2 m (l.getD b 0) s*Y s) hld hl]
  refine sumF_congr fun s _=>?_
  by_cases hs:s∈l
  ·rw [if_pos hs]
  ·rw [if_neg hs,h0 s fun hm=>hs ((hS s).1 hm).1,Rat.mul_zero]
 have hpos:∀k,k<S.length→∃a,a<l.length∧a≠c∧l.getD a 0=S.getD k 0:=fun k hk=>by
  obtain ⟨h1,h2⟩:=(hS _).1 (getD_mem hk)
  obtain ⟨a,ha,e⟩:=List.getElem_of_mem h1
  have e':l.getD a 0=S.getD k 0:=by rw [lget_lt l 0 ha,e]
  exact ⟨a,ha,fun ea=>h2 (by rw [←e',ea]),e'⟩
 have hdet:det S.length (smA m S)≠0:=det_hom fun y hy k hk=>by
  obtain ⟨Y,h1,h0⟩:=ext_ex hd y
  obtain ⟨z,hz⟩:∃z:Nat→Rat,z=fun a=>if a=c then sumF (fun s=>at2 m (l.getD c 0) s*Y s) n else Y (l.getD a 0):=⟨_,rfl⟩
  have hk1:=key Y z
  have hzz:=bck_hom (y:=z) hQ hc fun a ha=>by
   rw [bck_row ha,hk1 a h0 fun b hb hne=>by rw [hz];exact (if_neg hne).symm]
   by_cases e:a=c
   ·rw [hz]
    show (if a=c then _ else _)-_=0
    rw [if_pos e,e];grind
   ·obtain ⟨q,hq,eq⟩:=List.getElem_of_mem ((hmS a ha).2 e)
    have eq':S.getD q 0=l.getD a 0:=by rw [lget_lt S 0 hq,eq]
    have:=hy q hq
    rw [smA_row hd hlt h1 h0 hq,eq'] at this
    rw [hz]
    show (if a=c then _ else _)-_=0
    rw [if_neg e]
    exact this
  obtain ⟨a,ha,hne,e⟩:=hpos k hk
  have:=hzz a ha
  rw [hz] at this
  replace this:(if a=c then sumF (fun s=>at2 m (l.getD c 0) s*Y s) n else Y (l.getD a 0))=0:=this
  rw [if_neg hne,e,h1 k hk] at this
  exact this
 obtain ⟨Y,hY1,hY0⟩:=ext_ex (S:=S) hd fun k=>sumF (fun a=>if l.getD a 0=S.getD k 0 then x a else 0) l.length
 have hYx:∀a,a<l.length→a≠c→Y (l.getD a 0)=x a:=fun a ha hne=>by
  obtain ⟨q,hq,eq⟩:=List.getElem_of_mem ((hmS a ha).2 hne)
  have eq':S.getD q 0=l.getD a 0:=by rw [lget_lt S 0 hq,eq]
  rw [←eq',hY1 q hq,eq',sumF_single (i:=a) (fun b hb hne=>if_neg fun e=>hne (hinj b a hb ha e)) ha,if_pos rfl]
 refine ⟨hdet,fun k=>Y (S.getD k 0),fun k hk=>cramer_div (x:=fun k=>Y (S.getD k 0)) hdet hk fun i hi=>?_,?_⟩
 ·rw [smA_row (Y:=Y) hd hlt (fun c hc=>rfl) hY0 hi]
  obtain ⟨a,ha,hne,e⟩:=hpos i hi
  rw [←e,←key Y x a hY0 hYx,hYx a ha hne]
  have:=hx a ha
  grind
 ·have:=sumF_list (fun s=>at2 m (l.getD c 0) s*Y s) hd hlt
  rw [this,hx c hc,key Y x c hY0 hYx]
  congr 1
  refine sumF_congr fun s _=>?_
  by_cases hs:s∈S
  ·rw [if_pos hs]
  ·rw [if_neg hs,hY0 s hs,Rat.mul_zero]
end
end Go.Proofs.YtcgagiimlkjcpaaGreatDoor
