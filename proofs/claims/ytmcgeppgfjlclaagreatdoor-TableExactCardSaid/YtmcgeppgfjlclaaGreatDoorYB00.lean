/- Tables: assignments and their places. Plain. Conditions: none. -/
set_option linter.unusedVariables false
set_option linter.unusedSimpArgs false
namespace Go.Proofs.YtmcgeppgfjlclaaGreatDoor
def cntS (S:Nat→Nat):List Nat→Nat
 | []=>1
 | v::l=>S v*cntS S l
def idxS (S at_:Nat→Nat):List Nat→Nat
 | []=>0
 | v::l=>at_ v*cntS S l+idxS S at_ l
def asgS (S:Nat→Nat):List Nat→Nat→Nat→Nat
 | [],_,_=>0
 | v::l,k,u=>if u=v then k/cntS S l else asgS S l (k%cntS S l) u
section
variable {S a b : Nat → Nat} {l m : List Nat} {k v : Nat}
theorem cntS_pos (h:∀v∈l,1≤S v):1≤cntS S l:=by
 induction l with
 | nil=>exact Nat.le_refl _
 | cons v l ih =>
  have:=ih fun v hv=>h v (List.mem_cons_of_mem _ hv)
  have h2:=h v (List.mem_cons_self ..)
  exact Nat.mul_pos h2 this
theorem cntS_le (h:∀v∈l,S v≤4):cntS S l≤4^l.length:=by
 induction l with
 | nil=>exact Nat.le_refl _
 | cons v l ih =>
  have h1:=ih fun v hv=>h v (List.mem_cons_of_mem _ hv)
  have h2:=h v (List.mem_cons_self ..)
  show S v*cntS S l≤4^(l.length+1)
  rw [Nat.pow_succ,Nat.mul_comm]
  exact Nat.mul_le_mul h1 h2
theorem cntS_app:cntS S (l++m)=cntS S l*cntS S m:=by
 induction l with
 | nil=>show cntS S m=1*_;omega
 | cons v l ih=>show S v*cntS S (l++m)=S v*cntS S l*_;rw [ih,Nat.mul_assoc]
theorem idxS_lt (h:∀v∈l,a v<S v):idxS S a l<cntS S l:=by
 induction l with
 | nil=>exact Nat.zero_lt_one
 | cons v l ih =>
  have h1:=ih fun v hv=>h v (List.mem_cons_of_mem _ hv)
  have h2:=h v (List.mem_cons_self ..)
  show a v*cntS S l+idxS S a l<S v*cntS S l
  have:=Nat.mul_le_mul_right (cntS S l) (show a v+1≤S v by omega)
  rw [Nat.add_mul] at this
  omega
theorem idxS_congr (h:∀v∈l,a v=b v):idxS S a l=idxS S b l:=by
 induction l with
 | nil=>rfl
 | cons v l ih=>show a v*_+_=b v*_+_;rw [ih fun v hv=>h v (List.mem_cons_of_mem _ hv),h v (List.mem_cons_self ..)]
theorem asgS_idx (hn:l.Nodup) (h:∀v∈l,a v<S v) (hv:v∈l):asgS S l (idxS S a l) v=a v:=by
 induction l with
 | nil=>cases hv
 | cons u l ih =>
  have hl:∀v∈l,a v<S v:=fun v hv=>h v (List.mem_cons_of_mem _ hv)
  have hlt:=idxS_lt (S:=S) hl
  obtain ⟨h1,h2⟩:=List.nodup_cons.1 hn
  show (if v=u then (a u*cntS S l+idxS S a l)/cntS S l else asgS S l ((a u*cntS S l+idxS S a l)%cntS S l) v)=a v
  have e1:(a u*cntS S l+idxS S a l)/cntS S l=a u:=by
   rw [Nat.mul_comm,Nat.mul_add_div (by omega),Nat.div_eq_of_lt hlt,Nat.add_zero]
  have e2:(a u*cntS S l+idxS S a l)%cntS S l=idxS S a l:=by
   rw [Nat.mul_comm,Nat.mul_add_mod,Nat.mod_eq_of_lt hlt]
  rw [e1,e2]
  split
  ·rename_i e;rw [e]
  ·rename_i e
   exact ih h2 hl ((List.mem_cons.1 hv).resolve_left e)
theorem asgS_out (h:v∉l):asgS S l k v=0:=by
 induction l generalizing k with
 | nil=>rfl
 | cons u l ih =>
  show (if v=u then _ else asgS S l _ v)=0
  rw [if_neg (fun e:v=u=>h (by rw [e];exact List.mem_cons_self ..)),ih fun hh=>h (List.mem_cons_of_mem _ hh)]
theorem asgS_lt (hn:l.Nodup) (hS:∀v∈l,1≤S v) (hk:k<cntS S l) (hv:v∈l):asgS S l k v<S v:=by
 induction l generalizing k with
 | nil=>cases hv
 | cons u l ih =>
  have hp:=cntS_pos (S:=S) (l:=l) fun v hv=>hS v (List.mem_cons_of_mem _ hv)
  obtain ⟨h1,h2⟩:=List.nodup_cons.1 hn
  show (if v=u then k/cntS S l else asgS S l (k%cntS S l) v)<S v
  split
  ·rename_i e;rw [e]
   exact Nat.div_lt_of_lt_mul (by rw [Nat.mul_comm];exact hk)
  ·rename_i e
   exact ih h2 (fun v hv=>hS v (List.mem_cons_of_mem _ hv)) (Nat.mod_lt _ hp) ((List.mem_cons.1 hv).resolve_left e)
theorem idxS_asg (hn:l.Nodup) (hS:∀v∈l,1≤S v) (hk:k<cntS S l):idxS S (asgS S l k) l=k:=by
 induction l generalizing k with
 | nil=>have:k<1:=hk;show 0=k;omega
 | cons u l ih =>
  have hp:=cntS_pos (S:=S) (l:=l) fun v hv=>hS v (List.mem_cons_of_mem _ hv)
  obtain ⟨h1,h2⟩:=List.nodup_cons.1 hn
  have e0:asgS S (u::l) k u=k/cntS S l:=if_pos rfl
  have e1:idxS S (asgS S (u::l) k) l=idxS S (asgS S l (k%cntS S l)) l:=idxS_congr fun v hv=>by
   show (if v=u then _ else asgS S l _ v)=_
   rw [if_neg (fun e:v=u=>h1 (by rw [←e];exact hv))]
  show asgS S (u::l) k u*cntS S l+idxS S (asgS S (u::l) k) l=k
  rw [e0,e1,ih h2 (fun v hv=>hS v (List.mem_cons_of_mem _ hv)) (Nat.mod_lt _ hp),Nat.mul_comm]
  exact Nat.div_add_mod k _
theorem hor_idx {n:Nat}:l.foldl (fun n v=>n*S v+a v) n=n*cntS S l+idxS S a l:=by
 induction l generalizing n with
 | nil=>show n=n*1+0;omega
 | cons v l ih =>
  show l.foldl _ (n*S v+a v)=n*(S v*cntS S l)+(a v*cntS S l+idxS S a l)
  rw [ih,Nat.add_mul,Nat.mul_assoc]
  omega
theorem idxS_snoc:idxS S a (l++[v])=idxS S a l*S v+a v:=by
 have h1:=hor_idx (S:=S) (a:=a) (l:=l++[v]) (n:=0)
 have h2:=hor_idx (S:=S) (a:=a) (l:=l) (n:=0)
 rw [List.foldl_append] at h1
 simp only [Nat.zero_mul,Nat.zero_add] at h1 h2
 rw [←h1,←h2];rfl
theorem sorted_ext:∀{l m:List Nat},l.Pairwise (·< ·)→m.Pairwise (·< ·)→(∀x,x∈l↔x∈m)→l=m:=by
 intro l
 induction l with
 | nil =>
  intro m _ _ h
  cases m with
  | nil=>rfl
  | cons b m=>exact absurd ((h b).2 (by simp)) (by simp)
 | cons a l ih =>
  intro m hl hm h
  cases m with
  | nil=>exact absurd ((h a).1 (by simp)) (by simp)
  | cons b m =>
   obtain ⟨l1,l2⟩:=List.pairwise_cons.1 hl
   obtain ⟨m1,m2⟩:=List.pairwise_cons.1 hm
   have e:a=b:=by
    rcases List.mem_cons.1 ((h a).1 (by simp)) with e|h1
    ·exact e
    ·rcases List.mem_cons.1 ((h b).2 (by simp)) with e|h2
     ·exact e.symm
     ·have:=l1 b h2;have:=m1 a h1;omega
   subst e
   rw [ih l2 m2 fun x=>?_]
   refine ⟨fun hx=>?_,fun hx=>?_⟩
   ·rcases List.mem_cons.1 ((h x).1 (by simp [hx])) with e|h1
    ·have:=l1 x hx;omega
    ·exact h1
   ·rcases List.mem_cons.1 ((h x).2 (by simp [hx])) with e|h1
    ·have:=m1 x hx;omega
    ·exact h1
theorem filt_map {p:Nat→Bool} {κ:Nat→Nat} {n N:Nat} (hm:∀x y,x<y→y<n→κ x<κ y) (h1:∀x,x<n→κ x<N∧p (κ x)=true) (h2:∀k,k<N→p k=true→∃x,x<n∧κ x=k):(List.range N).filter p=(List.range n).map κ:=by
 refine sorted_ext (List.Pairwise.filter _ List.pairwise_lt_range) ?_ fun k=>?_
 ·rw [List.pairwise_map]
  refine List.Pairwise.imp_of_mem ?_ List.pairwise_lt_range
  intro x y _ hy hxy
  exact hm x y hxy (List.mem_range.1 hy)
 ·rw [List.mem_filter,List.mem_range,List.mem_map]
  refine ⟨fun ⟨hk,hp⟩=>?_,fun ⟨x,hx,e⟩=>?_⟩
  ·obtain ⟨x,hx,e⟩:=h2 k hk hp
   exact ⟨x,List.mem_range.2 hx,e⟩
  ·rw [←e];exact h1 x (List.mem_range.1 hx)
def updS (a:Nat→Nat) (v x:Nat):Nat→Nat:=fun u=>if u=v then x else a u
theorem updS_self {x:Nat}:updS a v x v=x:=if_pos rfl
theorem updS_ne {x u:Nat} (h:u≠v):updS a v x u=a u:=if_neg h
theorem idxS_upd (hn:l.Nodup) (hv:v∈l) (hS:∀w∈l,1≤S w) {x y:Nat} (h:x<y):idxS S (updS a v x) l<idxS S (updS a v y) l:=by
 induction l with
 | nil=>cases hv
 | cons u l ih =>
  obtain ⟨h1,h2⟩:=List.nodup_cons.1 hn
  have hS':∀w∈l,1≤S w:=fun w hw=>hS w (List.mem_cons_of_mem _ hw)
  show updS a v x u*cntS S l+idxS S (updS a v x) l<updS a v y u*cntS S l+idxS S (updS a v y) l
  by_cases e:u=v
  ·subst e
   rw [updS_self,updS_self,idxS_congr (a:=updS a u x) (b:=updS a u y) fun w hw=>by
    have:w≠u:=fun e=>h1 (by rw [←e];exact hw)
    rw [updS_ne this,updS_ne this]]
   have:=Nat.mul_lt_mul_of_pos_right h (show 0<cntS S l from cntS_pos hS')
   omega
  ·rw [updS_ne e,updS_ne e]
   have:=ih h2 ((List.mem_cons.1 hv).resolve_left (Ne.symm e)) hS'
   omega
theorem places {v i:Nat} (hn:l.Nodup) (hm:m.Nodup) (hv:v∈l) (hml:∀u,u∈m↔u∈l∧u≠v) (hS:∀w∈l,1≤S w) (hi:i<cntS S m) :
  (List.range (cntS S l)).filter (fun k=>idxS S (asgS S l k) m==i)=(List.range (S v)).map fun x=>idxS S (updS (asgS S m i) v x) l:=by
 have hSm:∀w∈m,1≤S w:=fun w hw=>hS w ((hml w).1 hw).1
 have hlt:∀x,x<S v→∀u∈l,updS (asgS S m i) v x u<S u:=fun x hx u hu=>by
  by_cases e:u=v
  ·rw [e,updS_self];exact hx
  ·rw [updS_ne e];exact asgS_lt hm hSm hi ((hml u).2 ⟨hu,e⟩)
 refine filt_map (fun x y hxy hy=>idxS_upd hn hv hS hxy) (fun x hx=>⟨idxS_lt (hlt x hx),?_⟩) (fun k hk hp=>?_)
 ·rw [beq_iff_eq,idxS_congr (b:=asgS S m i) fun u hu=>?_]
  ·exact idxS_asg hm hSm hi
  ·obtain ⟨h1,h2⟩:=(hml u).1 hu
   rw [asgS_idx hn (hlt x hx) h1,updS_ne h2]
 ·have hp:=beq_iff_eq.1 hp
  refine ⟨asgS S l k v,asgS_lt hn hS hk hv,?_⟩
  rw [←idxS_asg (S:=S) hn hS hk]
  refine idxS_congr fun u hu=>?_
  by_cases e:u=v
  ·rw [e,updS_self,idxS_asg hn hS hk]
  ·rw [updS_ne e,←hp,asgS_idx hm (fun w hw=>asgS_lt hn hS hk ((hml w).1 hw).1) ((hml u).2 ⟨hu,e⟩)]
end
def jnS {α β:Type} (op:α→α→α) (f:β→α) (l:List β):Option α:=l.foldl (fun o k=>match o with|none=>some (f k)|some r=>some (op r (f k))) none
section
variable {α β γ : Type} {op : α → α → α} {f : β → α} {l : List β}
theorem jnS_snoc {k:β}:jnS op f (l++[k])=match jnS op f l with|none=>some (f k)|some r=>some (op r (f k)):=by unfold jnS;rw [List.foldl_append];rfl
theorem jnS_map {g:γ→β} {l:List γ}:jnS op f (l.map g)=jnS op (fun k=>f (g k)) l:=by unfold jnS;rw [List.foldl_map]
theorem jnS_none:jnS op f l=none↔l=[]:=by
 rcases List.eq_nil_or_concat l with h|⟨m,k,h⟩
 ·subst h;exact ⟨fun _=>rfl,fun _=>rfl⟩
 ·rw [List.concat_eq_append] at h
  subst h
  rw [jnS_snoc]
  refine ⟨fun h=>?_,fun h=>by simp at h⟩
  cases hj:jnS op f m<;>rw [hj] at h<;>cases h
theorem jnS_range {f:Nat→α} {p:Nat→Bool} {k:Nat}:jnS op f ((List.range (k+1)).filter p)=if p k=true then (match jnS op f ((List.range k).filter p) with|none=>some (f k)|some r=>some (op r (f k))) else jnS op f ((List.range k).filter p):=by
 rw [List.range_succ,List.filter_append]
 by_cases h:p k=true
 ·rw [if_pos h,show [k].filter p=[k] from by simp [h],jnS_snoc]
 ·rw [if_neg h,show [k].filter p=[] from by simp [h],List.append_nil]
end
def f1S {α:Type} (op:α→α→α) (f:Nat→α):Nat→α
 | 0=>f 0
 | k+1=>op (f1S op f k) (f (k+1))
section
variable {α : Type} {op : α → α → α} {f g : Nat → α} {n : Nat}
theorem jnS_f1:jnS op f (List.range (n+1))=some (f1S op f n):=by
 induction n with
 | zero=>rfl
 | succ n ih=>rw [List.range_succ,jnS_snoc,ih];rfl
theorem f1S_congr (h:∀k,k≤n→f k=g k):f1S op f n=f1S op g n:=by
 induction n with
 | zero=>exact h 0 (Nat.le_refl _)
 | succ n ih=>show op _ _=op _ _;rw [ih fun k hk=>h k (by omega),h (n+1) (Nat.le_refl _)]
end
def outF {α:Type} (op:α→α→α) (n v:Nat) (F:(Nat→Nat)→α) (a:Nat→Nat):α:=f1S op (fun x=>F (updS a v x)) n
def tblS {α:Type} (S:Nat→Nat) (l:List Nat) (F:(Nat→Nat)→α):List α:=(List.range (cntS S l)).map fun k=>F (asgS S l k)
def Dep {α:Type} (l:List Nat) (F:(Nat→Nat)→α):Prop:=∀a b,(∀u∈l,a u=b u)→F a=F b
section
variable {α : Type} {S : Nat → Nat} {l m : List Nat} {v i k n : Nat} {F G : (Nat → Nat) → α} {op : α → α → α}
theorem tblS_len:(tblS S l F).length=cntS S l:=by simp [tblS]
theorem tblS_get (hk:k<cntS S l):(tblS S l F)[k]?=some (F (asgS S l k)):=by simp [tblS,hk]
theorem tblS_of {L:List α} (d:α) (hn:l.Nodup) (hS:∀w∈l,1≤S w) (hL:L.length=cntS S l):L=tblS S l fun a=>L.getD (idxS S a l) d:=by
 apply List.ext_getElem?
 intro k
 by_cases hk:k<cntS S l
 ·rw [tblS_get hk,idxS_asg hn hS hk,List.getD_eq_getElem?_getD,List.getElem?_eq_getElem (by omega)];rfl
 ·rw [List.getElem?_eq_none (by omega),List.getElem?_eq_none (by rw [tblS_len];omega)]
theorem gather_out (hF:Dep l F) (hn:l.Nodup) (hm:m.Nodup) (hv:v∈l) (hml:∀u,u∈m↔u∈l∧u≠v) (hS:∀w∈l,1≤S w) (hi:i<cntS S m) (hSv:S v=n+1) {f:Nat→α} (hf:∀k,k<cntS S l→f k=F (asgS S l k)) :
  jnS op f ((List.range (cntS S l)).filter fun k=>idxS S (asgS S l k) m==i)=some (outF op n v F (asgS S m i)):=by
 have hSm:∀w∈m,1≤S w:=fun w hw=>hS w ((hml w).1 hw).1
 have hlt:∀x,x<S v→∀u∈l,updS (asgS S m i) v x u<S u:=fun x hx u hu=>by
  by_cases e:u=v
  ·rw [e,updS_self];exact hx
  ·rw [updS_ne e];exact asgS_lt hm hSm hi ((hml u).2 ⟨hu,e⟩)
 rw [places hn hm hv hml hS hi,jnS_map,hSv,jnS_f1]
 unfold outF
 congr 1
 refine f1S_congr fun x hx=>?_
 rw [hf _ (idxS_lt (hlt x (by omega)))]
 exact hF _ _ fun u hu=>asgS_idx hn (hlt x (by omega)) hu
end
end Go.Proofs.YtmcgeppgfjlclaaGreatDoor
set_option linter.unusedVariables false
set_option linter.unusedSimpArgs false
namespace Go.Proofs.YtmcgeppgfjlclaaGreatDoor
theorem dig_eq {S:Nat→Nat} {l:List Nat}:∀{k j:Nat} (hj:j<l.length),l.Nodup→(∀w∈l,1≤S w)→k<cntS S l→asgS S l k l[j]=k/cntS S (l.drop (j+1))%S l[j]:=by
 induction l with
 | nil=>intro k j hj;simp at hj
 | cons u l ih =>
  intro k j hj hn hS hk
  obtain ⟨n1,n2⟩:=List.nodup_cons.1 hn
  have hS':∀w∈l,1≤S w:=fun w hw=>hS w (List.mem_cons_of_mem _ hw)
  have hp:=cntS_pos (S:=S) (l:=l) hS'
  cases j with
  | zero =>
   show (if u=u then k/cntS S l else _)=k/cntS S l%S u
   rw [if_pos rfl,Nat.mod_eq_of_lt]
   exact Nat.div_lt_of_lt_mul (by rw [Nat.mul_comm];exact hk)
  | succ j =>
   have hjl:j<l.length:=by simpa using hj
   have hne:l[j]≠u:=fun e=>n1 (e▸List.getElem_mem hjl)
   show (if l[j]=u then _ else asgS S l (k%cntS S l) l[j])=k/cntS S (l.drop (j+1))%S l[j]
   rw [if_neg hne,ih hjl n2 hS' (Nat.mod_lt _ hp)]
   obtain ⟨D,hD⟩:∃D,D=cntS S (l.drop (j+1)):=⟨_,rfl⟩
   have hDp:0<D:=by rw [hD];exact cntS_pos fun w hw=>hS' w (List.mem_of_mem_drop hw)
   have hc:cntS S l=cntS S (l.take j)*(S l[j]*D):=by
    conv=>lhs;rw [←List.take_append_drop j l]
    rw [cntS_app,List.drop_eq_getElem_cons hjl,hD];rfl
   rw [←hD,hc,show cntS S (l.take j)*(S l[j]*D)=D*(S l[j]*cntS S (l.take j)) by rw [Nat.mul_comm (cntS S (l.take j)),Nat.mul_comm (S l[j]) D,Nat.mul_assoc],Nat.mod_mul_right_div_self,Nat.mod_mul_right_mod]
theorem cnt_drop {S:Nat→Nat} {l:List Nat} {i:Nat} (hi:i<l.length):cntS S (l.drop i)=S l[i]*cntS S (l.drop (i+1)):=by
 rw [List.drop_eq_getElem_cons hi];rfl
theorem div_drop {S:Nat→Nat} {l:List Nat} {i k:Nat} (hi:i<l.length):k/cntS S (l.drop (i+1))/S l[i]=k/cntS S (l.drop i):=by
 rw [cnt_drop hi,Nat.div_div_eq_div_mul,Nat.mul_comm]
end Go.Proofs.YtmcgeppgfjlclaaGreatDoor
set_option linter.unusedVariables false
set_option linter.unusedSimpArgs false
namespace Go.Proofs.YtmcgeppgfjlclaaGreatDoor
def gtrS (a b:Rat):Rat:=if a<b then b else a
end Go.Proofs.YtmcgeppgfjlclaaGreatDoor
