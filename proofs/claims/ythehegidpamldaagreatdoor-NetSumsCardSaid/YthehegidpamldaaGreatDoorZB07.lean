/- The abstract machine, fourteenth part: contracts over values alone, and fractions. Conditions: none. -/
import Derived.Test.YthehegidpamldaaGreatDoorZAmM
import Derived.Test.YthehegidpamldaaGreatDoorZFracOne
import Derived.Lib.SlTrimSet
set_option linter.unusedVariables false
set_option linter.unusedSimpArgs false
namespace Go.Proofs.YthehegidpamldaaGreatDoor
open Go Go.RowKit

theorem vals_repf {w:World} {F:Nat→Prop}:∀{cs:List FV} {l:List Value},vals cs=some l→cs.length=l.length∧∀(j:Nat) c,cs[j]?=some c→RepF w F c (l.toArray.getD j undef)
 | [],l,h=>by cases h;exact ⟨rfl,fun j c h=>by simp at h⟩
 | .v x::cs,l,h=>by
  unfold vals at h
  cases hv:vals cs with
  | none=>rw [hv] at h;cases h
  | some l' =>
   rw [hv] at h
   cases h
   obtain ⟨h1,h2⟩:=vals_repf (w:=w) (F:=F) hv
   refine ⟨by simp [h1],fun j c hj=>?_⟩
   cases j with
   | zero=>simp at hj;subst hj;exact .v x
   | succ j =>
    have:=h2 j c (by simpa using hj)
    have e:(x::l').toArray.getD (j+1) undef=l'.toArray.getD j undef:=by simp [Array.getD_eq_getD_getElem?]
    rw [e];exact this
 | .agg _::_,l,h=>by cases h
 | .tup _::_,l,h=>by cases h
 | .fz _ _::_,l,h=>by cases h
 | .fp _ _::_,l,h=>by cases h
 | .fn _ _ _::_,l,h=>by cases h
theorem val_repf {w:World} {F:Nat→Prop} {x:FV} {v:Value} (h:x.val=some v):RepF w F x v:=by
 cases x with
 | v x=>cases h;exact .v _
 | agg cs =>
  replace h:(vals cs).map (fun l=>Value.agg l.toArray)=some v:=h
  cases hv:vals cs with
  | none=>rw [hv] at h;cases h
  | some l =>
   rw [hv] at h
   cases h
   obtain ⟨h1,h2⟩:=vals_repf (w:=w) (F:=F) hv
   exact .agg cs _ (by simpa using h1) h2
 | _=>cases h
def FV.val2:FV→Option Value
 | .tup cs=>(cs.mapM FV.val).map fun l=>.tuple l.toArray
 | x=>x.val
theorem mapM_vals {w:World} {F:Nat→Prop}:∀{cs:List FV} {l:List Value},cs.mapM FV.val=some l→cs.length=l.length∧(∀(j:Nat) c,cs[j]?=some c→RepF w F c (l.toArray.getD j undef))∧∀ys:Array Value,cs.length=ys.size→(∀(j:Nat) c,cs[j]?=some c→RepF w F c (ys.getD j undef))→ys.toList=l
 | [],l,h=>by
  cases h
  refine ⟨rfl,fun j c h=>by simp at h,fun ys hl _=>?_⟩
  simpa using hl.symm
 | x::cs,l,h=>by
  rw [List.mapM_cons] at h
  cases hx:x.val with
  | none=>rw [hx] at h;cases h
  | some v =>
   rw [hx] at h
   cases hv:cs.mapM FV.val with
   | none=>rw [hv] at h;cases h
   | some l' =>
    rw [hv] at h
    cases h
    obtain ⟨h1,h2,h3⟩:=mapM_vals (w:=w) (F:=F) hv
    refine ⟨by simp [h1],fun j c hj=>?_,fun ys hl hr=>?_⟩
    ·cases j with
     | zero=>simp at hj;subst hj;exact val_repf hx
     | succ j =>
      have:=h2 j c (by simpa using hj)
      have e:(v::l').toArray.getD (j+1) undef=l'.toArray.getD j undef:=by simp [Array.getD_eq_getD_getElem?]
      rw [e];exact this
    ·obtain ⟨ys⟩:=ys
     cases ys with
     | nil=>simp at hl
     | cons y ys =>
      have h0:=hr 0 x rfl
      have e0:(y::ys).toArray.getD 0 undef=y:=rfl
      rw [e0] at h0
      have:=val_rep hx h0
      subst this
      have:=h3 ys.toArray (by simpa using hl) (fun j c hj=>by
       have:=hr (j+1) c (by simpa using hj)
       have e:(y::ys).toArray.getD (j+1) undef=ys.toArray.getD j undef:=by simp [Array.getD_eq_getD_getElem?]
       rwa [e] at this)
      show y::ys=y::l'
      rw [←this]
theorem val2_repf {w:World} {F:Nat→Prop} {x:FV} {v:Value} (h:x.val2=some v):RepF w F x v:=by
 by_cases ht:∃cs,x=.tup cs
 ·obtain ⟨cs,rfl⟩:=ht
  replace h:(cs.mapM FV.val).map (fun l=>Value.tuple l.toArray)=some v:=h
  cases hv:cs.mapM FV.val with
  | none=>rw [hv] at h;cases h
  | some l =>
   rw [hv] at h
   cases h
   obtain ⟨h1,h2,_⟩:=mapM_vals (w:=w) (F:=F) hv
   exact .tup cs _ (by simpa using h1) h2
 ·have:x.val=some v:=by cases x<;>first|exact h|exact absurd ⟨_,rfl⟩ ht
  exact val_repf this
theorem good_calls {P:Program} {f:FuncId} {xs:List FV} {r:FV} {args:List Value} {v:Value} (hok:enterOk P f=true) (hx:xs.mapM FV.val=some args) (hr:r.val2=some v)
  (h:∀w,Calls P f args.toArray w fun e w'=>e=.returned v∧Below w.heap.size w w'):Good P f xs r:=by
 refine ⟨hok,fun w G ys _ hG hrep=>?_⟩
 obtain ⟨_,_,h3⟩:=mapM_vals (w:=w) (F:=G) hx
 have:=h3 ys hrep.1 hrep.2
 have e:ys=args.toArray:=by rw [←this]
 rw [e]
 exact (h w).mono fun e w' ⟨he,hb⟩=>⟨v,he,⟨hb.os,hb.tape,hb.output,hb.size,fun k hk _=>hb.block k hk⟩,val2_repf hr⟩
def fr (q:Rat):FV:=.agg [.v (.bool (cg q)),.v (.string (cn q)),.v (.string (cd q))]
abbrev frs (l:List Rat):FV:=.fz 3 (l.map fr)
abbrev I (n:Int):FV:=.v (.int .i64 n)
abbrev Bo (b:Bool):FV:=.v (.bool b)
abbrev ints (l:List Int):FV:=.fz 1 (l.map I)
theorem of_good {n:Int} (h0:-9223372036854775808≤n) (h1:n≤9223372036854775807):Good Tryz.prog 46 [I n] (fr (n:Rat)) :=
 good_calls (by kernel_rfl) rfl rfl fun w=>fof_g h0 h1 w
theorem fr_cells (q:Rat):(fr q).cells=[.v (.bool (cg q)),.v (.string (cn q)),.v (.string (cd q))]:=(rfl)
theorem fr_st (q:Rat):(fr q).st=true:=(rfl)
theorem fr_isA (q:Rat):(fr q).isA=true:=(rfl)
theorem lget_lt {α:Type} (l:List α) (d:α) {i:Nat} (h:i<l.length):l.getD i d=l[i]:=by rw [List.getD_eq_getElem?_getD,List.getElem?_eq_getElem h];rfl
attribute [go_sem] fr_cells fr_st fr_isA
end Go.Proofs.YthehegidpamldaaGreatDoor
set_option linter.unusedVariables false
set_option linter.unusedSimpArgs false
namespace Go.Proofs.YthehegidpamldaaGreatDoor
open Go Go.RowKit
def chN (n:Nat):Bool:=decide (97≤n∧n≤122)||decide (48≤n∧n≤57)||decide (n=95)
def letN (n:Nat):Bool:=decide (97≤n∧n≤122)
def nmCs:List UInt8:=[97,98,99,100,101,102,103,104,105,106,107,108,109,110,111,112,113,114,115,116,117,118,119,120,121,122,48,49,50,51,52,53,54,55,56,57,95]
theorem nmCs_all:∀n,n<256→nmCs.contains (UInt8.ofNat n)=chN n:=by decide +kernel
theorem nmCs_ch (b:UInt8):nmCs.contains b=chN b.toNat:=by
 have:=nmCs_all b.toNat b.toNat_lt
 rwa [UInt8.ofNat_toNat] at this
theorem dw_nil {p:UInt8→Bool}:∀{l:List UInt8},l.dropWhile p=[]↔∀x∈l,p x=true:=by
 intro l
 induction l with
 | nil=>simp
 | cons a l ih =>
  rw [List.dropWhile_cons]
  cases ha:p a with
  | true=>rw [if_pos rfl,ih];simp [ha]
  | false=>rw [if_neg (by decide)];simp [ha]
theorem dw_head {p:UInt8→Bool} {x:UInt8} {t:List UInt8}:∀{l:List UInt8},l.dropWhile p=x::t→p x=false∧x∈l:=by
 intro l
 induction l with
 | nil=>intro h;simp at h
 | cons a l ih =>
  intro h
  rw [List.dropWhile_cons] at h
  cases ha:p a with
  | true =>
   rw [ha,if_pos rfl] at h
   obtain ⟨h1,h2⟩:=ih h
   exact ⟨h1,List.mem_cons_of_mem _ h2⟩
  | false =>
   rw [ha,if_neg (by decide)] at h
   cases h
   exact ⟨ha,List.mem_cons_self ..⟩
theorem trim_nil {l:List UInt8}:Lib.trimS l nmCs=[]↔∀b∈l,chN b.toNat=true:=by
 unfold Lib.trimS Lib.trimLeftS Lib.trimRightS
 rw [dw_nil]
 constructor
 ·intro h
  cases hd:l.reverse.dropWhile (nmCs.contains ·) with
  | nil =>
   intro b hb
   have:=dw_nil.1 hd b (List.mem_reverse.2 hb)
   rw [nmCs_ch] at this;exact this
  | cons x t =>
   obtain ⟨h1,_⟩:=dw_head hd
   have:=h x (List.mem_reverse.2 (by rw [hd];exact List.mem_cons_self ..))
   rw [h1] at this;cases this
 ·intro h x hx
  cases hd:l.reverse.dropWhile (nmCs.contains ·) with
  | nil=>rw [hd] at hx;simp at hx
  | cons y t =>
   have hy:y∈l:=List.mem_reverse.1 (dw_head hd).2
   have h1:=h y hy
   rw [←nmCs_ch,(dw_head hd).1] at h1
   cases h1
end Go.Proofs.YthehegidpamldaaGreatDoor
set_option linter.unusedVariables false
set_option linter.unusedSimpArgs false
namespace Go.Proofs.YthehegidpamldaaGreatDoor
open Go Go.RowKit
def fe (f:Nat→Int):Nat→Int
 | 0=>0
 | n+1=>if fe f n=0 then f n else fe f n
section
variable {f g : Nat → Int} {n x : Nat}
theorem fe_next (h:fe f x=0):fe f (x+1)=f x:=if_pos h
theorem fe_keep (h:fe f x≠0):∀{n:Nat},x≤n→fe f n=fe f x:=by
 intro n
 induction n with
 | zero =>
  intro hx
  have e:x=0:=by omega
  rw [e]
 | succ n ih =>
  intro hx
  by_cases e:x=n+1
  ·rw [e]
  ·have h1:=ih (by omega)
   show (if fe f n=0 then f n else fe f n)=_
   rw [h1,if_neg h]
theorem fe_at (h0:fe f x=0) (h:f x≠0) (hx:x<n):fe f n=f x:=by
 have h1:=fe_next h0
 rw [fe_keep (x:=x+1) (by rw [h1];exact h) (by omega),h1]
theorem fe_zero:fe f n=0↔∀i,i<n→f i=0:=by
 induction n with
 | zero=>exact ⟨fun _ i h=>by omega,fun _=>rfl⟩
 | succ n ih =>
  show (if fe f n=0 then f n else fe f n)=0↔_
  by_cases h:fe f n=0
  ·rw [if_pos h]
   exact ⟨fun h1 i hi=>by
    by_cases e:i=n
    ·rw [e];exact h1
    ·exact ih.1 h i (by omega),fun h1=>h1 n (by omega)⟩
  ·rw [if_neg h]
   exact ⟨fun h1=>absurd h1 h,fun h1=>absurd (ih.2 fun i hi=>h1 i (by omega)) h⟩
end
def namB (s:ByteArray):Bool:=decide (0<s.size)&&(decide (s.size≤12)&&(letN (s.data.toList.getD 0 0).toNat&&(s.data.toList.all (fun b=>chN b.toNat)&&(!decide (s=⟨#[118,97,114]⟩)&&!decide (s=⟨#[101,108,115,101]⟩)))))
def namF (l:List ByteArray) (i:Nat):Int:=if namB (l.getD i ⟨#[]⟩)=true then (if ((l.take i).any fun t=>decide (t=l.getD i ⟨#[]⟩))=true then 7 else 0) else 4
def namesE (l:List ByteArray):Int:=fe (namF l) l.length
end Go.Proofs.YthehegidpamldaaGreatDoor
set_option linter.unusedVariables false
set_option linter.unusedSimpArgs false
namespace Go.Proofs.YthehegidpamldaaGreatDoor
def cntS (S:Nat→Nat):List Nat→Nat
 | []=>1
 | v::l=>S v*cntS S l
def idxS (S at_:Nat→Nat):List Nat→Nat
 | []=>0
 | v::l=>at_ v*cntS S l+idxS S at_ l
def asgS (S:Nat→Nat):List Nat→Nat→Nat→Nat
 | [],_,_=>0
 | v::l,k,u=>if u=v then k/cntS S l else asgS S l (k%cntS S l) u
section
variable {S a b : Nat → Nat} {l m : List Nat} {k v : Nat}
theorem cntS_pos (h:∀v∈l,1≤S v):1≤cntS S l:=by
 induction l with
 | nil=>exact Nat.le_refl _
 | cons v l ih =>
  have:=ih fun v hv=>h v (List.mem_cons_of_mem _ hv)
  have h2:=h v (List.mem_cons_self ..)
  exact Nat.mul_pos h2 this
theorem cntS_le (h:∀v∈l,S v≤4):cntS S l≤4^l.length:=by
 induction l with
 | nil=>exact Nat.le_refl _
 | cons v l ih =>
  have h1:=ih fun v hv=>h v (List.mem_cons_of_mem _ hv)
  have h2:=h v (List.mem_cons_self ..)
  show S v*cntS S l≤4^(l.length+1)
  rw [Nat.pow_succ,Nat.mul_comm]
  exact Nat.mul_le_mul h1 h2
theorem cntS_app:cntS S (l++m)=cntS S l*cntS S m:=by
 induction l with
 | nil=>show cntS S m=1*_;omega
 | cons v l ih=>show S v*cntS S (l++m)=S v*cntS S l*_;rw [ih,Nat.mul_assoc]
theorem idxS_lt (h:∀v∈l,a v<S v):idxS S a l<cntS S l:=by
 induction l with
 | nil=>exact Nat.zero_lt_one
 | cons v l ih =>
  have h1:=ih fun v hv=>h v (List.mem_cons_of_mem _ hv)
  have h2:=h v (List.mem_cons_self ..)
  show a v*cntS S l+idxS S a l<S v*cntS S l
  have:=Nat.mul_le_mul_right (cntS S l) (show a v+1≤S v by omega)
  rw [Nat.add_mul] at this
  omega
theorem idxS_congr (h:∀v∈l,a v=b v):idxS S a l=idxS S b l:=by
 induction l with
 | nil=>rfl
 | cons v l ih=>show a v*_+_=b v*_+_;rw [ih fun v hv=>h v (List.mem_cons_of_mem _ hv),h v (List.mem_cons_self ..)]
theorem asgS_idx (hn:l.Nodup) (h:∀v∈l,a v<S v) (hv:v∈l):asgS S l (idxS S a l) v=a v:=by
 induction l with
 | nil=>cases hv
 | cons u l ih =>
  have hl:∀v∈l,a v<S v:=fun v hv=>h v (List.mem_cons_of_mem _ hv)
  have hlt:=idxS_lt (S:=S) hl
  obtain ⟨h1,h2⟩:=List.nodup_cons.1 hn
  show (if v=u then (a u*cntS S l+idxS S a l)/cntS S l else asgS S l ((a u*cntS S l+idxS S a l)%cntS S l) v)=a v
  have e1:(a u*cntS S l+idxS S a l)/cntS S l=a u:=by
   rw [Nat.mul_comm,Nat.mul_add_div (by omega),Nat.div_eq_of_lt hlt,Nat.add_zero]
  have e2:(a u*cntS S l+idxS S a l)%cntS S l=idxS S a l:=by
   rw [Nat.mul_comm,Nat.mul_add_mod,Nat.mod_eq_of_lt hlt]
  rw [e1,e2]
  split
  ·rename_i e;rw [e]
  ·rename_i e
   exact ih h2 hl ((List.mem_cons.1 hv).resolve_left e)
theorem asgS_out (h:v∉l):asgS S l k v=0:=by
 induction l generalizing k with
 | nil=>rfl
 | cons u l ih =>
  show (if v=u then _ else asgS S l _ v)=0
  rw [if_neg (fun e:v=u=>h (by rw [e];exact List.mem_cons_self ..)),ih fun hh=>h (List.mem_cons_of_mem _ hh)]
theorem asgS_lt (hn:l.Nodup) (hS:∀v∈l,1≤S v) (hk:k<cntS S l) (hv:v∈l):asgS S l k v<S v:=by
 induction l generalizing k with
 | nil=>cases hv
 | cons u l ih =>
  have hp:=cntS_pos (S:=S) (l:=l) fun v hv=>hS v (List.mem_cons_of_mem _ hv)
  obtain ⟨h1,h2⟩:=List.nodup_cons.1 hn
  show (if v=u then k/cntS S l else asgS S l (k%cntS S l) v)<S v
  split
  ·rename_i e;rw [e]
   exact Nat.div_lt_of_lt_mul (by rw [Nat.mul_comm];exact hk)
  ·rename_i e
   exact ih h2 (fun v hv=>hS v (List.mem_cons_of_mem _ hv)) (Nat.mod_lt _ hp) ((List.mem_cons.1 hv).resolve_left e)
theorem idxS_asg (hn:l.Nodup) (hS:∀v∈l,1≤S v) (hk:k<cntS S l):idxS S (asgS S l k) l=k:=by
 induction l generalizing k with
 | nil=>have:k<1:=hk;show 0=k;omega
 | cons u l ih =>
  have hp:=cntS_pos (S:=S) (l:=l) fun v hv=>hS v (List.mem_cons_of_mem _ hv)
  obtain ⟨h1,h2⟩:=List.nodup_cons.1 hn
  have e0:asgS S (u::l) k u=k/cntS S l:=if_pos rfl
  have e1:idxS S (asgS S (u::l) k) l=idxS S (asgS S l (k%cntS S l)) l:=idxS_congr fun v hv=>by
   show (if v=u then _ else asgS S l _ v)=_
   rw [if_neg (fun e:v=u=>h1 (by rw [←e];exact hv))]
  show asgS S (u::l) k u*cntS S l+idxS S (asgS S (u::l) k) l=k
  rw [e0,e1,ih h2 (fun v hv=>hS v (List.mem_cons_of_mem _ hv)) (Nat.mod_lt _ hp),Nat.mul_comm]
  exact Nat.div_add_mod k _
theorem hor_idx {n:Nat}:l.foldl (fun n v=>n*S v+a v) n=n*cntS S l+idxS S a l:=by
 induction l generalizing n with
 | nil=>show n=n*1+0;omega
 | cons v l ih =>
  show l.foldl _ (n*S v+a v)=n*(S v*cntS S l)+(a v*cntS S l+idxS S a l)
  rw [ih,Nat.add_mul,Nat.mul_assoc]
  omega
theorem idxS_snoc:idxS S a (l++[v])=idxS S a l*S v+a v:=by
 have h1:=hor_idx (S:=S) (a:=a) (l:=l++[v]) (n:=0)
 have h2:=hor_idx (S:=S) (a:=a) (l:=l) (n:=0)
 rw [List.foldl_append] at h1
 simp only [Nat.zero_mul,Nat.zero_add] at h1 h2
 rw [←h1,←h2];rfl
theorem asgS_snoc (hn:(l++[v]).Nodup) (hS:∀w∈l++[v],1≤S w) (hk:k<cntS S (l++[v])) (u:Nat):asgS S (l++[v]) k u=if u=v then k%S v else asgS S l (k/S v) u:=by
 obtain ⟨a,ha⟩:∃a,a=asgS S (l++[v]) k:=⟨_,rfl⟩
 have h1:idxS S a (l++[v])=k:=by rw [ha];exact idxS_asg hn hS hk
 have h2:∀w∈l++[v],a w<S w:=fun w hw=>by rw [ha];exact asgS_lt hn hS hk hw
 rw [idxS_snoc] at h1
 have hv:=h2 v (by simp)
 have e1:k%S v=a v:=by rw [←h1,Nat.mul_comm,Nat.mul_add_mod,Nat.mod_eq_of_lt hv]
 have e2:k/S v=idxS S a l:=by rw [←h1,Nat.mul_comm,Nat.mul_add_div (by omega),Nat.div_eq_of_lt hv,Nat.add_zero]
 rw [←ha,e1,e2]
 split
 ·rename_i e;rw [e]
 ·rename_i e
  by_cases hu:u∈l
  ·rw [asgS_idx (List.nodup_append.1 hn).1 (fun w hw=>h2 w (by simp [hw])) hu]
  ·rw [asgS_out hu,ha,asgS_out (by simp [hu,e])]
theorem sorted_ext:∀{l m:List Nat},l.Pairwise (·< ·)→m.Pairwise (·< ·)→(∀x,x∈l↔x∈m)→l=m:=by
 intro l
 induction l with
 | nil =>
  intro m _ _ h
  cases m with
  | nil=>rfl
  | cons b m=>exact absurd ((h b).2 (by simp)) (by simp)
 | cons a l ih =>
  intro m hl hm h
  cases m with
  | nil=>exact absurd ((h a).1 (by simp)) (by simp)
  | cons b m =>
   obtain ⟨l1,l2⟩:=List.pairwise_cons.1 hl
   obtain ⟨m1,m2⟩:=List.pairwise_cons.1 hm
   have e:a=b:=by
    rcases List.mem_cons.1 ((h a).1 (by simp)) with e|h1
    ·exact e
    ·rcases List.mem_cons.1 ((h b).2 (by simp)) with e|h2
     ·exact e.symm
     ·have:=l1 b h2;have:=m1 a h1;omega
   subst e
   rw [ih l2 m2 fun x=>?_]
   refine ⟨fun hx=>?_,fun hx=>?_⟩
   ·rcases List.mem_cons.1 ((h x).1 (by simp [hx])) with e|h1
    ·have:=l1 x hx;omega
    ·exact h1
   ·rcases List.mem_cons.1 ((h x).2 (by simp [hx])) with e|h1
    ·have:=m1 x hx;omega
    ·exact h1
theorem filt_map {p:Nat→Bool} {κ:Nat→Nat} {n N:Nat} (hm:∀x y,x<y→y<n→κ x<κ y) (h1:∀x,x<n→κ x<N∧p (κ x)=true) (h2:∀k,k<N→p k=true→∃x,x<n∧κ x=k):(List.range N).filter p=(List.range n).map κ:=by
 refine sorted_ext (List.Pairwise.filter _ List.pairwise_lt_range) ?_ fun k=>?_
 ·rw [List.pairwise_map]
  refine List.Pairwise.imp_of_mem ?_ List.pairwise_lt_range
  intro x y _ hy hxy
  exact hm x y hxy (List.mem_range.1 hy)
 ·rw [List.mem_filter,List.mem_range,List.mem_map]
  refine ⟨fun ⟨hk,hp⟩=>?_,fun ⟨x,hx,e⟩=>?_⟩
  ·obtain ⟨x,hx,e⟩:=h2 k hk hp
   exact ⟨x,List.mem_range.2 hx,e⟩
  ·rw [←e];exact h1 x (List.mem_range.1 hx)
def updS (a:Nat→Nat) (v x:Nat):Nat→Nat:=fun u=>if u=v then x else a u
theorem updS_self {x:Nat}:updS a v x v=x:=if_pos rfl
theorem updS_ne {x u:Nat} (h:u≠v):updS a v x u=a u:=if_neg h
theorem idxS_upd (hn:l.Nodup) (hv:v∈l) (hS:∀w∈l,1≤S w) {x y:Nat} (h:x<y):idxS S (updS a v x) l<idxS S (updS a v y) l:=by
 induction l with
 | nil=>cases hv
 | cons u l ih =>
  obtain ⟨h1,h2⟩:=List.nodup_cons.1 hn
  have hS':∀w∈l,1≤S w:=fun w hw=>hS w (List.mem_cons_of_mem _ hw)
  show updS a v x u*cntS S l+idxS S (updS a v x) l<updS a v y u*cntS S l+idxS S (updS a v y) l
  by_cases e:u=v
  ·subst e
   rw [updS_self,updS_self,idxS_congr (a:=updS a u x) (b:=updS a u y) fun w hw=>by
    have:w≠u:=fun e=>h1 (by rw [←e];exact hw)
    rw [updS_ne this,updS_ne this]]
   have:=Nat.mul_lt_mul_of_pos_right h (show 0<cntS S l from cntS_pos hS')
   omega
  ·rw [updS_ne e,updS_ne e]
   have:=ih h2 ((List.mem_cons.1 hv).resolve_left (Ne.symm e)) hS'
   omega
theorem places {v i:Nat} (hn:l.Nodup) (hm:m.Nodup) (hv:v∈l) (hml:∀u,u∈m↔u∈l∧u≠v) (hS:∀w∈l,1≤S w) (hi:i<cntS S m) :
  (List.range (cntS S l)).filter (fun k=>idxS S (asgS S l k) m==i)=(List.range (S v)).map fun x=>idxS S (updS (asgS S m i) v x) l:=by
 have hSm:∀w∈m,1≤S w:=fun w hw=>hS w ((hml w).1 hw).1
 have hlt:∀x,x<S v→∀u∈l,updS (asgS S m i) v x u<S u:=fun x hx u hu=>by
  by_cases e:u=v
  ·rw [e,updS_self];exact hx
  ·rw [updS_ne e];exact asgS_lt hm hSm hi ((hml u).2 ⟨hu,e⟩)
 refine filt_map (fun x y hxy hy=>idxS_upd hn hv hS hxy) (fun x hx=>⟨idxS_lt (hlt x hx),?_⟩) (fun k hk hp=>?_)
 ·rw [beq_iff_eq,idxS_congr (b:=asgS S m i) fun u hu=>?_]
  ·exact idxS_asg hm hSm hi
  ·obtain ⟨h1,h2⟩:=(hml u).1 hu
   rw [asgS_idx hn (hlt x hx) h1,updS_ne h2]
 ·have hp:=beq_iff_eq.1 hp
  refine ⟨asgS S l k v,asgS_lt hn hS hk hv,?_⟩
  rw [←idxS_asg (S:=S) hn hS hk]
  refine idxS_congr fun u hu=>?_
  by_cases e:u=v
  ·rw [e,updS_self,idxS_asg hn hS hk]
  ·rw [updS_ne e,←hp,asgS_idx hm (fun w hw=>asgS_lt hn hS hk ((hml w).1 hw).1) ((hml u).2 ⟨hu,e⟩)]
end
section
variable {α β γ : Type} {op : α → α → α} {f : β → α} {l : List β}
end
def f1S {α:Type} (op:α→α→α) (f:Nat→α):Nat→α
 | 0=>f 0
 | k+1=>op (f1S op f k) (f (k+1))
section
variable {α : Type} {op : α → α → α} {f g : Nat → α} {n : Nat}
theorem f1S_congr (h:∀k,k≤n→f k=g k):f1S op f n=f1S op g n:=by
 induction n with
 | zero=>exact h 0 (Nat.le_refl _)
 | succ n ih=>show op _ _=op _ _;rw [ih fun k hk=>h k (by omega),h (n+1) (Nat.le_refl _)]
end
def outF {α:Type} (op:α→α→α) (n v:Nat) (F:(Nat→Nat)→α) (a:Nat→Nat):α:=f1S op (fun x=>F (updS a v x)) n
def tblS {α:Type} (S:Nat→Nat) (l:List Nat) (F:(Nat→Nat)→α):List α:=(List.range (cntS S l)).map fun k=>F (asgS S l k)
def Dep {α:Type} (l:List Nat) (F:(Nat→Nat)→α):Prop:=∀a b,(∀u∈l,a u=b u)→F a=F b
section
variable {α : Type} {S : Nat → Nat} {l m : List Nat} {v i k n : Nat} {F G : (Nat → Nat) → α} {op : α → α → α}
theorem tblS_len:(tblS S l F).length=cntS S l:=by simp [tblS]
theorem tblS_get (hk:k<cntS S l):(tblS S l F)[k]?=some (F (asgS S l k)):=by simp [tblS,hk]
end
end Go.Proofs.YthehegidpamldaaGreatDoor
set_option linter.unusedVariables false
set_option linter.unusedSimpArgs false
namespace Go.Proofs.YthehegidpamldaaGreatDoor
theorem dig_eq {S:Nat→Nat} {l:List Nat}:∀{k j:Nat} (hj:j<l.length),l.Nodup→(∀w∈l,1≤S w)→k<cntS S l→asgS S l k l[j]=k/cntS S (l.drop (j+1))%S l[j]:=by
 induction l with
 | nil=>intro k j hj;simp at hj
 | cons u l ih =>
  intro k j hj hn hS hk
  obtain ⟨n1,n2⟩:=List.nodup_cons.1 hn
  have hS':∀w∈l,1≤S w:=fun w hw=>hS w (List.mem_cons_of_mem _ hw)
  have hp:=cntS_pos (S:=S) (l:=l) hS'
  cases j with
  | zero =>
   show (if u=u then k/cntS S l else _)=k/cntS S l%S u
   rw [if_pos rfl,Nat.mod_eq_of_lt]
   exact Nat.div_lt_of_lt_mul (by rw [Nat.mul_comm];exact hk)
  | succ j =>
   have hjl:j<l.length:=by simpa using hj
   have hne:l[j]≠u:=fun e=>n1 (e▸List.getElem_mem hjl)
   show (if l[j]=u then _ else asgS S l (k%cntS S l) l[j])=k/cntS S (l.drop (j+1))%S l[j]
   rw [if_neg hne,ih hjl n2 hS' (Nat.mod_lt _ hp)]
   obtain ⟨D,hD⟩:∃D,D=cntS S (l.drop (j+1)):=⟨_,rfl⟩
   have hDp:0<D:=by rw [hD];exact cntS_pos fun w hw=>hS' w (List.mem_of_mem_drop hw)
   have hc:cntS S l=cntS S (l.take j)*(S l[j]*D):=by
    conv=>lhs;rw [←List.take_append_drop j l]
    rw [cntS_app,List.drop_eq_getElem_cons hjl,hD];rfl
   rw [←hD,hc,show cntS S (l.take j)*(S l[j]*D)=D*(S l[j]*cntS S (l.take j)) by rw [Nat.mul_comm (cntS S (l.take j)),Nat.mul_comm (S l[j]) D,Nat.mul_assoc],Nat.mod_mul_right_div_self,Nat.mod_mul_right_mod]
theorem cnt_drop {S:Nat→Nat} {l:List Nat} {i:Nat} (hi:i<l.length):cntS S (l.drop i)=S l[i]*cntS S (l.drop (i+1)):=by
 rw [List.drop_eq_getElem_cons hi];rfl
theorem div_drop {S:Nat→Nat} {l:List Nat} {i k:Nat} (hi:i<l.length):k/cntS S (l.drop (i+1))/S l[i]=k/cntS S (l.drop i):=by
 rw [cnt_drop hi,Nat.div_div_eq_div_mul,Nat.mul_comm]
end Go.Proofs.YthehegidpamldaaGreatDoor
set_option linter.unusedVariables false
set_option linter.unusedSimpArgs false
namespace Go.Proofs.YthehegidpamldaaGreatDoor
def gtrS (a b:Rat):Rat:=if a<b then b else a
end Go.Proofs.YthehegidpamldaaGreatDoor
set_option linter.unusedVariables false
set_option linter.unusedSimpArgs false
namespace Go.Proofs.YthehegidpamldaaGreatDoor
open Go Go.RowKit

def Kont (K A:AS→Prop):Prop:=∀s,A s→K s
theorem Kont.go {K A:AS→Prop} {s:AS} (h:Kont K A) (ha:A s):K s:=h s ha
section
variable {X : Cx} {P : Program} {Q : Exit → AS → Prop} {s s' : AS} {K : AS → Prop}
theorem W_seq {x y:Code} (h:∀K:AS→Prop,Kont K (fun s=>J X P y Q s)→J X P x (athen K Q) s):J X P (.seq x y) Q s:=J_seq h
theorem athen_normal {n:AS→Prop}:athen n Q .normal s=n s:=(rfl)
theorem athen_exit {n:AS→Prop} {i:Nat}:athen n Q (.exit i) s=Q (.exit i) s:=(rfl)
theorem athen_ret {n:AS→Prop}:athen n Q .ret s=Q .ret s:=(rfl)
theorem ablock_normal {i:Nat}:ablock i Q .normal s=Q .normal s:=(rfl)
theorem ablock_ret {i:Nat}:ablock i Q .ret s=Q .ret s:=(rfl)
theorem ablock_exit {i j:Nat}:ablock i Q (.exit j) s=if j=i then Q .normal s else Q (.exit j) s:=(rfl)
theorem W_cond {c:Operand} {x y:Code} (t:Bool) (hc:s.ev c=.f (.v (.bool t))) (h1:t=true→J X P x Q s) (h2:t=false→J X P y Q s):J X P (.cond c x y) Q s:=J_cond hc h1 h2
theorem W_true {c:Operand} {x y:Code} (hc:s.ev c=.f (.v (.bool true))) (h1:J X P x Q s):J X P (.cond c x y) Q s:=J_cond hc (fun _=>h1) (fun h=>by cases h)
theorem W_false {c:Operand} {x y:Code} (hc:s.ev c=.f (.v (.bool false))) (h1:J X P y Q s):J X P (.cond c x y) Q s:=J_cond hc (fun h=>by cases h) (fun _=>h1)
def Jc (v:AV) (X:Cx) (P:Program) (c:Operand) (x y:Code) (Q:Exit→AS→Prop) (s:AS):Prop:=s.ev c=v→J X P (.cond c x y) Q s
theorem J_c {c:Operand} {x y:Code} (h:Jc (s.ev c) X P c x y Q s):J X P (.cond c x y) Q s:=h rfl
theorem Jc_true {c:Operand} {x y:Code} (h:J X P x Q s):Jc (.f (.v (.bool true))) X P c x y Q s:=fun hc=>W_true hc h
theorem Jc_false {c:Operand} {x y:Code} (h:J X P y Q s):Jc (.f (.v (.bool false))) X P c x y Q s:=fun hc=>W_false hc h
theorem Jc_if {c:Operand} {x y:Code} {b:Bool} (h1:b=true→J X P x Q s) (h2:b=false→J X P y Q s):Jc (.f (.v (.bool b))) X P c x y Q s:=fun hc=>W_cond b hc h1 h2
def WeakL (N:Nat):List AV→List AV→Prop
 | [],[]=>True
 | a::l,b::m=>(b=.any∨(b=a∧b.lt0 N=true))∧WeakL N l m
 | _,_=>False
def objLt (N:Nat) (o:AO):Prop:=∀e∈o.es,e.lt0 N=true
def WeakH (N:Nat):AH→AH→Prop
 | _,[]=>True
 | a::l,b::m=>(match b with|none=>True|some o=>a=some o∧objLt N o)∧WeakH N l m
 | _,_=>False
theorem weakL {N:Nat} {l m:List AV} (h:WeakL N l m):m.length=l.length∧∀(j:Nat) x,m[j]?=some x→x=.any∨(l[j]?=some x∧x.lt0 N=true):=by
 induction l generalizing m with
 | nil=>cases m with
  | nil=>exact ⟨rfl,fun j x h=>by simp at h⟩
  | cons b m=>exact h.elim
 | cons a l ih=>cases m with
  | nil=>exact h.elim
  | cons b m =>
   obtain ⟨h1,h2⟩:=h
   obtain ⟨h3,h4⟩:=ih h2
   refine ⟨by simp [h3],fun j x hj=>?_⟩
   cases j with
   | zero =>
    simp at hj;subst hj
    rcases h1 with h1|⟨h1,h5⟩
    ·exact .inl h1
    ·exact .inr ⟨by simp [h1],h5⟩
   | succ j=>simpa using h4 j x (by simpa using hj)
theorem weakH {N:Nat} {l m:AH} (h:WeakH N l m):m.length≤l.length∧∀(r:Nat) o,m[r]?=some (some o)→l[r]?=some (some o)∧∀e∈o.es,e.lt0 N=true:=by
 induction m generalizing l with
 | nil=>exact ⟨Nat.zero_le _,fun j x h=>by simp at h⟩
 | cons b m ih=>cases l with
  | nil=>exact h.elim
  | cons a l =>
   obtain ⟨h1,h2⟩:=h
   obtain ⟨h3,h4⟩:=ih h2
   refine ⟨by simp;omega,fun j x hj=>?_⟩
   cases j with
   | zero =>
    simp at hj;subst hj
    exact ⟨by simpa using h1.1,h1.2⟩
   | succ j=>simpa using h4 j x (by simpa using hj)
theorem weak_of {t t':List AV} {H H':AH} (h1:WeakL H'.length t t') (h2:WeakH H'.length H H'):Weak ⟨t,H⟩ ⟨t',H'⟩:=by
 refine ⟨fun r=>r,(weakL h1).1,fun j x hj=>?_,fun r o hr=>?_,fun r r' _ _ h=>h⟩
 ·rw [ren_id];exact (weakL h1).2 j x hj
 ·have e:o.es.map (AV.ren fun r=>r)=o.es:=by
   rw [List.map_congr_left (fun x _=>ren_id),List.map_id'']
   exact fun _=>rfl
  rw [e];exact (weakH h2).2 r o hr
def WeakLr (g:Nat→Nat) (N:Nat):List AV→List AV→Prop
 | [],[]=>True
 | a::l,b::m=>(b=.any∨(b.ren g=a∧b.lt0 N=true))∧WeakLr g N l m
 | _,_=>False
def WeakHr (g:Nat→Nat) (N:Nat) (H:AH):Nat→AH→Prop
 | _,[]=>True
 | i,b::m=>(match b with|none=>True|some o=>H[g i]?=some (some ⟨o.e,o.sz,o.es.map (AV.ren g)⟩)∧objLt N o)∧WeakHr g N H (i+1) m
theorem weakLr {g:Nat→Nat} {N:Nat} {l m:List AV} (h:WeakLr g N l m):m.length=l.length∧∀(j:Nat) x,m[j]?=some x→x=.any∨(l[j]?=some (x.ren g)∧x.lt0 N=true):=by
 induction l generalizing m with
 | nil=>cases m with
  | nil=>exact ⟨rfl,fun j x h=>by simp at h⟩
  | cons b m=>exact h.elim
 | cons a l ih=>cases m with
  | nil=>exact h.elim
  | cons b m =>
   obtain ⟨h1,h2⟩:=h
   obtain ⟨h3,h4⟩:=ih h2
   refine ⟨by simp [h3],fun j x hj=>?_⟩
   cases j with
   | zero =>
    simp at hj;subst hj
    rcases h1 with h1|⟨h1,h5⟩
    ·exact .inl h1
    ·exact .inr ⟨by simp [h1],h5⟩
   | succ j=>simpa using h4 j x (by simpa using hj)
theorem weakHr {g:Nat→Nat} {N:Nat} {H m:AH} {i:Nat} (h:WeakHr g N H i m):∀(r:Nat) o,m[r]?=some (some o)→H[g (i+r)]?=some (some ⟨o.e,o.sz,o.es.map (AV.ren g)⟩)∧∀e∈o.es,e.lt0 N=true:=by
 induction m generalizing i with
 | nil=>exact fun j x h=>by simp at h
 | cons b m ih =>
  obtain ⟨h1,h2⟩:=h
  intro j x hj
  cases j with
  | zero =>
   simp at hj;subst hj
   exact ⟨h1.1,h1.2⟩
  | succ j =>
   have:=ih h2 j x (by simpa using hj)
   rwa [show i+(j+1)=i+1+j by omega]
def nth (σ:List Nat) (r:Nat):Nat:=σ.getD r 0
theorem weak_ren (σ:List Nat) {t t':List AV} {H H':AH} (h0:σ.Nodup∧H'.length≤σ.length) (h1:WeakLr (nth σ) H'.length t t') (h2:WeakHr (nth σ) H'.length H 0 H'):Weak ⟨t,H⟩ ⟨t',H'⟩:=by
 refine ⟨nth σ,(weakLr h1).1,(weakLr h1).2,fun r o hr=>?_,fun r r' hr hr' h=>?_⟩
 ·have:=weakHr h2 r o hr
  rwa [Nat.zero_add] at this
 ·have a1:r<σ.length:=Nat.lt_of_lt_of_le hr h0.2
  have a2:r'<σ.length:=Nat.lt_of_lt_of_le hr' h0.2
  unfold nth at h
  rw [List.getD_eq_getElem?_getD,List.getD_eq_getElem?_getD,List.getElem?_eq_getElem a1,List.getElem?_eq_getElem a2] at h
  exact (List.getElem_inj h0.1).1 h
theorem weakLr_nil (g:Nat→Nat) (N:Nat):WeakLr g N [] []=True:=(rfl)
theorem weakLr_any (g:Nat→Nat) (N:Nat) (a:AV) (l m:List AV):WeakLr g N (a::l) (.any::m)=WeakLr g N l m:=propext ⟨fun h=>h.2,fun h=>⟨.inl rfl,h⟩⟩
theorem weakLr_f (g:Nat→Nat) (N:Nat) (a:AV) (b:FV) (l m:List AV):WeakLr g N (a::l) (.f b::m)=(AV.f b=a∧WeakLr g N l m):=propext ⟨fun h=>⟨(h.1.resolve_left (by simp)).1,h.2⟩,fun h=>⟨.inr ⟨h.1,rfl⟩,h.2⟩⟩
theorem weakLr_own (g:Nat→Nat) (N r sz o k:Nat) (a:AV) (l m:List AV):WeakLr g N (a::l) (.own r sz o k::m)=(AV.own (g r) sz o k=a∧r<N∧WeakLr g N l m):=propext ⟨fun h=>⟨(h.1.resolve_left (by simp)).1,of_decide_eq_true (h.1.resolve_left (by simp)).2,h.2⟩,fun h=>⟨.inr ⟨h.1,decide_eq_true h.2.1⟩,h.2.2⟩⟩
theorem weakLr_ptr (g:Nat→Nat) (N r sz i j:Nat) (a:AV) (l m:List AV):WeakLr g N (a::l) (.ptr r sz i j::m)=(AV.ptr (g r) sz i j=a∧r<N∧WeakLr g N l m):=propext ⟨fun h=>⟨(h.1.resolve_left (by simp)).1,of_decide_eq_true (h.1.resolve_left (by simp)).2,h.2⟩,fun h=>⟨.inr ⟨h.1,decide_eq_true h.2.1⟩,h.2.2⟩⟩
theorem weakHr_nil (g:Nat→Nat) (N i:Nat) (H:AH):WeakHr g N H i []=True:=(rfl)
theorem weakHr_none (g:Nat→Nat) (N i:Nat) (H m:AH):WeakHr g N H i (none::m)=WeakHr g N H (i+1) m:=propext ⟨fun h=>h.2,fun h=>⟨trivial,h⟩⟩
theorem weakHr_some (g:Nat→Nat) (N i:Nat) (o:AO) (H m:AH):WeakHr g N H i (some o::m)=((H[g i]?=some (some ⟨o.e,o.sz,o.es.map (AV.ren g)⟩)∧objLt N o)∧WeakHr g N H (i+1) m):=(rfl)
theorem ren_f (g:Nat→Nat) (x:FV):(AV.f x).ren g=.f x:=(rfl)
theorem ren_own (g:Nat→Nat) (r sz o k:Nat):(AV.own r sz o k).ren g=.own (g r) sz o k:=(rfl)
theorem ren_ptr (g:Nat→Nat) (r sz i j:Nat):(AV.ptr r sz i j).ren g=.ptr (g r) sz i j:=(rfl)
theorem map_ren_f (g:Nat→Nat) (l:List FV):(l.map AV.f).map (AV.ren g)=l.map AV.f:=by rw [List.map_map];rfl
theorem nth_zero (a:Nat) (l:List Nat):nth (a::l) 0=a:=(rfl)
theorem nth_succ (a i:Nat) (l:List Nat):nth (a::l) (i+1)=nth l i:=(rfl)
theorem lt0_f (N:Nat) (x:FV):(AV.f x).lt0 N=true:=(rfl)
theorem weakL_nil (N:Nat):WeakL N [] []=True:=(rfl)
theorem weakL_any (N:Nat) (a:AV) (l m:List AV):WeakL N (a::l) (.any::m)=WeakL N l m:=propext ⟨fun h=>h.2,fun h=>⟨.inl rfl,h⟩⟩
theorem weakL_f (N:Nat) (a:AV) (b:FV) (l m:List AV):WeakL N (a::l) (.f b::m)=(AV.f b=a∧WeakL N l m):=propext ⟨fun h=>⟨(h.1.resolve_left (by simp)).1,h.2⟩,fun h=>⟨.inr ⟨h.1,rfl⟩,h.2⟩⟩
theorem weakL_own (N r sz o k:Nat) (a:AV) (l m:List AV):WeakL N (a::l) (.own r sz o k::m)=(AV.own r sz o k=a∧r<N∧WeakL N l m):=propext ⟨fun h=>⟨(h.1.resolve_left (by simp)).1,of_decide_eq_true (h.1.resolve_left (by simp)).2,h.2⟩,fun h=>⟨.inr ⟨h.1,decide_eq_true h.2.1⟩,h.2.2⟩⟩
theorem weakL_ptr (N r sz i j:Nat) (a:AV) (l m:List AV):WeakL N (a::l) (.ptr r sz i j::m)=(AV.ptr r sz i j=a∧r<N∧WeakL N l m):=propext ⟨fun h=>⟨(h.1.resolve_left (by simp)).1,of_decide_eq_true (h.1.resolve_left (by simp)).2,h.2⟩,fun h=>⟨.inr ⟨h.1,decide_eq_true h.2.1⟩,h.2.2⟩⟩
theorem weakL_sl (N r sz:Nat) (fs:List FV) (a:AV) (l m:List AV) (h:r<N):WeakL N (a::l) (sl r sz fs::m)=(sl r sz fs=a∧WeakL N l m):=by
 have e:(sl r sz fs).lt0 N=true:=by cases fs<;>first|rfl|exact decide_eq_true h
 refine propext ⟨fun h=>⟨?_,h.2⟩,fun h=>⟨.inr ⟨h.1,e⟩,h.2⟩⟩
 rcases h.1 with h|h
 ·cases fs<;>cases h
 ·exact h.1
theorem weakH_nil (N:Nat) (l:AH):WeakH N l []=True:=by unfold WeakH;rfl
theorem weakH_none (N:Nat) (a:Option AO) (l m:AH):WeakH N (a::l) (none::m)=WeakH N l m:=propext ⟨fun h=>h.2,fun h=>⟨trivial,h⟩⟩
theorem weakH_some (N:Nat) (a:Option AO) (o:AO) (l m:AH):WeakH N (a::l) (some o::m)=((a=some o∧objLt N o)∧WeakH N l m):=(rfl)
theorem weakH_ob (N:Nat) (e:TypeId) (sz:Nat) (fs:List FV) (a:Option AO) (l m:AH):WeakH N (a::l) (ob e sz fs::m)=((fs=[]∨a=ob e sz fs)∧WeakH N l m):=by
 cases fs with
 | nil=>exact propext ⟨fun h=>⟨.inl rfl,h.2⟩,fun h=>⟨trivial,h.2⟩⟩
 | cons b fs=>exact propext ⟨fun h=>⟨.inr h.1.1,h.2⟩,fun h=>⟨⟨h.1.resolve_left (by simp),fun x hx=>by obtain ⟨y,_,rfl⟩:=List.mem_map.1 (show x∈List.map AV.f (b::fs) from hx);rfl⟩,h.2⟩⟩
theorem objLt_f (N:Nat) (e:TypeId) (sz:Nat) (es:List FV):objLt N ⟨e,sz,es.map .f⟩=True:=propext ⟨fun _=>trivial,fun _ x hx=>by obtain ⟨y,_,rfl⟩:=List.mem_map.1 hx;rfl⟩
theorem objLt_nil (N:Nat) (e:TypeId) (sz:Nat):objLt N ⟨e,sz,[]⟩=True:=propext ⟨fun _=>trivial,fun _ x hx=>by cases hx⟩
theorem objLt_cons (N:Nat) (e:TypeId) (sz:Nat) (a:AV) (l:List AV):objLt N ⟨e,sz,a::l⟩=(a.lt0 N=true∧objLt N ⟨e,sz,l⟩):=propext ⟨fun h=>⟨h a (by simp),fun x hx=>h x (by simp [show x∈l from hx])⟩,fun h x hx=>by
 rcases List.mem_cons.1 (show x∈a::l from hx) with rfl|hx
 ·exact h.1
 ·exact h.2 x hx⟩
theorem objLt_rep (N:Nat) (e:TypeId) (sz n:Nat) (x:FV):objLt N ⟨e,sz,List.replicate n (.f x)⟩=True:=propext ⟨fun _=>trivial,fun _ y hy=>by rw [List.eq_of_mem_replicate hy];rfl⟩
theorem objLt_app (N:Nat) (e:TypeId) (sz:Nat) (a b:List AV):objLt N ⟨e,sz,a++b⟩=(objLt N ⟨e,sz,a⟩∧objLt N ⟨e,sz,b⟩):=propext ⟨fun h=>⟨fun x hx=>h x (List.mem_append.2 (.inl hx)),fun x hx=>h x (List.mem_append.2 (.inr hx))⟩,fun h x hx=>by
 rcases List.mem_append.1 (show x∈a++b from hx) with hx|hx
 ·exact h.1 x hx
 ·exact h.2 x hx⟩
theorem Frz.aggL {H:List (Option AO)} {cs:List AV} {ds:List FV} (h:FrzL H cs ds):Frz H (.agg cs) (.agg ds):=.agg cs ds h.1 h.2
theorem FrzL.fs {H:List (Option AO)} (ds:List FV):FrzL H (ds.map .f) ds:=⟨by simp,fun j x y hx hy=>by
 rw [List.getElem?_map,hy] at hx;cases hx;exact .f _⟩
def msk (ws:List Nat) (l:List AV):List AV:=ws.foldl (fun l i=>l.set i .any) l
def sets (up:List (Nat × AV)) (l:List AV):List AV:=up.foldl (fun l p=>l.set p.1 p.2) l
theorem msk_nil (l:List AV):msk [] l=l:=(rfl)
theorem msk_cons (i:Nat) (ws:List Nat) (l:List AV):msk (i::ws) l=msk ws (l.set i .any):=(rfl)
theorem sets_nil (l:List AV):sets [] l=l:=(rfl)
theorem sets_cons (p:Nat × AV) (up:List (Nat × AV)) (l:List AV):sets (p::up) l=sets up (l.set p.1 p.2):=(rfl)
theorem W_loop {c:Code} {γ:Type} {t:List AV} {H:AH} (ws:List Nat) (up:γ→List (Nat × AV)) (hp:γ→AH) (I:γ→Prop) (μ:γ→Nat) (x0:γ) (h0:I x0) (hw:Weak ⟨t,H⟩ ⟨sets (up x0) (msk ws t),hp x0⟩)
  (round:∀x,I x→J X P c (athen (fun s=>∃y,I y∧μ y<μ x∧Weak s ⟨sets (up y) (msk ws t),hp y⟩) Q) ⟨sets (up x) (msk ws t),hp x⟩):J X P (.loop c) Q ⟨t,H⟩ :=
 J_loop (fun x=>⟨sets (up x) (msk ws t),hp x⟩) I μ x0 h0 hw round
theorem J_mono {c:Code} {Q Q':Exit→AS→Prop} {s:AS} (h:J X P c Q s) (hq:∀e s,Q e s→Q' e s):J X P c Q' s:=fun hk a w R=>wpIn_mono (h hk a w R) fun e a w ⟨s,hs,hr⟩=>⟨s,hq e s hs,hr⟩
theorem Jc_join {v:AV} {c:Operand} {x y r:Code} {Q':Exit→AS→Prop} {γ:Type} {t:List AV} {H:AH} (hK:Kont K (fun s=>J X P r Q' s)) (ws:List Nat) (up:γ→List (Nat × AV)) (hp:γ→AH) (I:γ→Prop)
  (h1:Jc v X P c x y (athen (fun s=>∃z,I z∧Weak s ⟨sets (up z) (msk ws t),hp z⟩) Q) ⟨t,H⟩) (h2:∀z,I z→J X P r Q' ⟨sets (up z) (msk ws t),hp z⟩):Jc v X P c x y (athen K Q) ⟨t,H⟩:=fun hc =>
 J_mono (h1 hc) fun e s hs=>by
  cases e with
  | normal=>obtain ⟨z,hz,hw⟩:=hs;exact hK s (J_weak hw (h2 z hz))
  | _=>exact hs
theorem call_f {f:FuncId} {xs:List AV} {d:Option Tmp} {zs:List FV} {r:FV} (hg:Good P f zs r) (hx:xs=zs.map .f) (hK:K (s.put d (.f r))):acall P f xs s d K:=by
 refine .inl ⟨zs,r,⟨by rw [hx];simp,fun j x y h1 h2=>?_⟩,hg,.inl fun x hxm=>?_,hK⟩
 ·rw [hx,List.getElem?_map,h2] at h1
  cases h1;exact .f y
 ·rw [hx] at hxm
  obtain ⟨y,_,rfl⟩:=List.mem_map.1 hxm
  exact ⟨y,rfl⟩
theorem call_fl {f:FuncId} {xs:List AV} {d:Option Tmp} {zs:List FV} {r:FV} (hg:Good P f zs r) (hf:FlatF r) (hz:FrzL s.H xs zs) (hK:K (s.put d (.f r))):acall P f xs s d K:=.inl ⟨zs,r,hz,hg,.inr (.inl hf),hK⟩
theorem call_o {f:FuncId} {xs:List AV} {d:Option Tmp} {zs:List FV} {r:RV} (hg:GoodO P f zs r) (hz:FrzL s.H xs zs) (hK:K (AS.put ⟨s.t,s.H++r.hp⟩ d (r.av s.H.length))):acall P f xs s d K:=.inr (.inl ⟨zs,r,hz,hg,hK⟩)
theorem call_ot {f:FuncId} {xs:List AV} {d:Option Tmp} {zs:List FV} {r:RV} {rs:List FV} (hg:GoodOT P f zs r rs) (hz:FrzL s.H xs zs) (hK:K (AS.put ⟨s.t,s.H++r.hp⟩ d (.tup (r.av s.H.length::rs.map .f)))):acall P f xs s d K:=.inr (.inr (.inl ⟨zs,r,rs,hz,hg,hK⟩))
theorem call_u {f:FuncId} {xs:List AV} {d:Option Tmp} {v:AV} {H':AH} (hu:CallU P f xs s.H (fun u G=>u=v∧G=H')) (hK:K (AS.put ⟨s.t,H'⟩ d v)):acall P f xs s d K:=.inr (.inr (.inr (.inr ⟨_,hu.t s.t,fun u s' ⟨H1,e,h⟩=>by rw [e,h.1,h.2];exact hK⟩)))
theorem call_uo {f:FuncId} {xs:List AV} {d:Option Tmp} {O:AV→AH→Prop} (hu:CallU P f xs s.H O) (hK:∀v H',O v H'→K (AS.put ⟨s.t,H'⟩ d v)):acall P f xs s d K:=.inr (.inr (.inr (.inr ⟨_,hu.t s.t,fun v s' ⟨H1,e,h⟩=>by rw [e];exact hK v H1 h⟩)))
theorem callQ_f {f:FuncId} {xs:List AV} {H:AH} {k:AV→Prop} {zs:List FV} {r:FV} (hg:Good P f zs r) (hx:xs=zs.map .f) (hK:k (.f r)):acallQ P f xs H k:=by
 refine ⟨zs,r,⟨by rw [hx];simp,fun j x y h1 h2=>?_⟩,hg,.inl fun x hxm=>?_,hK⟩
 ·rw [hx,List.getElem?_map,h2] at h1
  cases h1;exact .f y
 ·rw [hx] at hxm
  obtain ⟨y,_,rfl⟩:=List.mem_map.1 hxm
  exact ⟨y,rfl⟩
end
theorem wrap_in {n:Int} (h0:-9223372036854775808≤n) (h1:n≤9223372036854775807):IntKind.i64.wrap n=n:=by rw [IntKind.wrap_i64];omega
theorem map_get {α:Type} (f:α→FV) (l:List α) {i:Nat} (h:i<l.length):(l.map f)[i]?=some (f l[i]):=by rw [List.getElem?_map,List.getElem?_eq_getElem h];rfl
theorem mm_get {α:Type} (g:α→FV) (l:List α) {i:Nat} (h:i<l.length):((l.map g).map AV.f)[i]?=some (.f (g l[i])):=by rw [List.getElem?_map,List.getElem?_map,List.getElem?_eq_getElem h];rfl
theorem tk_next {α β:Type} (f:α→β) (l:List α) {j:Nat} (h:j<l.length):(l.take j).map f++[f l[j]]=(l.take (j+1)).map f:=by
 rw [List.take_add_one,List.getElem?_eq_getElem h,List.map_append];rfl
theorem tk_all {α β:Type} (f:α→β) (l:List α) {n:Nat} (h:l.length≤n):(l.take n).map f=l.map f:=by rw [List.take_of_length_le h]
attribute [go_sem] athen_normal athen_exit athen_ret ablock_normal ablock_ret ablock_exit wrap_in msk_nil msk_cons sets_nil sets_cons weakL_nil weakL_any weakL_f weakL_own weakL_ptr
attribute [go_sem] weakH_nil weakH_none weakH_ob weakH_some weakL_sl objLt_f objLt_nil objLt_cons objLt_rep objLt_app lt0_f weakLr_nil weakLr_any weakLr_f weakLr_own weakLr_ptr
attribute [go_sem] weakHr_nil weakHr_none weakHr_some ren_f ren_own ren_ptr map_ren_f nth_zero nth_succ
end Go.Proofs.YthehegidpamldaaGreatDoor
