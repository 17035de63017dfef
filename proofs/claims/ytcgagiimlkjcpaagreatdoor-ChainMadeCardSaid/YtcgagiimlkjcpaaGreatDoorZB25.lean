/- The document's sums over trees, shares, what is still: walked. Conditions: numbers of 10^3 bytes each, five states. -/
import Derived.Test.YtcgagiimlkjcpaaGreatDoorZB22
import Derived.Test.YtcgagiimlkjcpaaGreatDoorZBckW
import Derived.Test.YtcgagiimlkjcpaaGreatDoorZB24
import Derived.Test.YtcgagiimlkjcpaaGreatDoorZB20
import Derived.Test.YtcgagiimlkjcpaaGreatDoorZB21
import Derived.Test.YtcgagiimlkjcpaaGreatDoorZB18
set_option linter.unusedVariables false
set_option linter.unusedSimpArgs false
namespace Go.Proofs.YtcgagiimlkjcpaaGreatDoor
open Go Go.RowKit
def shTo (l:List Rat) (s:Rat) (x:Nat):List FV:=(List.range x).map fun i=>fr (l.getD i 0/s)
section
variable {l : List Rat} {s : Rat} {x : Nat}
theorem shTo_zero:shTo l s 0=[]:=rfl
theorem shTo_len:(shTo l s x).length=x:=by simp [shTo]
theorem shTo_next:shTo l s x++[fr (l.getD x 0/s)]=shTo l s (x+1):=by simp [shTo,List.range_succ]
attribute [go_sem] shTo_zero
set_option maxRecDepth 100000 in
set_option maxHeartbeats 4000000 in
theorem share_w {k:Nat} {xs:List FV} (hl:Frs k xs l) (h1:1≤k) (hn:l.length≤1000) (hk:k≤10000000) (h0:sumR l≠0):Good Tryz.prog 106 [.fz 3 xs] (.tup [.fz 3 (shTo l (sumR l) l.length),I 0]):=by
 have hs:=rsum_w hl h1 hn hk
 have hsz:=sumTo_fz (hl.row h1) l.length (Nat.le_refl _)
 have hb:=Nat.mul_le_mul_right (k+1) hn
 have fs:IsFr (fr (sumR l)) (sumR l) (8+l.length*(k+1)):=IsFr.c hsz
 obtain ⟨S,hS⟩:∃S,S=sumR l:=⟨_,rfl⟩
 rw [←hS] at hs fs h0 ⊢
 have hxl:=hl.len
 refine good_of Tryz.func106 rfl (by kernel_rfl) fun X hO hrd=>?_;rw [Tryz.ntmps106,Tryz.results106];simp only [ast0,List.map_cons,List.map_nil,List.length_cons,List.length_nil,Nat.reduceAdd,Nat.reduceSub,List.replicate_succ,List.replicate_zero,List.cons_append,List.nil_append]
 repeat (with_reducible first|refine W_seq fun K hK=>?_|refine J_region ?_ |(refine Kont.go (by assumption) ?_)|(simp (config:={ maxSteps:=3000000 }) (disch:=omega) only [go_sem]))
 refine call_f hs rfl ?_
 repeat (with_reducible first|refine W_seq fun K hK=>?_|refine J_block ?_|refine J_region ?_ |(refine Kont.go (by assumption) ?_)|(simp (config:={ maxSteps:=3000000 }) (disch:=omega) only [go_sem,↓reduceIte,Nat.reduceAdd]))
 refine J_reserve ?_
 refine W_loop [2,3,5,6,7,8,11,12,13,14,15,16,17,18,19,20,21,22,23,24,25,26,27,28,29,30,31,32] (fun x:Nat=>[(5,sl 1 3 (shTo l S x)),(6,.f (I x))]) (fun x:Nat=>[oF (fr S),ob 44 3 (shTo l S x)]) (fun x:Nat=>x≤l.length) (fun x:Nat=>l.length-x) (0) (Nat.zero_le _) (by refine weak_of ?_ ?_<;>simp (disch:=omega) only [go_sem,Nat.reduceAdd]<;>first|rfl|exact ⟨rfl,rfl⟩|exact Or.inl rfl|exact ⟨Or.inl rfl,Or.inl rfl⟩|trivial|assumption|omega|(symm;assumption)|((repeat' apply And.intro)<;>first|rfl|omega|trivial|exact .inr ⟨rfl,rfl⟩|exact .inr rfl|(right;symm;assumption)|(symm;assumption)|assumption)) ?_
 rintro i hi
 simp only [go_sem]
 repeat (with_reducible first|refine W_seq fun K hK=>?_|refine J_region ?_ |refine J_c ?_|(refine Kont.go (by assumption) ?_)|(simp (config:={ maxSteps:=3000000 }) (disch:=omega) only [go_sem,hxl]))
 refine Jc_if (fun hil=>?_) (fun hil=>?_)<;>try simp only [decide_eq_true_eq,decide_eq_false_iff_not] at hil
 ·have hnx:=shTo_next (l:=l) (s:=S) (x:=i)
  have hlt:=shTo_len (l:=l) (s:=S) (x:=i)
  obtain ⟨g1,n1,d1,x1,f1⟩:=hl.at3 (i:=i) hil
  rw [←lget_lt l 0 hil] at f1
  repeat (first|(with_reducible first|refine W_seq fun K hK=>?_|refine J_block ?_|refine J_skip ?_|refine J_region ?_ |refine J_drawn mixed (by kernel_rfl) ?_|refine aApp_sl ?_|refine J_c ?_|refine Jc_false ?_|(refine Kont.go (by assumption) ?_)|(simp (config:={ maxSteps:=3000000 }) (disch:=omega) only [go_sem,Nat.reduceEqDiff,↓reduceIte,Nat.reduceAdd,Nat.reduceLeDiff,x1,hnx,hlt,Nat.reduceMul,Nat.le_refl,true_and,and_self]))|refine callQ_f (rdiv_w (by assumption) (by assumption) (by omega) (by omega) (by assumption)) rfl ?_|refine And.intro (by omega) ?_)
  refine ⟨i+1,by omega,by omega,weak_of ?_ ?_⟩<;>(try simp (disch:=omega) only [go_sem,Nat.reduceAdd])<;>(try first|done|omega|rfl|exact ⟨rfl,rfl⟩|trivial)
 ·have he:i=l.length:=by omega
  subst he
  repeat (with_reducible first|refine W_seq fun K hK=>?_|refine J_exit ?_|refine J_ret ?_|refine J_region ?_ |(refine Kont.go (by assumption) ?_)|(simp (config:={ maxSteps:=3000000 }) (disch:=omega) only [go_sem,↓reduceIte]))
  exact ⟨_,rfl,FrzL.cons (Frz.sl rfl) (FrzL.cons (.f _) (FrzL.nil _))⟩
end
section
variable {b L r : Nat} {Q : Mx}
theorem trS_fz (hq:∀i k,i<L→k<L→Fz (Q i k) b) (hL:L≤6):∀{d p:Nat} {g:Fn},p+d=L→Fz (trS L Q r d p g) (szQ b d):=by
 intro d
 induction d with
 | zero =>
  intro p g _
  show Fz (if allTo L r g=true then (1:Rat) else 0) 8
  split
  ·exact Fz.int (n:=1) (by decide)
  ·exact Fz.int (n:=0) (by decide)
 | succ d ih =>
  intro p g hp
  show Fz (if p=r then trS L Q r d (p+1) (upd g p p) else sumF (fun k=>if k=p∨Q p k=0 then 0 else trS L Q r d (p+1) (upd g p k)*Q p k) L) (8+6*(szQ b d+b+1))
  have h8:8≤szQ b d:=by cases d with|zero=>exact Nat.le_refl _|succ d=>show 8≤8+_;omega
  split
  ·exact (ih (by omega)).up (by omega)
  ·refine (sumF_fz (n:=L) (s:=szQ b d+b) fun k hk=>?_).up ?_
   ·split
    ·exact (Fz.int (n:=0) (by decide)).up (by omega)
    ·exact (ih (by omega)).mul (hq p k (by omega) hk)
   ·have:=Nat.mul_le_mul_right (szQ b d+b+1) hL
    omega
theorem nx_upd {nx:List Nat} {p k:Nat} (h:nx.length=p):(fun i=>(nx++[k]).getD i 0)=upd (fun i=>nx.getD i 0) p k:=by
 funext i
 unfold upd
 by_cases e:i=p
 ·rw [if_pos e,e,←h];simp [List.getD]
 ·rw [if_neg e]
  show (nx++[k]).getD i 0=nx.getD i 0
  by_cases hi:i<p
  ·rw [List.getD_eq_getElem?_getD,List.getD_eq_getElem?_getD,List.getElem?_append_left (by omega)]
  ·rw [List.getD_eq_getElem?_getD,List.getD_eq_getElem?_getD,List.getElem?_eq_none (by simp;omega),List.getElem?_eq_none (by omega)]
end
set_option maxRecDepth 100000 in
set_option maxHeartbeats 16000000 in
theorem trees_w {b:Nat} {ys:List FV} {m:List (List Rat)} {l:List Nat} {r:Nat} (hm:SqM b ys m) (h1:1≤b) (hb:b≤1000) (hnd:l.Nodup) (hlm:∀s∈l,s<m.length) (hr:r<l.length) (hl5:l.length≤5) :
  ∀{d p:Nat} {nx:List Nat},p+d=l.length→nx.length=p→(∀x∈nx,x<l.length) →
  Good Tryz.prog 105 [.fz 1 ys,.fz 1 (Ns l),I (l.getD r 0:Nat),I (p:Nat),.fz 1 (Ns nx)] (fr (trS l.length (inQ m l) r d p (fun i=>nx.getD i 0))):=by
 obtain ⟨L,hL⟩:∃L,L=l.length:=⟨_,rfl⟩
 have hNl:(Ns l).length=L:=by rw [Ns_len,hL]
 have hNg:∀q,q<L→(Ns l)[q]?=some (I (l.getD q 0:Nat)):=fun q hq=>Ns_get (by omega)
 have hinj:∀a c,a<L→c<L→(l.getD a 0=l.getD c 0)=(a=c):=fun a c ha hc=>propext ⟨fun h=>by
  rw [lget_lt l 0 (by omega),lget_lt l 0 (by omega)] at h
  exact nodup_inj hnd (by omega) (by omega) h,fun h=>by rw [h]⟩
 have hgl:∀q,q<L→l.getD q 0<m.length:=fun q hq=>by rw [lget_lt l 0 (by omega)];exact hlm _ (List.getElem_mem _)
 have hn6:=hm.le
 rw [←hL] at hr hl5 ⊢
 have hqz:∀i k,i<L→k<L→Fz (inQ m l i k) b:=fun i k hi hk=>hm.f2 h1 (hgl i hi) (hgl k hk)
 intro d
 induction d with
 | zero =>
  intro p nx hp hnx hnl
  obtain ⟨g,hg⟩:∃g:Fn,g=fun i=>nx.getD i 0:=⟨_,rfl⟩
  rw [←hg]
  have hpL:p=L:=by omega
  subst hpL
  have hgL:∀i,i<p→g i<p:=fun i hi=>by rw [hg];show nx.getD i 0<p;rw [lget_lt nx 0 (by omega)];exact hnl _ (List.getElem_mem _)
  have hXg:∀q,q<p→(Ns nx)[q]?=some (I (g q:Nat)):=fun q hq=>by rw [hg];exact Ns_get (by omega)
  have hXl:(Ns nx).length=p:=by rw [Ns_len,hnx]
  have hone:fr ((1:Int):Rat)=fr (1:Rat):=rfl
  have hzero:fr ((0:Int):Rat)=fr (0:Rat):=rfl
  have hv:trS p (inQ m l) r 0 p g=if allTo p r g=true then 1 else 0:=rfl
  rw [hv]
  obtain ⟨U,hU⟩:∃U:Nat→Bool,U=fun j=>(List.range (p+1)).any fun n=>it g n j==r:=⟨_,rfl⟩
  refine good_of Tryz.func105 rfl (by kernel_rfl) fun X hO hrd=>?_;rw [Tryz.ntmps105,Tryz.results105];simp only [ast0,List.map_cons,List.map_nil,List.length_cons,List.length_nil,Nat.reduceAdd,Nat.reduceSub,List.replicate_succ,List.replicate_zero,List.cons_append,List.nil_append]
  repeat (with_reducible first|refine W_seq fun K hK=>?_|refine J_block ?_|refine J_region ?_ |refine J_c ?_|refine Jc_true ?_|(refine Kont.go (by assumption) ?_)|(simp (config:={ maxSteps:=3000000 }) (disch:=omega) only [go_sem,Nat.reduceAdd,hNl]))
  refine W_loop [11,12,13,22,23,24,25,26,27,28,29,30,31,32,33,34,35,36,37,38,39,40,41,42,43,44,45,46,47,48,49,50,51,52,53] (fun x:Nat=>[(11,.f (I x))]) (fun x:Nat=>[oF zF]) (fun x:Nat=>x≤p∧∀j,j<x→U j=true) (fun x:Nat=>p-x) (0) (⟨Nat.zero_le _,fun j h=>by omega⟩) (by refine weak_of ?_ ?_<;>simp (disch:=omega) only [go_sem]<;>first|rfl|exact ⟨rfl,rfl⟩|exact Or.inl rfl|exact ⟨Or.inl rfl,Or.inl rfl⟩|trivial|assumption|omega|(symm;assumption)|((repeat' apply And.intro)<;>first|rfl|omega|trivial|exact .inr ⟨rfl,rfl⟩|exact .inr rfl|(right;symm;assumption)|(symm;assumption)|assumption)) ?_
  rintro i ⟨hi,hup⟩
  simp only [go_sem]
  repeat (with_reducible first|refine W_seq fun K hK=>?_|refine J_region ?_ |refine J_c ?_|(refine Kont.go (by assumption) ?_)|(simp (config:={ maxSteps:=3000000 }) (disch:=omega) only [go_sem,hNl]))
  refine Jc_if (fun hil=>?_) (fun hil=>?_)<;>try simp only [decide_eq_true_eq,decide_eq_false_iff_not] at hil
  ·repeat (with_reducible first|refine W_seq fun K hK=>?_|refine J_block ?_|refine J_skip ?_|refine J_region ?_ |(refine Kont.go (by assumption) ?_)|(simp (config:={ maxSteps:=3000000 }) (disch:=omega) only [go_sem]))
   refine W_loop [12,13,29,30,31,32,33,34,35,36,37,38,39,40,41,42,43,44,45,46] (fun x:Nat=>[(12,.f (I (it g x i:Nat))),(13,.f (I x))]) (fun x:Nat=>[oF zF]) (fun x:Nat=>x≤p∧∀j,j<x→it g j i≠r) (fun x:Nat=>p-x) (0) (⟨Nat.zero_le _,fun j h=>by omega⟩) (by refine weak_of ?_ ?_<;>simp (disch:=omega) only [go_sem]<;>first|rfl|exact ⟨rfl,rfl⟩|exact Or.inl rfl|exact ⟨Or.inl rfl,Or.inl rfl⟩|trivial|assumption|omega|(symm;assumption)|((repeat' apply And.intro)<;>first|rfl|omega|trivial|exact .inr ⟨rfl,rfl⟩|exact .inr rfl|(right;symm;assumption)|(symm;assumption)|assumption)) ?_
   rintro x ⟨hx,hne⟩
   simp only [go_sem]
   have hkp:=it_lt hgL hil x
   have gk:=hNg _ hkp
   have gn:=hXg _ hkp
   have hkr:=hinj (it g x i) r hkp hr
   by_cases hxl:x<p
   ·by_cases hk:it g x i=r
    ·have hkr2:(l.getD (it g x i) 0=l.getD r 0)=True:=by rw [hkr];exact eq_true hk
     have hok:U i=true:=by rw [hU];exact List.any_eq_true.2 ⟨x,List.mem_range.2 (by omega),by rw [hk];exact beq_self_eq_true r⟩
     repeat (with_reducible first|refine W_seq fun K hK=>?_|refine J_skip ?_|refine J_exit ?_|refine J_region ?_ |refine J_c ?_|refine Jc_false ?_|(refine Kont.go (by assumption) ?_)|(simp (config:={ maxSteps:=3000000 }) (disch:=omega) only [go_sem,↓reduceIte,hNl,hxl,gk,hkr2,Int.natCast_inj,decide_true,Bool.not_true]))
     refine ⟨i+1,⟨by omega,upto_next (p:=fun j=>U j=true) hup hok⟩,by omega,weak_of ?_ ?_⟩<;>(try simp (disch:=omega) only [go_sem])<;>(try first|done|omega|rfl|exact ⟨rfl,rfl⟩|trivial)
    ·have hkr2:(l.getD (it g x i) 0=l.getD r 0)=False:=by rw [hkr];exact eq_false hk
     have hst:it g (x+1) i=g (it g x i):=rfl
     repeat (with_reducible first|refine W_seq fun K hK=>?_|refine J_block ?_|refine J_skip ?_|refine J_region ?_ |refine J_c ?_|refine Jc_true ?_|(refine Kont.go (by assumption) ?_)|(simp (config:={ maxSteps:=3000000 }) (disch:=omega) only [go_sem,↓reduceIte,hNl,hxl,gk,gn,hkr2,Int.natCast_inj,decide_false,Bool.not_false]))
     refine ⟨x+1,⟨by omega,upto_next (p:=fun j=>it g j i≠r) hne hk⟩,by omega,weak_of ?_ ?_⟩<;>(try simp (disch:=omega) only [go_sem])<;>(try first|done|omega|rfl|exact ⟨rfl,rfl⟩|trivial)
   ·have hxp:x=p:=by omega
    by_cases hk:it g x i=r
    ·have hkr2:(l.getD (it g x i) 0=l.getD r 0)=True:=by rw [hkr];exact eq_true hk
     have hok:U i=true:=by rw [hU];exact List.any_eq_true.2 ⟨x,List.mem_range.2 (by omega),by rw [hk];exact beq_self_eq_true r⟩
     repeat (with_reducible first|refine W_seq fun K hK=>?_|refine J_skip ?_|refine J_exit ?_|refine J_region ?_ |refine J_c ?_|refine Jc_false ?_|(refine Kont.go (by assumption) ?_)|(simp (config:={ maxSteps:=3000000 }) (disch:=omega) only [go_sem,↓reduceIte,hNl,hxl,gk,hkr2,Int.natCast_inj,decide_true,Bool.not_true]))
     refine ⟨i+1,⟨by omega,upto_next (p:=fun j=>U j=true) hup hok⟩,by omega,weak_of ?_ ?_⟩<;>(try simp (disch:=omega) only [go_sem])<;>(try first|done|omega|rfl|exact ⟨rfl,rfl⟩|trivial)
    ·have hkr2:(l.getD (it g x i) 0=l.getD r 0)=False:=by rw [hkr];exact eq_false hk
     have hno:allTo p r g=false:=by
      cases ha:allTo p r g with
      | false=>rfl
      | true =>
       unfold allTo at ha
       rw [List.all_eq_true] at ha
       obtain ⟨n,hn,e⟩:=List.any_eq_true.1 (ha i (List.mem_range.2 hil))
       have e:=eq_of_beq e
       have hn:=List.mem_range.1 hn
       by_cases hnx2:n<x
       ·exact absurd e (hne n hnx2)
       ·have:n=x:=by omega
        rw [this] at e
        exact absurd e hk
     repeat (first|(with_reducible first|refine W_seq fun K hK=>?_|refine J_exit ?_|refine J_ret ?_|refine J_region ?_ |refine J_c ?_|refine Jc_true ?_|refine Jc_false ?_|(refine Kont.go (by assumption) ?_)|(simp (config:={ maxSteps:=3000000 }) (disch:=omega) only [go_sem,↓reduceIte,Nat.reduceAdd,hNl,hxl,gk,hkr2,hzero,Int.natCast_inj,decide_false,Bool.not_false]))|refine call_f (rof_frac (by omega) (by omega)) rfl ?_)
     rw [hno,if_neg (by decide)]
     exact Frz.f _
  ·have he:i=p:=by omega
   subst he
   have hyes:allTo i r g=true:=by
    unfold allTo
    rw [List.all_eq_true]
    exact fun j hj=>by have:=hup j (List.mem_range.1 hj);rw [hU] at this;exact this
   repeat (first|(with_reducible first|refine W_seq fun K hK=>?_|refine J_exit ?_|refine J_ret ?_|refine J_region ?_ |(refine Kont.go (by assumption) ?_)|(simp (config:={ maxSteps:=3000000 }) (disch:=omega) only [go_sem,↓reduceIte,Nat.reduceAdd,hone]))|refine call_f (rof_frac (by omega) (by omega)) rfl ?_)
   rw [hyes,if_pos rfl]
   exact Frz.f _
 | succ d ih =>
  intro p nx hp hnx hnl
  obtain ⟨g,hg⟩:∃g:Fn,g=fun i=>nx.getD i 0:=⟨_,rfl⟩
  rw [←hg]
  have hpL:p<L:=by omega
  have hpn:¬((p:Int)=(L:Int)):=by omega
  have gp:=hNg p hpL
  have hpr:=hinj p r hpL hr
  have hXl:(Ns nx).length=p:=by rw [Ns_len,hnx]
  have hap:∀k:Nat,(Ns nx)++[I (k:Int)]=Ns (nx++[k]):=fun k=>Ns_snoc
  have hcall:∀k,k<L→Good Tryz.prog 105 [.fz 1 ys,.fz 1 (Ns l),I (l.getD r 0:Nat),I ((p:Int)+1),.fz 1 (Ns (nx++[k]))] (fr (trS L (inQ m l) r d (p+1) (upd g p k))):=fun k hk=>by
   have:=ih (p:=p+1) (nx:=nx++[k]) (by omega) (by simp [hnx]) (fun x hx=>by
    rcases List.mem_append.1 hx with hx|hx
    ·exact hnl x hx
    ·rw [List.mem_singleton.1 hx];exact hk)
   rw [nx_upd hnx,←hg] at this
   exact this
  have hsn:∀k:Nat,List.take p (List.map AV.f (Ns nx))++[AV.f (I (k:Int))]=List.map AV.f (Ns (nx++[k])):=fun k=>by
   rw [List.take_of_length_le (by rw [List.length_map,hXl];exact Nat.le_refl _),←hap,List.map_append];rfl
  have hsl:∀k:Nat,p+1=(Ns (nx++[k])).length:=fun k=>by rw [Ns_len];simp [hnx]
  by_cases hpr2:p=r
  ·have hv:trS L (inQ m l) r (d+1) p g=trS L (inQ m l) r d (p+1) (upd g p p):=if_pos hpr2
   have hpt:(l.getD p 0=l.getD r 0)=True:=by rw [hpr];exact eq_true hpr2
   rw [hv]
   refine good_of Tryz.func105 rfl (by kernel_rfl) fun X hO hrd=>?_;rw [Tryz.ntmps105,Tryz.results105];simp only [ast0,List.map_cons,List.map_nil,List.length_cons,List.length_nil,Nat.reduceAdd,Nat.reduceSub,List.replicate_succ,List.replicate_zero,List.cons_append,List.nil_append]
   repeat (first|(with_reducible first|refine W_seq fun K hK=>?_|refine J_skip ?_|refine J_region ?_ |refine aApp_old ?_|refine J_c ?_|refine Jc_true ?_|refine Jc_false ?_|(refine Kont.go (by assumption) ?_)|(simp (config:={ maxSteps:=3000000 }) (disch:=omega) only [go_sem,↓reduceIte,Nat.reduceAdd,Nat.reduceLeDiff,hNl,hpn,gp,hpt,hXl,hsn,Int.natCast_inj,decide_true]))|refine And.intro (by omega) ?_)
   refine call_fl (hcall p hpL) (flat_fr _) (FrzL.cons (.f _) (FrzL.cons (.f _) (FrzL.cons (.f _) (FrzL.cons (.f _) (FrzL.cons (Frz.own0 rfl (hsl p)) (FrzL.nil _)))))) ?_
   repeat (with_reducible first|refine J_ret ?_|exact Frz.f _|(refine Kont.go (by assumption) ?_)|(simp (config:={ maxSteps:=3000000 }) (disch:=omega) only [go_sem,↓reduceIte,Nat.reduceAdd]))
  ·obtain ⟨T,hT⟩:∃T:Nat→Rat,T=fun k=>if k=p∨inQ m l p k=0 then 0 else trS L (inQ m l) r d (p+1) (upd g p k)*inQ m l p k:=⟨_,rfl⟩
   have hv:trS L (inQ m l) r (d+1) p g=sumF T L:=by rw [hT];exact if_neg hpr2
   have hpt:(l.getD p 0=l.getD r 0)=False:=by rw [hpr];exact eq_false hpr2
   have hs0:fr ((0:Int):Rat)=fr (sumF T 0):=rfl
   have hsz:=szQ_le hb d (by omega)
   have hdz:∀k,k<L→Fz (trS L (inQ m l) r d (p+1) (upd g p k)) (szQ b d):=fun k hk=>trS_fz hqz (by omega) (by omega)
   obtain ⟨Sz,hSz⟩:∃Sz,Sz=szQ b d:=⟨_,rfl⟩
   rw [←hSz] at hdz hsz
   have hTz:∀k,k<L→Fz (T k) (Sz+b):=fun k hk=>by
    rw [hT]
    show Fz (if _ then _ else _) _
    split
    ·exact (Fz.int (n:=0) (by decide)).up (by omega)
    ·exact (hdz k hk).mul (hqz p k hpL hk)
   rw [hv]
   refine good_of Tryz.func105 rfl (by kernel_rfl) fun X hO hrd=>?_;rw [Tryz.ntmps105,Tryz.results105];simp only [ast0,List.map_cons,List.map_nil,List.length_cons,List.length_nil,Nat.reduceAdd,Nat.reduceSub,List.replicate_succ,List.replicate_zero,List.cons_append,List.nil_append]
   repeat (first|(with_reducible first|refine W_seq fun K hK=>?_|refine J_block ?_|refine J_skip ?_|refine J_region ?_ |refine J_c ?_|refine Jc_false ?_|(refine Kont.go (by assumption) ?_)|(simp (config:={ maxSteps:=3000000 }) (disch:=omega) only [go_sem,↓reduceIte,Nat.reduceAdd,hNl,hpn,gp,hpt,hs0,Int.natCast_inj,decide_false]))|refine call_f (rof_frac (by omega) (by omega)) rfl ?_)
   obtain ⟨zf,hzf⟩:∃zf:FV,zf=.agg [.v (.bool false),.v (.string ⟨#[]⟩),.v (.string ⟨#[]⟩)]:=⟨_,rfl⟩
   rw [←hzf]
   refine W_loop [15,16,17,74,75,76,77,78,79,80,81,82,83,84,85,86,87,88,89,90,91,92,93,94,95,96,97,98,99,100,101,102,103,104,105,106,107,108,109,110,111,112,113,114,115,116,117,118,119,120,121,122,123,124,125,126,127,128,129] (fun x:Nat=>[(15,.f (I x))]) (fun x:Nat=>[oF zf,oF (fr (sumF T x))]) (fun x:Nat=>x≤L) (fun x:Nat=>L-x) (0) (Nat.zero_le _) (by refine weak_of ?_ ?_<;>simp (disch:=omega) only [go_sem,Nat.reduceAdd]<;>first|rfl|exact ⟨rfl,rfl⟩|exact Or.inl rfl|exact ⟨Or.inl rfl,Or.inl rfl⟩|trivial|assumption|omega|(symm;assumption)|((repeat' apply And.intro)<;>first|rfl|omega|trivial|exact .inr ⟨rfl,rfl⟩|exact .inr rfl|(right;symm;assumption)|(symm;assumption)|assumption)) ?_
   rintro k hk
   simp only [go_sem]
   repeat (with_reducible first|refine W_seq fun K hK=>?_|refine J_region ?_ |refine J_c ?_|(refine Kont.go (by assumption) ?_)|(simp (config:={ maxSteps:=3000000 }) (disch:=omega) only [go_sem,hNl]))
   refine Jc_if (fun hkl=>?_) (fun hkl=>?_)<;>try simp only [decide_eq_true_eq,decide_eq_false_iff_not] at hkl
   ·have gk:=hNg k hkl
    obtain ⟨xs,gg,nn,dd,z1,z2,z3⟩:=hm.at2 (hgl p hpL) (hgl k hkl)
    have hsum:sumF T (k+1)=sumF T k+T k:=rfl
    have hTk:T k=if k=p∨at2 m (l.getD p 0) (l.getD k 0)=0 then 0 else trS L (inQ m l) r d (p+1) (upd g p k)*at2 m (l.getD p 0) (l.getD k 0):=by rw [hT];rfl
    by_cases hkp:k=p
    ·have en:fr (sumF T k)=fr (sumF T (k+1)):=by rw [hsum,hTk,if_pos (.inl hkp),Rat.add_zero]
     have hkt:(k=p)=True:=eq_true hkp
     repeat (first|(with_reducible first|refine W_seq fun K hK=>?_|refine J_block ?_|refine J_skip ?_|refine J_exit ?_|refine J_region ?_ |refine J_drawn mixed (by kernel_rfl) ?_|refine J_c ?_|refine Jc_true ?_|(refine Kont.go (by assumption) ?_)|(simp (config:={ maxSteps:=3000000 }) (disch:=omega) only [go_sem,↓reduceIte,Nat.reduceAdd,gp,gk,z1,z2,hkt,Int.natCast_inj,decide_true,true_and,and_self]))|refine callQ_f (rzero_w (by assumption) (by omega)) rfl ?_)
     rw [en]
     refine ⟨k+1,by omega,by omega,weak_of ?_ ?_⟩<;>(try simp (disch:=omega) only [go_sem,Nat.reduceAdd])<;>(try first|done|omega|rfl|exact ⟨rfl,rfl⟩|trivial)
    ·have hkt:(k=p)=False:=eq_false hkp
     by_cases hz:at2 m (l.getD p 0) (l.getD k 0)=0
     ·have en:fr (sumF T k)=fr (sumF T (k+1)):=by rw [hsum,hTk,if_pos (.inr hz),Rat.add_zero]
      have hzt:(at2 m (l.getD p 0) (l.getD k 0)=0)=True:=eq_true hz
      repeat (first|(with_reducible first|refine W_seq fun K hK=>?_|refine J_block ?_|refine J_skip ?_|refine J_exit ?_|refine J_region ?_ |refine J_drawn mixed (by kernel_rfl) ?_|refine J_c ?_|refine Jc_true ?_|(refine Kont.go (by assumption) ?_)|(simp (config:={ maxSteps:=3000000 }) (disch:=omega) only [go_sem,↓reduceIte,Nat.reduceAdd,gp,gk,z1,z2,hkt,hzt,Int.natCast_inj,decide_true,decide_false,true_and,and_self]))|refine callQ_f (rzero_w (by assumption) (by omega)) rfl ?_)
      rw [en]
      refine ⟨k+1,by omega,by omega,weak_of ?_ ?_⟩<;>(try simp (disch:=omega) only [go_sem,Nat.reduceAdd])<;>(try first|done|omega|rfl|exact ⟨rfl,rfl⟩|trivial)
     ·have en:fr (sumF T k+trS L (inQ m l) r d (p+1) (upd g p k)*at2 m (l.getD p 0) (l.getD k 0))=fr (sumF T (k+1)):=by rw [hsum,hTk,if_neg (fun h=>h.elim hkp hz)]
      have hzt:(at2 m (l.getD p 0) (l.getD k 0)=0)=False:=eq_false hz
      have f1:=IsFr.c (hdz k hkl)
      have f2:=IsFr.c (Fz.mul (hdz k hkl) (z3.fz h1))
      have fsm:=sumF_fz (f:=T) (n:=k) (s:=Sz+b) fun q hq=>hTz q (by omega)
      have so:=Nat.mul_le_mul_right (Sz+b+1) (show k≤6 by omega)
      have f3:=IsFr.c fsm
      repeat (first|(with_reducible first|refine W_seq fun K hK=>?_|refine J_block ?_|refine J_skip ?_|refine J_region ?_ |refine J_drawn mixed (by kernel_rfl) ?_|refine aApp_old ?_|refine J_c ?_|refine Jc_false ?_|(refine Kont.go (by assumption) ?_)|(simp (config:={ maxSteps:=3000000 }) (disch:=omega) only [go_sem,↓reduceIte,Nat.reduceAdd,Nat.reduceLeDiff,gp,gk,z1,z2,hkt,hzt,hXl,hsn,Int.natCast_inj,decide_false,Nat.reduceMul,Nat.le_refl,true_and,and_self]))|refine callQ_f (rzero_w (by assumption) (by omega)) rfl ?_|refine And.intro (by omega) ?_)
      refine call_fl (hcall k hkl) (flat_fr _) (FrzL.cons (.f _) (FrzL.cons (.f _) (FrzL.cons (.f _) (FrzL.cons (.f _) (FrzL.cons (Frz.own0 rfl (hsl k)) (FrzL.nil _)))))) ?_
      repeat (first|(with_reducible first|refine W_seq fun K hK=>?_|refine J_region ?_ |refine J_drawn mixed (by kernel_rfl) ?_|(refine Kont.go (by assumption) ?_)|(simp (config:={ maxSteps:=3000000 }) (disch:=omega) only [go_sem,↓reduceIte,Nat.reduceAdd,gp,gk,z1,z2,true_and,and_self]))|refine call_f (radd_w (by assumption) (by assumption) (by omega) (by omega)) rfl ?_|refine callQ_f (rmul_w (by assumption) (by assumption) (by omega) (by omega)) rfl ?_)
      rw [en]
      refine ⟨k+1,by omega,by omega,weak_of ?_ ?_⟩<;>(try simp (disch:=omega) only [go_sem,Nat.reduceAdd])<;>(try first|done|omega|rfl|exact ⟨rfl,rfl⟩|trivial)
   ·have he:k=L:=by omega
    subst he
    repeat (with_reducible first|refine W_seq fun K hK=>?_|refine J_exit ?_|refine J_ret ?_|refine J_region ?_ |exact Frz.f _|(refine Kont.go (by assumption) ?_)|(simp (config:={ maxSteps:=3000000 }) (disch:=omega) only [go_sem,↓reduceIte,Nat.reduceAdd]))
end Go.Proofs.YtcgagiimlkjcpaaGreatDoor
set_option linter.unusedVariables false
set_option linter.unusedSimpArgs false
namespace Go.Proofs.YtcgagiimlkjcpaaGreatDoor
open Go Go.RowKit
set_option maxRecDepth 100000 in
set_option maxHeartbeats 4000000 in
theorem states_w {ys:List FV} {n:Nat} (l:List Int) (hn:ys.length=n) (hn6:n≤1000000) (hw:∀x∈l,-9223372036854775808≤x∧x≤9223372036854775807) (hl:l.length≤140737488355328) :
  Good Tryz.prog 107 [.fz 1 ys,ints l] (Bo (risB n l)):=by
 refine good_of Tryz.func107 rfl (by kernel_rfl) fun X hO hrd=>?_;rw [Tryz.ntmps107,Tryz.results107];simp only [ast0,List.map_cons,List.map_nil,List.length_cons,List.length_nil,Nat.reduceAdd,Nat.reduceSub,List.replicate_succ,List.replicate_zero,List.cons_append,List.nil_append]
 repeat (with_reducible first|refine W_seq fun K hK=>?_|refine J_block ?_|refine J_region ?_ |(refine Kont.go (by assumption) ?_)|(simp (config:={ maxSteps:=3000000 }) (disch:=omega) only [go_sem,Int.reduceNeg,List.length_map]))
 refine W_loop [4,5,7,10,11,12,13,14,15,16,17,18,19,20,21,22,23,24] (fun x:Nat=>[(5,.f (I (prevI l x))),(10,.f (I x))]) (fun x:Nat=>[]) (fun x:Nat=>x≤l.length∧∀j,j<x→prevI l j<l.getD j 0∧l.getD j 0<(n:Int)) (fun x:Nat=>l.length-x) (0) (⟨Nat.zero_le _,fun j h=>by omega⟩) (by refine weak_of ?_ ?_<;>simp (disch:=omega) only [go_sem]<;>first|rfl|exact ⟨rfl,rfl⟩|exact Or.inl rfl|exact ⟨Or.inl rfl,Or.inl rfl⟩|trivial|assumption|omega|(symm;assumption)|((repeat' apply And.intro)<;>first|rfl|omega|trivial|exact .inr ⟨rfl,rfl⟩|exact .inr rfl|(right;symm;assumption)|(symm;assumption)|assumption)) ?_
 rintro x ⟨hx,hp⟩
 simp only [go_sem]
 repeat (with_reducible first|refine W_seq fun K hK=>?_|refine J_region ?_ |refine J_c ?_|(refine Kont.go (by assumption) ?_)|(simp (config:={ maxSteps:=3000000 }) (disch:=omega) only [go_sem]))
 refine Jc_if (fun hxl=>?_) (fun hxl=>?_)<;>try simp only [decide_eq_true_eq,decide_eq_false_iff_not] at hxl
 ·have g1:=map_get I l hxl
  have g2:=prevI_next (l:=l) (x:=x)
  have g3:l.getD x 0=l[x]:=lget_lt l 0 hxl
  have hno:¬(prevI l x<l[x]∧l[x]<(n:Int))→risB n l=false:=fun hh=>by
   cases hb:risB n l with
   | false=>rfl
   | true=>exact absurd (risB_iff.1 hb x hxl) (by rw [g3];exact hh)
  by_cases c1:l[x]≤prevI l x
  ·have e:risB n l=false:=hno fun h=>by omega
   repeat (with_reducible first|refine W_seq fun K hK=>?_|refine J_block ?_|refine J_skip ?_|refine J_ret ?_|refine J_region ?_ |refine J_c ?_|refine Jc_true ?_|(refine Kont.go (by assumption) ?_)|(simp (config:={ maxSteps:=3000000 }) (disch:=omega) only [go_sem,↓reduceIte,g1,c1]))
   rw [e]
   exact Frz.f _
  ·by_cases c2:(n:Int)≤l[x]
   ·have e:risB n l=false:=hno fun h=>by omega
    repeat (with_reducible first|refine W_seq fun K hK=>?_|refine J_block ?_|refine J_skip ?_|refine J_ret ?_|refine J_region ?_ |refine J_c ?_|refine Jc_true ?_|(refine Kont.go (by assumption) ?_)|(simp (config:={ maxSteps:=3000000 }) (disch:=omega) only [go_sem,↓reduceIte,g1,c1,c2,hn]))
    rw [e]
    exact Frz.f _
   ·rw [g3] at g2
    repeat (with_reducible first|refine W_seq fun K hK=>?_|refine J_block ?_|refine J_skip ?_|refine J_region ?_ |refine J_c ?_|refine Jc_false ?_|(refine Kont.go (by assumption) ?_)|(simp (config:={ maxSteps:=3000000 }) (disch:=omega) only [go_sem,↓reduceIte,g1,c1,c2,hn]))
    refine ⟨x+1,⟨by omega,upto_next (p:=fun j=>prevI l j<l.getD j 0∧l.getD j 0<(n:Int)) hp ⟨by omega,by omega⟩⟩,by omega,weak_of ?_ ?_⟩<;>(try simp (disch:=omega) only [go_sem])<;>(try first|done|omega|rfl|exact ⟨rfl,rfl⟩|trivial)
 ·have he:x=l.length:=by omega
  subst he
  have e:risB n l=true:=risB_iff.2 hp
  repeat (with_reducible first|refine W_seq fun K hK=>?_|refine J_exit ?_|refine J_ret ?_|refine J_region ?_ |(refine Kont.go (by assumption) ?_)|(simp (config:={ maxSteps:=3000000 }) (disch:=omega) only [go_sem,↓reduceIte]))
  rw [e]
  exact Frz.f _
set_option maxRecDepth 100000 in
theorem indexFuncI_w {l:List Nat} {g:FuncId} {a b:List FV} {p:Nat→Bool} (hl:l.length≤1000) (hg:∀i,i<l.length→Good Tryz.prog g (a++[I (l.getD i 0:Nat)]++b) (Bo (p i))) :
  Good Tryz.prog 202 [.fz 1 (Ns l),.fn g a b] (I (firstI p l.length)):=by
 refine good_of Tryz.func202 rfl (by kernel_rfl) fun X hO hrd=>?_;rw [Tryz.ntmps202,Tryz.results202];simp only [ast0,List.map_cons,List.map_nil,List.length_cons,List.length_nil,Nat.reduceAdd,Nat.reduceSub,List.replicate_succ,List.replicate_zero,List.cons_append,List.nil_append]
 repeat (with_reducible first|refine W_seq fun K hK=>?_|refine J_block ?_|refine J_region ?_ |(refine Kont.go (by assumption) ?_)|(simp (config:={ maxSteps:=3000000 }) (disch:=omega) only [go_sem,Ns_len]))
 refine W_loop [4,5,8,9,10,11,12,13,14,15,16,17,18] (fun x:Nat=>[(8,.f (I x))]) (fun x:Nat=>[]) (fun x:Nat=>x≤l.length∧∀j,j<x→p j=false) (fun x:Nat=>l.length-x) (0) (⟨Nat.zero_le _,fun j h=>by omega⟩) (by refine weak_of ?_ ?_<;>simp (disch:=omega) only [go_sem]<;>first|rfl|exact ⟨rfl,rfl⟩|exact Or.inl rfl|exact ⟨Or.inl rfl,Or.inl rfl⟩|trivial|assumption|omega|(symm;assumption)|((repeat' apply And.intro)<;>first|rfl|omega|trivial|exact .inr ⟨rfl,rfl⟩|exact .inr rfl|(right;symm;assumption)|(symm;assumption)|assumption)) ?_
 rintro i ⟨hi,hp⟩
 simp only [go_sem]
 repeat (with_reducible first|refine W_seq fun K hK=>?_|refine J_region ?_ |refine J_c ?_|(refine Kont.go (by assumption) ?_)|(simp (config:={ maxSteps:=3000000 }) (disch:=omega) only [go_sem]))
 refine Jc_if (fun hlt=>?_) (fun hlt=>?_)<;>try simp only [decide_eq_true_eq,decide_eq_false_iff_not] at hlt
 ·have hx:=Ns_get hlt
  have hc:=hg i hlt
  repeat (with_reducible first|refine W_seq fun K hK=>?_|refine J_block ?_|refine J_skip ?_|refine J_region ?_ |(refine Kont.go (by assumption) ?_)|(simp (config:={ maxSteps:=3000000 }) (disch:=omega) only [go_sem,↓reduceIte,hx]))
  refine call_f hc (by simp) ?_
  repeat (with_reducible first|refine J_c ?_|(refine Kont.go (by assumption) ?_)|(simp (config:={ maxSteps:=3000000 }) (disch:=omega) only [go_sem]))
  refine Jc_if (fun hpi=>?_) (fun hpi=>?_)<;>try simp only [decide_eq_true_eq,decide_eq_false_iff_not,Bool.not_eq_true',Bool.not_eq_false',Bool.not_true,Bool.not_false,Int.ofNat_lt,Int.ofNat_le,Int.natCast_inj,Classical.not_not] at hpi
  ·have e:firstI p l.length=i:=firstI_some hlt hpi hp
   repeat (with_reducible first|refine W_seq fun K hK=>?_|refine J_ret ?_|refine J_region ?_ |(refine Kont.go (by assumption) ?_)|(simp (config:={ maxSteps:=3000000 }) (disch:=omega) only [go_sem]))
   rw [e]
   exact Frz.f _
  ·have hpf:p i=false:=by simpa using hpi
   repeat (with_reducible first|refine J_skip ?_|refine J_region ?_ |(refine Kont.go (by assumption) ?_)|(simp (config:={ maxSteps:=3000000 }) (disch:=omega) only [go_sem]))
   refine ⟨i+1,⟨by omega,upto_next (p:=fun j=>p j=false) hp hpf⟩,by omega,weak_of ?_ ?_⟩<;>(try simp (disch:=omega) only [go_sem])<;>(try first|done|omega|rfl|exact ⟨rfl,rfl⟩|trivial)
 ·have he:i=l.length:=by omega
  subst he
  have e:firstI p l.length=-1:=firstI_none hp
  repeat (with_reducible first|refine W_seq fun K hK=>?_|refine J_exit ?_|refine J_ret ?_|refine J_region ?_ |(refine Kont.go (by assumption) ?_)|(simp (config:={ maxSteps:=3000000 }) (disch:=omega) only [go_sem,↓reduceIte,Int.reduceNeg]))
  rw [e]
  exact Frz.f _
set_option maxRecDepth 100000 in
theorem containsFuncI_w {l:List Nat} {g:FuncId} {a b:List FV} {p:Nat→Bool} (hl:l.length≤1000) (hg:∀i,i<l.length→Good Tryz.prog g (a++[I (l.getD i 0:Nat)]++b) (Bo (p i))) :
  Good Tryz.prog 109 [.fz 1 (Ns l),.fn g a b] (Bo ((List.range l.length).any p)):=by
 have h:=indexFuncI_w hl hg
 rw [←firstI_any]
 refine good_of Tryz.func109 rfl (by kernel_rfl) fun X hO hrd=>?_;rw [Tryz.ntmps109,Tryz.results109];simp only [ast0,List.map_cons,List.map_nil,List.length_cons,List.length_nil,Nat.reduceAdd,Nat.reduceSub,List.replicate_succ,List.replicate_zero,List.cons_append,List.nil_append]
 repeat (with_reducible first|refine W_seq fun K hK=>?_|refine J_region ?_ |(refine Kont.go (by assumption) ?_)|(simp (config:={ maxSteps:=3000000 }) (disch:=omega) only [go_sem]))
 refine call_f h rfl ?_
 repeat (with_reducible first|refine J_ret ?_|exact Frz.f _|(refine Kont.go (by assumption) ?_)|(simp (config:={ maxSteps:=3000000 }) (disch:=omega) only [go_sem]))
set_option maxRecDepth 100000 in
theorem can_w {n i k:Nat} {R:Bx} (hn:n≤1000) (hi:i<n) (hk:k<n):Good Tryz.prog 110 [I (k:Int),.fp (reachV n R) 0,.fp (I (i:Int)) 0] (Bo (R i k)):=by
 have g1:((List.range n).map fun i=>FV.fz 1 (rowW n R i))[i]?=some (.fz 1 (rowW n R i)):=by simp [hi]
 have g2:((List.range n).map fun i=>FV.fz 1 (rowW n R i)).length=n:=by simp
 have g3:(rowW n R i)[k]?=some (I (b2i (R i k))):=by simp [rowW,hk]
 have g4:(rowW n R i).length=n:=rowW_len
 have hrv:reachV n R=.fz 1 ((List.range n).map fun i=>.fz 1 (rowW n R i)):=rfl
 have e:decide (b2i (R i k)=1)=R i k:=by cases R i k<;>decide
 rw [hrv]
 refine good_of Tryz.func110 rfl (by kernel_rfl) fun X hO hrd=>?_;rw [Tryz.ntmps110,Tryz.results110];simp only [ast0,List.map_cons,List.map_nil,List.length_cons,List.length_nil,Nat.reduceAdd,Nat.reduceSub,List.replicate_succ,List.replicate_zero,List.cons_append,List.nil_append]
 repeat (with_reducible first|refine W_seq fun K hK=>?_|refine J_ret ?_|refine J_region ?_ |(refine Kont.go (by assumption) ?_)|(simp (config:={ maxSteps:=3000000 }) (disch:=omega) only [go_sem,↓reduceIte,g1,g3]))
 rw [e]
 exact Frz.f _
end Go.Proofs.YtcgagiimlkjcpaaGreatDoor
