/- How much there is of a net: heavyNet: walked. Conditions: what slices may hold. -/
import Derived.Test.YthehegidpamldaaGreatDoorZB14
import Derived.Test.YthehegidpamldaaGreatDoorZB25
import Derived.Test.YthehegidpamldaaGreatDoorZB21
import Derived.Test.YthehegidpamldaaGreatDoorZPrW
import Derived.SevenTiedAt
set_option linter.unusedVariables false
set_option linter.unusedSimpArgs false
namespace Go.Proofs.YthehegidpamldaaGreatDoor
open Go Go.RowKit
def sGo:Nat→List ByteArray→Nat
 | k,[]=>k
 | k,s::l=>if k≤2048 then sGo (k+s.size) l else k
def vGo:Nat→Nat→List VarD→Nat × Nat
 | k,c,[]=>(k,c)
 | k,c,x::l=>if k≤2048∧c≤800 then vGo (sGo (k+x.1.size+x.2.length) x.2) (if 1<x.2.length then c*x.2.length else c) l else (k,c)
def pGo:Nat→List (List Int)→Nat
 | k,[]=>k
 | k,l::L=>if k≤2048 then pGo (k+l.length) L else k
def rGo:Nat→List (List F3)→Nat
 | k,[]=>k
 | k,l::L=>if k≤2048 then rGo (k+fbN l) L else k
section
variable {k c : Nat}
theorem sGo_ge:∀{l:List ByteArray} {k:Nat},k≤sGo k l:=by
 intro l
 induction l with
 | nil=>intro k;exact Nat.le_refl _
 | cons s l ih =>
  intro k
  unfold sGo
  split
  ·exact Nat.le_trans (by omega) (ih (k:=k+s.size))
  ·exact Nat.le_refl _
theorem sGo_all:∀{l:List ByteArray} {k:Nat},sGo k l≤2048→∀s∈l,s.size≤2048:=by
 intro l
 induction l with
 | nil=>intro k _ s hs;cases hs
 | cons a l ih =>
  intro k h s hs
  unfold sGo at h
  split at h
  ·have h1:=sGo_ge (l:=l) (k:=k+a.size)
   rcases List.mem_cons.1 hs with rfl|hs
   ·omega
   ·exact ih h s hs
  ·omega
theorem vGo_ge:∀{l:List VarD} {k c:Nat},k≤(vGo k c l).1:=by
 intro l
 induction l with
 | nil=>intro k c;exact Nat.le_refl _
 | cons x l ih =>
  intro k c
  unfold vGo
  split
  ·exact Nat.le_trans (Nat.le_trans (by omega) (sGo_ge (l:=x.2))) (ih (k:=sGo (k+x.1.size+x.2.length) x.2))
  ·exact Nat.le_refl _
theorem vGo_all:∀{l:List VarD} {k c:Nat},(vGo k c l).1≤2048→(vGo k c l).2≤800→∀x∈l,x.1.size≤2048∧x.2.length≤2048∧∀s∈x.2,s.size≤2048:=by
 intro l
 induction l with
 | nil=>intro k c _ _ x hx;cases hx
 | cons a l ih =>
  intro k c h hc x hx
  unfold vGo at h hc
  split at h
  ·rename_i hk
   rw [if_pos hk] at hc
   have h1:=vGo_ge (l:=l) (k:=sGo (k+a.1.size+a.2.length) a.2) (c:=if 1<a.2.length then c*a.2.length else c)
   have h2:=sGo_ge (l:=a.2) (k:=k+a.1.size+a.2.length)
   rcases List.mem_cons.1 hx with rfl|hx
   ·exact ⟨by omega,by omega,sGo_all (k:=k+x.1.size+x.2.length) (by omega)⟩
   ·exact ih h hc x hx
  ·rename_i hk
   rw [if_neg hk] at hc
   exact absurd ⟨h,hc⟩ hk
theorem pGo_ge:∀{l:List (List Int)} {k:Nat},k≤pGo k l:=by
 intro l
 induction l with
 | nil=>intro k;exact Nat.le_refl _
 | cons s l ih =>
  intro k
  unfold pGo
  split
  ·exact Nat.le_trans (by omega) (ih (k:=k+s.length))
  ·exact Nat.le_refl _
theorem rGo_ge:∀{l:List (List F3)} {k:Nat},k≤rGo k l:=by
 intro l
 induction l with
 | nil=>intro k;exact Nat.le_refl _
 | cons s l ih =>
  intro k
  unfold rGo
  split
  ·exact Nat.le_trans (by omega) (ih (k:=k+fbN s))
  ·exact Nat.le_refl _
theorem rGo_all:∀{l:List (List F3)} {k:Nat},rGo k l≤2048→∀s∈l,fbN s≤2048:=by
 intro l
 induction l with
 | nil=>intro k _ s hs;cases hs
 | cons a l ih =>
  intro k h s hs
  unfold rGo at h
  split at h
  ·have h1:=rGo_ge (l:=l) (k:=k+fbN a)
   rcases List.mem_cons.1 hs with rfl|hs
   ·omega
   ·exact ih h s hs
  ·omega
end
theorem fbN_leN {l:List F3} (h:OkFs l):fbN l≤422212465065984:=by
 have:=fbGo_le h.2 (n:=l.length)
 have h2:=h.1
 show fbGo l.length l≤_
 omega
def hvK (n:NetD):Nat:=rGo (pGo (vGo (n.1.length+n.2.1.length+n.2.2.length) 1 n.1).1 n.2.1) n.2.2
def hvC (n:NetD):Nat:=(vGo (n.1.length+n.2.1.length+n.2.2.length) 1 n.1).2
set_option maxRecDepth 100000 in
set_option maxHeartbeats 8000000 in
theorem heavyNet_w (V:List VarD) (P:List (List Int)) (R:List (List F3)) (h:OkNet (V,P,R)):Good Tryz.prog 6 [netV V (P.map ints) (R.map rawF)] (Bo (decide (2048<hvK (V,P,R))||decide (800<hvC (V,P,R)))):=by
 obtain ⟨⟨hV,hVx⟩,⟨hP,hPx⟩,hR,hRx⟩:=h
 simp only at hV hVx hP hPx hR hRx
 obtain ⟨K0,hK0⟩:∃K0,K0=V.length+P.length+R.length:=⟨_,rfl⟩
 obtain ⟨KC,hKC⟩:∃KC,KC=vGo K0 1 V:=⟨_,rfl⟩
 obtain ⟨K2,hK2⟩:∃K2,K2=pGo KC.1 P:=⟨_,rfl⟩
 obtain ⟨K3,hK3⟩:∃K3,K3=rGo K2 R:=⟨_,rfl⟩
 have e1:hvK (V,P,R)=K3:=by rw [hK3,hK2,hKC,hK0];rfl
 have e2:hvC (V,P,R)=KC.2:=by rw [hKC,hK0];rfl
 rw [e1,e2]
 have hk0:(V.length:Int)+(P.length:Int)+(R.length:Int)=(K0:Int):=by rw [hK0,Int.natCast_add,Int.natCast_add]
 refine good_of Tryz.func6 rfl (by kernel_rfl) fun X hO hrd=>?_;rw [Tryz.ntmps6,Tryz.results6];simp only [ast0,List.map_cons,List.map_nil,List.length_cons,List.length_nil,Nat.reduceAdd,Nat.reduceSub,List.replicate_succ,List.replicate_zero,List.cons_append,List.nil_append]
 (repeat (with_reducible first|refine W_seq fun K hK=>?_|refine J_block ?_|refine J_region ?_ |(refine Kont.go (by assumption) ?_)|(simp (config:={ maxSteps:=3000000 }) (disch:=omega) only [go_sem,↓reduceIte,Nat.reduceAdd,List.length_map,hk0])))
 refine W_loopE (by assumption) [3,4,5,6,20,21,22,23,24,25,26,27,28,29,30,31,32,33,34,35,36,37,38,39,40,41,42,43,44,45,46,47,48,49,50,51,52,53,54,55,56,57,58,59,60,61,62,63,64,65,66,67,68,69,70,71,72,73,74,75,76,77,78,79,80,81,82,83,84,85,86,87,88,89,90,91,92,93,94,95] (fun x:Nat × Nat × Nat=>[(5,.f (I x.1)),(3,.f (I x.2.1)),(4,.f (I x.2.2))]) (fun x:Nat × Nat × Nat=>[oNt (V.map varF) (P.map ints) (R.map rawF)]) (fun x:Nat × Nat × Nat=>x.1≤V.length∧vGo x.2.1 x.2.2 (V.drop x.1)=KC∧x.2.1≤844424930131968∧x.2.2≤112589990684263000) (fun x:Nat × Nat × Nat=>V.length-x.1) ((0,K0,1)) (fun z:Unit=>[(3,.f (I KC.1)),(4,.f (I KC.2))]) (fun z:Unit=>[oNt (V.map varF) (P.map ints) (R.map rawF)]) (fun z:Unit=>KC.1≤844424930131968∧KC.2≤112589990684263000) (⟨Nat.zero_le _,hKC.symm,(by omega:K0≤844424930131968),(by decide:1≤112589990684263000)⟩) (by refine weak_of ?_ ?_<;>simp (disch:=omega) only [go_sem]<;>first|rfl|exact ⟨rfl,rfl⟩|exact Or.inl rfl|exact ⟨Or.inl rfl,Or.inl rfl⟩|trivial|assumption|omega|(symm;assumption)|((repeat' apply And.intro)<;>first|rfl|omega|trivial|exact .inl rfl|exact .inr ⟨rfl,rfl⟩|exact .inr rfl|(right;symm;assumption)|(symm;assumption)|assumption)) ?_ ?_
 ·rintro ⟨i,k,c⟩ ⟨hi,hv,hkb,hcb⟩
  simp only at hi hv hkb hcb
  simp only [go_sem]
  by_cases hgo:i<V.length∧k≤2048∧c≤800
  ·obtain ⟨hlt,hle,hcl⟩:=hgo
   have hm:=hVx _ (List.getElem_mem hlt)
   have gx:=map_get varF V hlt
   have hvf:varF V[i]=.agg [St V[i].1,.fz 1 (V[i].2.map St)]:=rfl
   rw [hvf] at gx
   have hdr:V.drop i=V[i]::V.drop (i+1):=List.drop_eq_getElem_cons hlt
   rw [hdr] at hv
   unfold vGo at hv
   rw [if_pos ⟨hle,hcl⟩] at hv
   generalize V[i]=x at gx hm hv
   have hle':(k:Int)≤2048:=by omega
   have hcl':(c:Int)≤800:=by omega
   have hlt':(i:Int)<(V.length:Int):=by omega
   obtain ⟨hx1,hx2,hxs⟩:=hm
   have hx1':x.1.size≤140737488351232:=hx1
   have hx2':x.2.length≤140737488355328:=hx2
   obtain ⟨k1,hk1⟩:∃k1,k1=k+x.1.size+x.2.length:=⟨_,rfl⟩
   obtain ⟨k2,hk2⟩:∃k2,k2=sGo k1 x.2:=⟨_,rfl⟩
   rw [←hk1,←hk2] at hv
   have hk1':(k:Int)+(x.1.size:Int)+(x.2.length:Int)=(k1:Int):=by rw [hk1,Int.natCast_add,Int.natCast_add]
   (repeat (with_reducible first|refine W_seq fun K hK=>?_|refine J_block ?_|refine J_skip ?_|refine J_region ?_ |refine J_drawn mixed (by kernel_rfl) ?_|refine J_c ?_|refine Jc_true ?_|(refine Kont.go (by assumption) ?_)|(simp (config:={ maxSteps:=3000000 }) (disch:=omega) only [go_sem,↓reduceIte,hlt',hle',hcl',List.length_map,gx,hk1'])))
   refine W_loopE (by assumption) [3,6,52,53,54,55,56,57,58,59,60,61,62,63,64,65,66,67,68,69,70,71,72,73,74,75,76,77,78] (fun y:Nat × Nat=>[(6,.f (I y.1)),(3,.f (I y.2))]) (fun y:Nat × Nat=>[oNt (V.map varF) (P.map ints) (R.map rawF)]) (fun y:Nat × Nat=>y.1≤x.2.length∧sGo y.2 (x.2.drop y.1)=k2∧y.2≤422212465065984) (fun y:Nat × Nat=>x.2.length-y.1) ((0,k1)) (fun z:Unit=>[(3,.f (I k2))]) (fun z:Unit=>[oNt (V.map varF) (P.map ints) (R.map rawF)]) (fun z:Unit=>k2≤422212465065984) (⟨Nat.zero_le _,hk2.symm,(by omega:k1≤422212465065984)⟩) (by refine weak_of ?_ ?_<;>simp (disch:=omega) only [go_sem]<;>first|rfl|exact ⟨rfl,rfl⟩|exact Or.inl rfl|exact ⟨Or.inl rfl,Or.inl rfl⟩|trivial|assumption|omega|(symm;assumption)|((repeat' apply And.intro)<;>first|rfl|omega|trivial|exact .inl rfl|exact .inr ⟨rfl,rfl⟩|exact .inr rfl|(right;symm;assumption)|(symm;assumption)|assumption)) ?_ ?_
   ·rintro ⟨j,d⟩ ⟨hj,hd,hdb⟩
    simp only at hj hd hdb
    simp only [go_sem]
    by_cases hgo2:j<x.2.length∧d≤2048
    ·obtain ⟨hlt2,hle2⟩:=hgo2
     have hsm:OkS x.2[j]:=hxs _ (List.getElem_mem hlt2)
     have hsm':x.2[j].size≤140737488351232:=hsm
     have gs:=map_get St x.2 hlt2
     have hdr2:x.2.drop j=x.2[j]::x.2.drop (j+1):=List.drop_eq_getElem_cons hlt2
     rw [hdr2] at hd
     unfold sGo at hd
     rw [if_pos hle2] at hd
     generalize x.2[j]=t at gs hsm' hd
     have hle2':(d:Int)≤2048:=by omega
     have hlt2':(j:Int)<(x.2.length:Int):=by omega
     have hdt:(d:Int)+(t.size:Int)=((d+t.size:Nat):Int):=by rw [Int.natCast_add]
     (repeat (with_reducible first|refine W_seq fun K hK=>?_|refine J_block ?_|refine J_skip ?_|refine J_region ?_ |refine J_c ?_|refine Jc_true ?_|(refine Kont.go (by assumption) ?_)|(simp (config:={ maxSteps:=3000000 }) (disch:=omega) only [go_sem,↓reduceIte,hlt2',hle2',List.length_map,gx,gs,hdt])))
     refine ⟨(j+1,d+t.size),⟨by simp only;omega,hd,by simp only;omega⟩,by simp only;omega,weak_of ?_ ?_⟩<;>(try simp (disch:=omega) only [go_sem])<;>(try first|done|omega|rfl|exact ⟨rfl,rfl⟩|trivial)
    ·have hd2:d=k2:=by
      by_cases hlt2:j<x.2.length
      ·have hdr2:x.2.drop j=x.2[j]::x.2.drop (j+1):=List.drop_eq_getElem_cons hlt2
       rw [hdr2] at hd
       unfold sGo at hd
       rw [if_neg (by omega)] at hd
       exact hd
      ·rw [List.drop_of_length_le (by omega)] at hd
       exact hd
     clear hd
     subst hd2
     by_cases hlt2:j<x.2.length
     ·have hlt2':(j:Int)<(x.2.length:Int):=by omega
      have hle2':¬(d:Int)≤2048:=by omega
      (repeat (first|(with_reducible first|refine W_seq fun K hK=>?_|refine J_exit ?_|refine J_region ?_ |refine J_c ?_|refine Jc_false ?_|(refine Kont.go (by assumption) ?_)|(simp (config:={ maxSteps:=3000000 }) (disch:=omega) only [go_sem,↓reduceIte,hlt2',hle2',List.length_map,gx]))|refine And.intro (by omega) ?_))
      (refine weak_of ?_ ?_<;>(try simp only [go_sem])<;>(try first|done|omega|rfl|exact ⟨rfl,rfl⟩|trivial))
     ·have hlt2':¬(j:Int)<(x.2.length:Int):=by omega
      (repeat (first|(with_reducible first|refine W_seq fun K hK=>?_|refine J_exit ?_|refine J_region ?_ |refine J_c ?_|refine Jc_false ?_|(refine Kont.go (by assumption) ?_)|(simp (config:={ maxSteps:=3000000 }) (disch:=omega) only [go_sem,↓reduceIte,hlt2',List.length_map,gx]))|refine And.intro (by omega) ?_))
      (refine weak_of ?_ ?_<;>(try simp only [go_sem])<;>(try first|done|omega|rfl|exact ⟨rfl,rfl⟩|trivial))
   ·rintro _ hkb2
    simp only [go_sem]
    by_cases hone:1<x.2.length
    ·have hone':(1:Int)<(x.2.length:Int):=by omega
     have hcm:c*x.2.length≤800*140737488355328:=Nat.mul_le_mul hcl hx2'
     have hw:IntKind.i64.wrap ((c:Int)*(x.2.length:Int))=((c*x.2.length:Nat):Int):=by rw [IntKind.wrap_i64,←Int.natCast_mul];omega
     rw [if_pos hone] at hv
     (repeat (with_reducible first|refine W_seq fun K hK=>?_|refine J_region ?_ |refine J_c ?_|refine Jc_true ?_|(refine Kont.go (by assumption) ?_)|(simp (config:={ maxSteps:=3000000 }) (disch:=omega) only [go_sem,↓reduceIte,List.length_map,gx,hone',hw])))
     refine ⟨(i+1,k2,c*x.2.length),⟨by simp only;omega,hv,by simp only;omega,by simp only;omega⟩,by simp only;omega,weak_of ?_ ?_⟩<;>(try simp (disch:=omega) only [go_sem])<;>(try first|done|omega|rfl|exact ⟨rfl,rfl⟩|trivial)
    ·have hone':¬(1:Int)<(x.2.length:Int):=by omega
     rw [if_neg hone] at hv
     (repeat (with_reducible first|refine W_seq fun K hK=>?_|refine J_skip ?_|refine J_region ?_ |refine J_c ?_|refine Jc_false ?_|(refine Kont.go (by assumption) ?_)|(simp (config:={ maxSteps:=3000000 }) (disch:=omega) only [go_sem,↓reduceIte,List.length_map,gx,hone'])))
     refine ⟨(i+1,k2,c),⟨by simp only;omega,hv,by simp only;omega,hcb⟩,by simp only;omega,weak_of ?_ ?_⟩<;>(try simp (disch:=omega) only [go_sem])<;>(try first|done|omega|rfl|exact ⟨rfl,rfl⟩|trivial)
  ·have hkc:(k,c)=KC:=by
    by_cases hlt:i<V.length
    ·have hdr:V.drop i=V[i]::V.drop (i+1):=List.drop_eq_getElem_cons hlt
     rw [hdr] at hv
     unfold vGo at hv
     rw [if_neg (fun h=>hgo ⟨hlt,h⟩)] at hv
     exact hv
    ·rw [List.drop_of_length_le (by omega)] at hv
     exact hv
   clear hv
   have ek:k=KC.1:=by rw [←hkc]
   have ec:c=KC.2:=by rw [←hkc]
   clear hkc
   subst ek ec
   by_cases hlt:i<V.length
   ·have hlt':(i:Int)<(V.length:Int):=by omega
    by_cases hle:KC.1≤2048
    ·have hle':(KC.1:Int)≤2048:=by omega
     have hcl':¬(KC.2:Int)≤800:=fun h=>hgo ⟨hlt,hle,by omega⟩
     (repeat (first|(with_reducible first|refine W_seq fun K hK=>?_|refine J_exit ?_|refine J_region ?_ |refine J_c ?_|refine Jc_false ?_|(refine Kont.go (by assumption) ?_)|(simp (config:={ maxSteps:=3000000 }) (disch:=omega) only [go_sem,↓reduceIte,hlt',hle',hcl',List.length_map]))|refine And.intro (by omega) ?_))
     (refine weak_of ?_ ?_<;>(try simp only [go_sem])<;>(try first|done|omega|rfl|exact ⟨rfl,rfl⟩|trivial))
    ·have hle':¬(KC.1:Int)≤2048:=by omega
     (repeat (first|(with_reducible first|refine W_seq fun K hK=>?_|refine J_exit ?_|refine J_region ?_ |refine J_c ?_|refine Jc_false ?_|(refine Kont.go (by assumption) ?_)|(simp (config:={ maxSteps:=3000000 }) (disch:=omega) only [go_sem,↓reduceIte,hlt',hle',List.length_map]))|refine And.intro (by omega) ?_))
     (refine weak_of ?_ ?_<;>(try simp only [go_sem])<;>(try first|done|omega|rfl|exact ⟨rfl,rfl⟩|trivial))
   ·have hlt':¬(i:Int)<(V.length:Int):=by omega
    (repeat (first|(with_reducible first|refine W_seq fun K hK=>?_|refine J_exit ?_|refine J_region ?_ |refine J_c ?_|refine Jc_false ?_|(refine Kont.go (by assumption) ?_)|(simp (config:={ maxSteps:=3000000 }) (disch:=omega) only [go_sem,↓reduceIte,hlt',List.length_map]))|refine And.intro (by omega) ?_))
    (refine weak_of ?_ ?_<;>(try simp only [go_sem])<;>(try first|done|omega|rfl|exact ⟨rfl,rfl⟩|trivial))
 ·rintro _ ⟨hkb,hcb⟩
  simp only [go_sem]
  (repeat (with_reducible first|refine W_seq fun K hK=>?_|refine J_block ?_|refine J_region ?_ |(refine Kont.go (by assumption) ?_)|(simp (config:={ maxSteps:=3000000 }) (disch:=omega) only [go_sem])))
  refine W_loopE (by assumption) [3,7,96,97,98,99,100,101,102,103,104,105,106,107,108,109,110,111,112,113,114] (fun y:Nat × Nat=>[(7,.f (I y.1)),(3,.f (I y.2))]) (fun y:Nat × Nat=>[oNt (V.map varF) (P.map ints) (R.map rawF)]) (fun y:Nat × Nat=>y.1≤P.length∧pGo y.2 (P.drop y.1)=K2∧y.2≤844424930131968) (fun y:Nat × Nat=>P.length-y.1) ((0,KC.1)) (fun z:Unit=>[(3,.f (I K2))]) (fun z:Unit=>[oNt (V.map varF) (P.map ints) (R.map rawF)]) (fun z:Unit=>K2≤844424930131968) (⟨Nat.zero_le _,hK2.symm,hkb⟩) (by refine weak_of ?_ ?_<;>simp (disch:=omega) only [go_sem]<;>first|rfl|exact ⟨rfl,rfl⟩|exact Or.inl rfl|exact ⟨Or.inl rfl,Or.inl rfl⟩|trivial|assumption|omega|(symm;assumption)|((repeat' apply And.intro)<;>first|rfl|omega|trivial|exact .inl rfl|exact .inr ⟨rfl,rfl⟩|exact .inr rfl|(right;symm;assumption)|(symm;assumption)|assumption)) ?_ ?_
  ·rintro ⟨j,d⟩ ⟨hj,hd,hdb⟩
   simp only at hj hd hdb
   simp only [go_sem]
   by_cases hgo2:j<P.length∧d≤2048
   ·obtain ⟨hlt2,hle2⟩:=hgo2
    have hsm:=(hPx _ (List.getElem_mem hlt2)).1
    have gs:=map_get ints P hlt2
    have hdr2:P.drop j=P[j]::P.drop (j+1):=List.drop_eq_getElem_cons hlt2
    rw [hdr2] at hd
    unfold pGo at hd
    rw [if_pos hle2] at hd
    generalize P[j]=t at gs hsm hd
    have hle2':(d:Int)≤2048:=by omega
    have hlt2':(j:Int)<(P.length:Int):=by omega
    have hdt:(d:Int)+(t.length:Int)=((d+t.length:Nat):Int):=by rw [Int.natCast_add]
    (repeat (with_reducible first|refine W_seq fun K hK=>?_|refine J_block ?_|refine J_skip ?_|refine J_region ?_ |refine J_c ?_|refine Jc_true ?_|(refine Kont.go (by assumption) ?_)|(simp (config:={ maxSteps:=3000000 }) (disch:=omega) only [go_sem,↓reduceIte,hlt2',hle2',List.length_map,gs,hdt])))
    refine ⟨(j+1,d+t.length),⟨by simp only;omega,hd,by simp only;omega⟩,by simp only;omega,weak_of ?_ ?_⟩<;>(try simp (disch:=omega) only [go_sem])<;>(try first|done|omega|rfl|exact ⟨rfl,rfl⟩|trivial)
   ·have hd2:d=K2:=by
     by_cases hlt2:j<P.length
     ·have hdr2:P.drop j=P[j]::P.drop (j+1):=List.drop_eq_getElem_cons hlt2
      rw [hdr2] at hd
      unfold pGo at hd
      rw [if_neg (by omega)] at hd
      exact hd
     ·rw [List.drop_of_length_le (by omega)] at hd
      exact hd
    clear hd
    subst hd2
    by_cases hlt2:j<P.length
    ·have hlt2':(j:Int)<(P.length:Int):=by omega
     have hle2':¬(d:Int)≤2048:=by omega
     (repeat (first|(with_reducible first|refine W_seq fun K hK=>?_|refine J_exit ?_|refine J_region ?_ |refine J_c ?_|refine Jc_false ?_|(refine Kont.go (by assumption) ?_)|(simp (config:={ maxSteps:=3000000 }) (disch:=omega) only [go_sem,↓reduceIte,hlt2',hle2',List.length_map]))|refine And.intro (by omega) ?_))
     (refine weak_of ?_ ?_<;>(try simp only [go_sem])<;>(try first|done|omega|rfl|exact ⟨rfl,rfl⟩|trivial))
    ·have hlt2':¬(j:Int)<(P.length:Int):=by omega
     (repeat (first|(with_reducible first|refine W_seq fun K hK=>?_|refine J_exit ?_|refine J_region ?_ |refine J_c ?_|refine Jc_false ?_|(refine Kont.go (by assumption) ?_)|(simp (config:={ maxSteps:=3000000 }) (disch:=omega) only [go_sem,↓reduceIte,hlt2',List.length_map]))|refine And.intro (by omega) ?_))
     (refine weak_of ?_ ?_<;>(try simp only [go_sem])<;>(try first|done|omega|rfl|exact ⟨rfl,rfl⟩|trivial))
  ·rintro _ hkb2
   simp only [go_sem]
   (repeat (with_reducible first|refine W_seq fun K hK=>?_|refine J_block ?_|refine J_region ?_ |(refine Kont.go (by assumption) ?_)|(simp (config:={ maxSteps:=3000000 }) (disch:=omega) only [go_sem])))
   refine W_loopE (by assumption) [3,8,115,116,117,118,119,120,121,122,123,124,125,126,127,128,129,130,131,132,133] (fun y:Nat × Nat=>[(8,.f (I y.1)),(3,.f (I y.2))]) (fun y:Nat × Nat=>[oNt (V.map varF) (P.map ints) (R.map rawF)]) (fun y:Nat × Nat=>y.1≤R.length∧rGo y.2 (R.drop y.1)=K3∧y.2≤844424930131968) (fun y:Nat × Nat=>R.length-y.1) ((0,K2)) (fun z:Unit=>[(3,.f (I K3))]) (fun z:Unit=>[oNt (V.map varF) (P.map ints) (R.map rawF)]) (fun z:Unit=>True) (⟨Nat.zero_le _,hK3.symm,hkb2⟩) (by refine weak_of ?_ ?_<;>simp (disch:=omega) only [go_sem]<;>first|rfl|exact ⟨rfl,rfl⟩|exact Or.inl rfl|exact ⟨Or.inl rfl,Or.inl rfl⟩|trivial|assumption|omega|(symm;assumption)|((repeat' apply And.intro)<;>first|rfl|omega|trivial|exact .inl rfl|exact .inr ⟨rfl,rfl⟩|exact .inr rfl|(right;symm;assumption)|(symm;assumption)|assumption)) ?_ ?_
   ·rintro ⟨j,d⟩ ⟨hj,hd,hdb⟩
    simp only at hj hd hdb
    simp only [go_sem]
    by_cases hgo2:j<R.length∧d≤2048
    ·obtain ⟨hlt2,hle2⟩:=hgo2
     have hok:=hRx _ (List.getElem_mem hlt2)
     have hsm:=fbN_leN hok
     have hfb:=fracBytes_w _ hok
     have gs:(R.map rawF)[j]?=some (.fz 3 (R[j].map frF)):=map_get rawF R hlt2
     have hdr2:R.drop j=R[j]::R.drop (j+1):=List.drop_eq_getElem_cons hlt2
     rw [hdr2] at hd
     unfold rGo at hd
     rw [if_pos hle2] at hd
     generalize R[j]=t at gs hsm hd hfb
     have hle2':(d:Int)≤2048:=by omega
     have hlt2':(j:Int)<(R.length:Int):=by omega
     have hdt:(d:Int)+(fbN t:Int)=((d+fbN t:Nat):Int):=by rw [Int.natCast_add]
     (repeat (with_reducible first|refine W_seq fun K hK=>?_|refine J_block ?_|refine J_skip ?_|refine J_region ?_ |refine J_c ?_|refine Jc_true ?_|(refine Kont.go (by assumption) ?_)|(simp (config:={ maxSteps:=3000000 }) (disch:=omega) only [go_sem,↓reduceIte,hlt2',hle2',List.length_map,gs])))
     (first|refine call_f (hfb) rfl ?_|refine callQ_f (hfb) rfl ?_|refine callHK_f (hfb) rfl ?_|refine callH_f (hfb) rfl ?_)
     (repeat (with_reducible first|refine J_region ?_ |(refine Kont.go (by assumption) ?_)|(simp (config:={ maxSteps:=3000000 }) (disch:=omega) only [go_sem,hdt])))
     refine ⟨(j+1,d+fbN t),⟨by simp only;omega,hd,by simp only;omega⟩,by simp only;omega,weak_of ?_ ?_⟩<;>(try simp (disch:=omega) only [go_sem])<;>(try first|done|omega|rfl|exact ⟨rfl,rfl⟩|trivial)
    ·have hd2:d=K3:=by
      by_cases hlt2:j<R.length
      ·have hdr2:R.drop j=R[j]::R.drop (j+1):=List.drop_eq_getElem_cons hlt2
       rw [hdr2] at hd
       unfold rGo at hd
       rw [if_neg (by omega)] at hd
       exact hd
      ·rw [List.drop_of_length_le (by omega)] at hd
       exact hd
     clear hd
     subst hd2
     by_cases hlt2:j<R.length
     ·have hlt2':(j:Int)<(R.length:Int):=by omega
      have hle2':¬(d:Int)≤2048:=by omega
      (repeat (with_reducible first|refine W_seq fun K hK=>?_|refine J_exit ?_|refine J_region ?_ |refine J_c ?_|refine Jc_false ?_|(refine Kont.go (by assumption) ?_)|(simp (config:={ maxSteps:=3000000 }) (disch:=omega) only [go_sem,↓reduceIte,hlt2',hle2',List.length_map])))
      (refine weak_of ?_ ?_<;>(try simp only [go_sem])<;>(try first|done|omega|rfl|exact ⟨rfl,rfl⟩|trivial))
     ·have hlt2':¬(j:Int)<(R.length:Int):=by omega
      (repeat (with_reducible first|refine W_seq fun K hK=>?_|refine J_exit ?_|refine J_region ?_ |refine J_c ?_|refine Jc_false ?_|(refine Kont.go (by assumption) ?_)|(simp (config:={ maxSteps:=3000000 }) (disch:=omega) only [go_sem,↓reduceIte,hlt2',List.length_map])))
      (refine weak_of ?_ ?_<;>(try simp only [go_sem])<;>(try first|done|omega|rfl|exact ⟨rfl,rfl⟩|trivial))
   ·rintro _ _
    simp only [go_sem]
    by_cases h3:2048<K3
    ·have h3':(2048:Int)<(K3:Int):=by omega
     rw [decide_eq_true h3,Bool.true_or]
     (repeat (with_reducible first|refine W_seq fun K hK=>?_|refine J_ret ?_|refine J_region ?_ |exact Frz.f _|(refine Kont.go (by assumption) ?_)|(simp (config:={ maxSteps:=3000000 }) (disch:=omega) only [go_sem,h3'])))
    ·have h3':¬(2048:Int)<(K3:Int):=by omega
     rw [decide_eq_false h3,Bool.false_or]
     (repeat (with_reducible first|refine W_seq fun K hK=>?_|refine J_ret ?_|refine J_region ?_ |(refine Kont.go (by assumption) ?_)|(simp (config:={ maxSteps:=3000000 }) (disch:=omega) only [go_sem,h3'])))
     rw [show decide ((800:Int)<(KC.2:Int))=decide (800<KC.2) by congr 1;exact propext ⟨fun h=>by omega,fun h=>by omega⟩]
     exact Frz.f _
theorem heavyNet_ok {V:List VarD} {P:List (List Int)} {R:List (List F3)} (h:(decide (2048<hvK (V,P,R))||decide (800<hvC (V,P,R)))=false):V.length≤2048∧(∀x∈V,x.1.size≤2048∧x.2.length≤2048∧∀s∈x.2,s.size≤2048)∧∀r∈R,fbN r≤2048:=by
 rw [Bool.or_eq_false_iff,decide_eq_false_iff_not,decide_eq_false_iff_not] at h
 obtain ⟨h1,h2⟩:=h
 unfold hvK at h1
 unfold hvC at h2
 simp only at h1 h2
 have g1:=vGo_ge (l:=V) (k:=V.length+P.length+R.length) (c:=1)
 have g2:=pGo_ge (l:=P) (k:=(vGo (V.length+P.length+R.length) 1 V).1)
 have g3:=rGo_ge (l:=R) (k:=pGo (vGo (V.length+P.length+R.length) 1 V).1 P)
 exact ⟨by omega,vGo_all (k:=V.length+P.length+R.length) (c:=1) (by omega) (by omega),rGo_all (k:=pGo (vGo (V.length+P.length+R.length) 1 V).1 P) (by omega)⟩
end Go.Proofs.YthehegidpamldaaGreatDoor
set_option linter.unusedVariables false
set_option linter.unusedSimpArgs false
namespace Go.Proofs.YthehegidpamldaaGreatDoor
open Go Go.RowKit
theorem oFss:Opens Tryz.prog 24 (fun l:List (List F3)=>.fz 1 (l.map fun r=>.fz 3 (r.map frF))) (fun l=>l.length≤140737488355328∧∀r∈l,OkFs r):=(oFs.slice Tryz.underlying24 (by kernel_rfl) (by decide) (by kernel_rfl)).map fun l h=>⟨Nat.le_trans (reach_8 h.1 (by decide +kernel)) (by decide),h.2⟩
end Go.Proofs.YthehegidpamldaaGreatDoor
set_option linter.unusedVariables false
set_option linter.unusedSimpArgs false
namespace Go.Proofs.YthehegidpamldaaGreatDoor
open Go Go.RowKit
theorem oStr:Opens Tryz.prog 9 St OkS:=(Opens.string Tryz.underlying9 (by kernel_rfl)).map fun s h=>h
theorem oTx:Opens Tryz.prog 61 txF OkTx:=(oStr.slice Tryz.underlying61 (by kernel_rfl) (by decide) (by kernel_rfl)).map fun l h=>⟨Nat.le_trans (reach_8 h.1 (by decide +kernel)) (by decide),h.2⟩
theorem oVar:Opens Tryz.prog 63 varF OkV:=Opens.struct2 Tryz.underlying63 (by kernel_rfl) oStr oTx ⟨rfl,rfl,rfl,rfl,by kernel_rfl,by kernel_rfl⟩ ⟨fun _=>rfl,fun _=>rfl⟩
theorem oVars:Opens Tryz.prog 22 (fun l:List VarD=>.fz 2 (l.map varF)) (fun l=>l.length≤140737488355328∧∀x∈l,OkV x):=(oVar.slice Tryz.underlying22 (by kernel_rfl) (by decide) (by kernel_rfl)).map fun l h=>⟨Nat.le_trans (reach_8 h.1 (by decide +kernel)) (by decide),h.2⟩
theorem oIssN:Opens Tryz.prog 23 (fun l:List (List Int)=>.fz 1 (l.map ints)) (fun l=>l.length≤140737488355328∧∀r∈l,OkIs r):=(oIs.slice Tryz.underlying23 (by kernel_rfl) (by decide) (by kernel_rfl)).map fun l h=>⟨Nat.le_trans (reach_8 h.1 (by decide +kernel)) (by decide),h.2⟩
theorem oNet:Opens Tryz.prog 26 netO OkNet:=Opens.struct3 Tryz.underlying26 (by kernel_rfl) oVars oIssN oFss ⟨rfl,rfl,rfl,rfl,rfl,rfl,by kernel_rfl,by kernel_rfl,by kernel_rfl⟩ ⟨fun _=>rfl,fun _=>rfl,fun _=>rfl⟩
def rwsN (R:List (List F3)):List (List Rat):=R.map fun r=>r.map rv3
theorem netOk_of {V:List VarD} {P:List (List Int)} {R:List (List F3)} (h:OkNet (V,P,R)) (hh:(decide (2048<hvK (V,P,R))||decide (800<hvC (V,P,R)))=false):NetOk 2048 V P (R.map rawF) (rwsN R):=by
 obtain ⟨h1,h2,h3⟩:=heavyNet_ok hh
 obtain ⟨_,hP,_⟩:=h
 refine ⟨by omega,fun x hx=>?_,fun x hx=>?_,fun x hx s hs=>?_,⟨hP.1,fun l hl=>hP.2 l hl⟩,⟨by simp [rwsN],fun i r hr=>?_⟩,by decide,by decide,fun r hr=>?_⟩
 ·have:=(h2 x hx).1;omega
 ·have:=(h2 x hx).2.1;omega
 ·have:=(h2 x hx).2.2 s hs;omega
 ·unfold rwsN at hr
  rw [List.getElem?_map] at hr
  cases he:R[i]? with
  | none=>rw [he] at hr;cases hr
  | some y =>
   rw [he] at hr;cases hr
   exact ⟨y.map frF,by rw [List.getElem?_map,he];rfl,fbN_frs (by decide) (h3 y (List.mem_of_getElem? he))⟩
 ·obtain ⟨y,hy,rfl⟩:=List.mem_map.1 hr
  have:=h3 y hy
  have:=fbN_len (l:=y)
  rw [List.length_map];omega
end Go.Proofs.YthehegidpamldaaGreatDoor
-- NOOWN
set_option linter.unusedVariables false
set_option linter.unusedSimpArgs false
namespace Go.Proofs.YthehegidpamldaaGreatDoor
open Go Go.RowKit
theorem print_pair {V:List VarD} {P:List (List Int)} {RR:List FV} {M:List (List Rat)} {k:Nat} (h:NetOk k V P RR M) (hB:PrB k V P M):∃(S:ByteArray) (e:Int),Good Tryz.prog 7 [netV V (P.map ints) RR] (.tup [St S,I e])∧Good Tryz.prog 8 [netV V (P.map ints) RR] (.tup [St S,I e]):=by
 by_cases he:netE (ordE P) V P M=0
 ·have h1:=print_w h hB he
  have h2:=rprint_w h hB he
  by_cases hb:20000<(prA V P M).size
  ·rw [if_pos hb,if_pos hb] at h1 h2;exact ⟨_,_,h1,h2⟩
  ·rw [if_neg hb,if_neg hb] at h1 h2;exact ⟨_,_,h1,h2⟩
 ·exact ⟨_,_,printE_w h he,rprintE_w h he⟩
set_option maxRecDepth 100000 in
set_option maxHeartbeats 16000000 in
theorem netPrints_w (n:NetD) (hn:OkNet n):Good Tryz.prog 3 [netO n] (Bo true):=by
 obtain ⟨V,P,R⟩:=n
 have hh:=heavyNet_w V P R hn
 have e0:netO (V,P,R)=netV V (P.map ints) (R.map rawF):=rfl
 rw [e0]
 by_cases h1:(decide (2048<hvK (V,P,R))||decide (800<hvC (V,P,R)))=true
 ·rw [h1] at hh
  refine good_of Tryz.func3 rfl (by kernel_rfl) fun X hO hrd=>?_;rw [Tryz.ntmps3,Tryz.results3];simp only [ast0,List.map_cons,List.map_nil,List.length_cons,List.length_nil,Nat.reduceAdd,Nat.reduceSub,List.replicate_succ,List.replicate_zero,List.cons_append,List.nil_append]
  (repeat (with_reducible first|refine W_seq fun K hK=>?_|refine J_region ?_ |(refine Kont.go (by assumption) ?_)|(simp (config:={ maxSteps:=3000000 }) (disch:=omega) only [go_sem,↓reduceIte,Nat.reduceAdd])))
  (first|refine call_f (hh) rfl ?_|refine callQ_f (hh) rfl ?_|refine callHK_f (hh) rfl ?_|refine callH_f (hh) rfl ?_)
  (repeat (with_reducible first|refine W_seq fun K hK=>?_|refine J_ret ?_|refine J_region ?_ |refine J_c ?_|refine Jc_true ?_|exact Frz.f _|(refine Kont.go (by assumption) ?_)|(simp (config:={ maxSteps:=3000000 }) (disch:=omega) only [go_sem])))
 rw [Bool.not_eq_true] at h1
 rw [h1] at hh
 have h:=netOk_of hn h1
 obtain ⟨_,hv,_⟩:=heavyNet_ok h1
 have hB:PrB 2048 V P (rwsN R):=⟨fun x hx=>(hv x hx).1,fun x hx=>(hv x hx).2.2,by decide,by decide,fun r hr=>by
  obtain ⟨i,hi,rfl⟩:=List.getElem_of_mem hr
  obtain ⟨_,_,h2⟩:=h.hM.at hi
  exact h2.row (by decide)⟩
 obtain ⟨S,e,p1,p2⟩:=print_pair h hB
 refine good_of Tryz.func3 rfl (by kernel_rfl) fun X hO hrd=>?_;rw [Tryz.ntmps3,Tryz.results3];simp only [ast0,List.map_cons,List.map_nil,List.length_cons,List.length_nil,Nat.reduceAdd,Nat.reduceSub,List.replicate_succ,List.replicate_zero,List.cons_append,List.nil_append]
 (repeat (with_reducible first|refine W_seq fun K hK=>?_|refine J_region ?_ |(refine Kont.go (by assumption) ?_)|(simp (config:={ maxSteps:=3000000 }) (disch:=omega) only [go_sem,↓reduceIte,Nat.reduceAdd])))
 (first|refine call_f (hh) rfl ?_|refine callQ_f (hh) rfl ?_|refine callHK_f (hh) rfl ?_|refine callH_f (hh) rfl ?_)
 (repeat (with_reducible first|refine W_seq fun K hK=>?_|refine J_skip ?_|refine J_region ?_ |refine J_c ?_|refine Jc_false ?_|(refine Kont.go (by assumption) ?_)|(simp (config:={ maxSteps:=3000000 }) (disch:=omega) only [go_sem,↓reduceIte,Nat.reduceAdd])))
 (first|refine call_f (p1) rfl ?_|refine callQ_f (p1) rfl ?_|refine callHK_f (p1) rfl ?_|refine callH_f (p1) rfl ?_)
 (repeat (with_reducible first|refine W_seq fun K hK=>?_|refine J_region ?_ |(refine Kont.go (by assumption) ?_)|(simp (config:={ maxSteps:=3000000 }) (disch:=omega) only [go_sem,↓reduceIte,Nat.reduceAdd])))
 (first|refine call_f (p2) rfl ?_|refine callQ_f (p2) rfl ?_|refine callHK_f (p2) rfl ?_|refine callH_f (p2) rfl ?_)
 (repeat (with_reducible first|refine W_seq fun K hK=>?_|refine J_ret ?_|refine J_region ?_ |exact Frz.f _|(refine Kont.go (by assumption) ?_)|(simp (config:={ maxSteps:=3000000 }) (disch:=omega) only [go_sem])))
end Go.Proofs.YthehegidpamldaaGreatDoor
set_option linter.unusedVariables false
set_option linter.unusedSimpArgs false
namespace Go.Proofs.YthehegidpamldaaGreatDoor
open Go
theorem goes_none {P:Program} (h:P.funcs.any Func.goes=false) (f:FuncId):P.goes f=false:=by
 have hx:∀g:FuncId,(P.funcs[g]?).any Func.goes=false:=fun g=>by
  cases hg:P.funcs[g]? with
  | none=>rfl
  | some fn =>
   show Func.goes fn=false
   cases hf:Func.goes fn with
   | false=>rfl
   | true =>
    have hm:fn∈P.funcs:=Array.mem_of_getElem? hg
    have:P.funcs.any Func.goes=true:=Array.any_eq_true'.2 ⟨fn,hm,hf⟩
    rw [h] at this;cases this
 unfold Program.goes
 rw [h,Bool.and_false,Bool.or_false,List.any_eq_false]
 intro g _
 rw [hx g]
 decide
theorem goesBy_none {P:Program} {c:OpenClaim} (h:P.funcs.any Func.goes=false) (hs:c.start=.entering):false=c.goesBy P:=by
 unfold OpenClaim.goesBy Program.goesAt Program.goesFrom
 rw [hs]
 cases P.funcNamed c.func with
 | none=>rfl
 | some f=>show false=(P.goes f||false);rw [goes_none h];rfl
end Go.Proofs.YthehegidpamldaaGreatDoor
