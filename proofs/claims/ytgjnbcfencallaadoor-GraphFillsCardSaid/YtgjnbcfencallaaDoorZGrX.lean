/- Tree, the document's way: walked. Conditions: what slices may hold. -/
import Derived.Test.YtgjnbcfencallaaDoorZB12
import Derived.Test.YtgjnbcfencallaaDoorZGrQ
set_option linter.unusedVariables false
set_option linter.unusedSimpArgs false
namespace Go.Proofs.YtgjnbcfencallaaDoor
open Go Go.RowKit
theorem stdL_len {K:List Nat}:∀{j:Nat},(stdL K j).length=j+1:=by
 intro j
 induction j with
 | zero=>rfl
 | succ j ih=>rw [stdL_next,List.length_append,ih];rfl
set_option maxRecDepth 100000 in
set_option maxHeartbeats 8000000 in
theorem rTree_w (L:List (List Int)) (hL:OkIss L):Good Tryd.prog 23 [.fz 1 (L.map ints)] (.tup [.fz 1 (gvs (trK L)),.fz 3 (trL L),I (trE L)]):=by
 obtain ⟨hLl,hLr⟩:=hL
 obtain ⟨vK,hvK⟩:∃vK,vK=trK L:=⟨_,rfl⟩
 obtain ⟨vE,hvE⟩:∃vE,vE=trE L:=⟨_,rfl⟩
 obtain ⟨vL,hvL⟩:∃vL,vL=trL L:=⟨_,rfl⟩
 rw [←hvK,←hvE,←hvL]
 have g0:gvs []=[]:=rfl
 have bad:bagsB L=false→vK=[]∧vL=[]∧vE=11:=fun hb =>
  ⟨by rw [hvK];unfold trK;rw [hb];rfl,by rw [hvL];unfold trL;rw [hb];rfl,by rw [hvE];unfold trE;rw [hb];rfl⟩
 refine good_of Tryd.func23 rfl (by kernel_rfl) fun X hO hrd=>?_;rw [Tryd.ntmps23,Tryd.results23];simp only [ast0,List.map_cons,List.map_nil,List.length_cons,List.length_nil,Nat.reduceAdd,Nat.reduceSub,List.replicate_succ,List.replicate_zero,List.cons_append,List.nil_append]
 by_cases h1:1≤L.length∧L.length≤8
 case neg =>
  have hb:bagsB L=false:=by
   cases h:bagsB L with
   | false=>rfl
   | true=>exact absurd (bagsB_iff.1 h).1 h1
  obtain ⟨e1,e2,e3⟩:=bad hb
  by_cases h2:(L.length:Int)<1
  ·(repeat (with_reducible first|refine W_seq fun K hK=>?_|refine J_ret ?_|refine J_region ?_ |refine J_c ?_|refine Jc_true ?_|(refine Kont.go (by assumption) ?_)|(simp (config:={ maxSteps:=3000000 }) (disch:=omega) only [go_sem,List.length_map,h2])))
   rw [e1,e2,e3,g0]
   exact ⟨_,rfl,FrzL.cons (.nil _) (FrzL.cons (.nil _) (FrzL.cons (.f _) (FrzL.nil _)))⟩
  ·have h3:(8:Int)<(L.length:Int):=by omega
   (repeat (with_reducible first|refine W_seq fun K hK=>?_|refine J_ret ?_|refine J_region ?_ |refine J_c ?_|refine Jc_true ?_|(refine Kont.go (by assumption) ?_)|(simp (config:={ maxSteps:=3000000 }) (disch:=omega) only [go_sem,List.length_map,h2,h3])))
   rw [e1,e2,e3,g0]
   exact ⟨_,rfl,FrzL.cons (.nil _) (FrzL.cons (.nil _) (FrzL.cons (.f _) (FrzL.nil _)))⟩
 obtain ⟨hn1,hn8⟩:=h1
 have h2:¬(L.length:Int)<1:=by omega
 have h3:¬(8:Int)<(L.length:Int):=by omega
 (repeat (with_reducible first|refine W_seq fun K hK=>?_|refine J_skip ?_|((fail_if_success refine J_region (id:=3) ?_);refine J_region ?_) |refine J_c ?_|refine Jc_false ?_|(refine Kont.go (by assumption) ?_)|(simp (config:={ maxSteps:=3000000 }) (disch:=omega) only [go_sem,List.length_map,h2,h3])))
 refine J_reserve ?_
 have h0:AV.f nilV=sl 0 1 (kpD L 0):=rfl
 obtain ⟨n,hn⟩:∃n,n=L.length:=⟨_,rfl⟩
 (repeat (with_reducible first|refine W_seq fun K hK=>?_|refine J_block ?_|refine J_region ?_ |(refine Kont.go (by assumption) ?_)|(simp (config:={ maxSteps:=3000000 }) (disch:=omega) only [go_sem])))
 refine W_loop [2,3,4,5,6,7,8,9,10,27,28,29,30,31,32,33,34,35,36,37,38,39,40,41,42,43,44,45,46,47,48,49,50,51,52,53,54,55,56,57,58,59,60,61,62,63,64,65,66,67,68,69,70,71,72,73,74,75,76,77,78,79,80,81,82,83,84,85,86,87,88,89,90,91,92,93,94,95,96,97] (fun x:Nat=>[(5,sl 0 1 (kpD L x)),(6,.f (I x))]) (fun x:Nat=>[ob 23 1 (kpD L x)]) (fun x:Nat=>x≤n∧∀j,j<x→bagN (L.getD j [])=true) (fun x:Nat=>n-x) (0) (⟨Nat.zero_le _,fun j h=>by omega⟩) (by refine weak_of ?_ ?_<;>simp (disch:=omega) only [go_sem]<;>first|rfl|exact ⟨rfl,rfl⟩|exact Or.inl rfl|exact ⟨Or.inl rfl,Or.inl rfl⟩|trivial|assumption|omega|(symm;assumption)|((repeat' apply And.intro)<;>first|rfl|omega|trivial|exact .inl rfl|exact .inr ⟨rfl,rfl⟩|exact .inr rfl|(right;symm;assumption)|(symm;assumption)|assumption)) ?_
 rintro x ⟨hx,hp⟩
 have hkl:=kpD_len (L:=L) (x:=x)
 have hLm:(L.map ints).length=n:=by rw [List.length_map,hn]
 simp only [go_sem]
 (repeat (with_reducible first|refine W_seq fun K hK=>?_|refine J_region ?_ |refine J_c ?_|(refine Kont.go (by assumption) ?_)|(simp (config:={ maxSteps:=3000000 }) (disch:=omega) only [go_sem,hLm])))
 refine Jc_if (fun hxn=>?_) (fun hxn=>?_)<;>try simp only [decide_eq_true_eq,decide_eq_false_iff_not] at hxn
 ·have hxl:x<L.length:=by omega
  have gx:=map_get ints L hxl
  have g3:L.getD x []=L[x]:=lget_lt L [] hxl
  have hlr:=hLr _ (List.getElem_mem hxl)
  have hr:=rising_w (n:=8) L[x] (by omega) hlr.2 hlr.1
  have hbad:bagN L[x]=false→bagsB L=false:=fun h=>by
   cases hb:bagsB L with
   | false=>rfl
   | true=>have:=(bagsB_iff.1 hb).2 _ (List.getElem_mem hxl);rw [h] at this;cases this
  (repeat (with_reducible first|refine W_seq fun K hK=>?_|refine J_block ?_|refine J_skip ?_|refine J_region ?_ |(refine Kont.go (by assumption) ?_)|(simp (config:={ maxSteps:=3000000 }) (disch:=omega) only [go_sem,↓reduceIte,gx])))
  (first|refine call_f (hr) rfl ?_|refine callQ_f (hr) rfl ?_|refine callHK_f (hr) rfl ?_|refine callH_f (hr) rfl ?_)
  cases hb1:risB 8 L[x] with
  | false =>
   obtain ⟨e1,e2,e3⟩:=bad (hbad (by unfold bagN;rw [hb1];rfl))
   (repeat (with_reducible first|refine W_seq fun K hK=>?_|refine J_ret ?_|refine J_region ?_ |refine J_c ?_|refine Jc_true ?_|(refine Kont.go (by assumption) ?_)|(simp (config:={ maxSteps:=3000000 }) (disch:=omega) only [go_sem])))
   rw [e1,e2,e3,g0]
   exact ⟨_,rfl,FrzL.cons (.nil _) (FrzL.cons (.nil _) (FrzL.cons (.f _) (FrzL.nil _)))⟩
  | true =>
   by_cases hz:L[x].length=0
   ·obtain ⟨e1,e2,e3⟩:=bad (hbad (by unfold bagN;rw [decide_eq_true (List.length_eq_zero_iff.1 hz)];simp))
    have hz':((L[x].length:Nat):Int)=0:=by omega
    (repeat (with_reducible first|refine W_seq fun K hK=>?_|refine J_ret ?_|refine J_region ?_ |refine J_c ?_|refine Jc_true ?_|(refine Kont.go (by assumption) ?_)|(simp (config:={ maxSteps:=3000000 }) (disch:=omega) only [go_sem,↓reduceIte,gx,List.length_map,hz,true_and])))
    rw [e1,e2,e3,g0]
    exact ⟨_,rfl,FrzL.cons (.nil _) (FrzL.cons (.nil _) (FrzL.cons (.f _) (FrzL.nil _)))⟩
   ·have hok:bagN (L.getD x [])=true:=by rw [g3];unfold bagN;rw [hb1,decide_eq_false (fun h=>hz (by rw [h];rfl))];rfl
    have hz':¬((L[x].length:Nat):Int)=0:=by omega
    have hit0:Bo false=Bo (inT L x 0):=rfl
    (repeat (with_reducible first|refine W_seq fun K hK=>?_|refine J_block ?_|refine J_skip ?_|refine J_region ?_ |refine J_c ?_|refine Jc_false ?_|(refine Kont.go (by assumption) ?_)|(simp (config:={ maxSteps:=3000000 }) (disch:=omega) only [go_sem,↓reduceIte,gx,List.length_map,hz',true_and])))
    refine W_loop [8,9,10,48,49,50,51,52,53,54,55,56,57,58,59,60,61,62,63,64,65,66,67,68,69,70,71,72,73,74,75,76,77,78,79,80,81,82,83,84,85,86] (fun k:Nat=>[(8,.f (Bo (inT L x k))),(9,.f (I k))]) (fun k:Nat=>[ob 23 1 (kpD L x)]) (fun k:Nat=>k≤n) (fun k:Nat=>n-k) (0) (Nat.zero_le _) (by refine weak_of ?_ ?_<;>simp (disch:=omega) only [go_sem]<;>first|rfl|exact ⟨rfl,rfl⟩|exact Or.inl rfl|exact ⟨Or.inl rfl,Or.inl rfl⟩|trivial|assumption|omega|(symm;assumption)|((repeat' apply And.intro)<;>first|rfl|omega|trivial|exact .inl rfl|exact .inr ⟨rfl,rfl⟩|exact .inr rfl|(right;symm;assumption)|(symm;assumption)|assumption)) ?_
    rintro k hk
    simp only [go_sem]
    (repeat (with_reducible first|refine W_seq fun K hK=>?_|refine J_region ?_ |refine J_c ?_|(refine Kont.go (by assumption) ?_)|(simp (config:={ maxSteps:=3000000 }) (disch:=omega) only [go_sem,hLm])))
    refine Jc_if (fun hkn=>?_) (fun hkn=>?_)<;>try simp only [decide_eq_true_eq,decide_eq_false_iff_not] at hkn
    ·have hkl2:k<L.length:=by omega
     have gk:=map_get ints L hkl2
     have g4:L.getD k []=L[k]:=lget_lt L [] hkl2
     have hlk:=hLr _ (List.getElem_mem hkl2)
     have hin:=rinside_w L[x] L[k] ⟨hlr.1,hlr.2⟩ ⟨hlk.1,hlk.2⟩
     have hnx:=inT_next (L:=L) (i:=x) (x:=k)
     have hik:inK L x k=(!decide (k=x)&&insB L[x] L[k]&&(decide (L[x].length<L[k].length)||decide (k<x))):=by unfold inK;rw [g3,g4]
     (repeat (with_reducible first|refine W_seq fun K hK=>?_|refine J_block ?_|refine J_skip ?_|refine J_drawn mixed (by kernel_rfl) ?_|(refine Kont.go (by assumption) ?_)|(simp (config:={ maxSteps:=3000000 }) (disch:=omega) only [go_sem,↓reduceIte,gx,gk])))
     (first|refine call_f (hin) rfl ?_|refine callQ_f (hin) rfl ?_|refine callHK_f (hin) rfl ?_|refine callH_f (hin) rfl ?_)
     cases hc:inK L x k with
     | true =>
      have hnt:inT L x (k+1)=true:=by rw [hnx,hc,Bool.or_true]
      rw [hc] at hik
      obtain ⟨q1,q3⟩:=Bool.and_eq_true_iff.1 hik.symm
      obtain ⟨q1,q2⟩:=Bool.and_eq_true_iff.1 q1
      have q1':¬(k:Int)=(x:Int):=by have:=of_decide_eq_false (by simpa using q1:decide (k=x)=false);omega
      by_cases q4:L[x].length<L[k].length
      ·have q4':((L[x].length:Nat):Int)<((L[k].length:Nat):Int):=by omega
       (repeat (with_reducible first|refine W_seq fun K hK=>?_|refine J_region ?_ |refine J_drawn mixed (by kernel_rfl) ?_|refine J_c ?_|refine Jc_true ?_|(refine Kont.go (by assumption) ?_)|(simp (config:={ maxSteps:=3000000 }) (disch:=omega) only [go_sem,↓reduceIte,gx,gk,List.length_map,q1',q2,q4',true_and])))
       refine ⟨k+1,by omega,by omega,weak_of ?_ ?_⟩<;>(try simp (disch:=omega) only [go_sem,hnt])<;>(try first|done|omega|rfl|exact ⟨rfl,rfl⟩|trivial)
      ·have q4':¬((L[x].length:Nat):Int)<((L[k].length:Nat):Int):=by omega
       have q5:k<x:=by rw [decide_eq_false q4,Bool.false_or] at q3;exact of_decide_eq_true q3
       have q5':(k:Int)<(x:Int):=by omega
       (repeat (with_reducible first|refine W_seq fun K hK=>?_|refine J_region ?_ |refine J_drawn mixed (by kernel_rfl) ?_|refine J_c ?_|refine Jc_true ?_|(refine Kont.go (by assumption) ?_)|(simp (config:={ maxSteps:=3000000 }) (disch:=omega) only [go_sem,↓reduceIte,gx,gk,List.length_map,q1',q2,q4',q5',true_and])))
       refine ⟨k+1,by omega,by omega,weak_of ?_ ?_⟩<;>(try simp (disch:=omega) only [go_sem,hnt])<;>(try first|done|omega|rfl|exact ⟨rfl,rfl⟩|trivial)
     | false =>
      have hnt:inT L x (k+1)=inT L x k:=by rw [hnx,hc,Bool.or_false]
      by_cases q1:k=x
      ·have q1':(k:Int)=(x:Int):=by omega
       (repeat (with_reducible first|refine W_seq fun K hK=>?_|refine J_skip ?_|refine J_region ?_ |refine J_drawn mixed (by kernel_rfl) ?_|refine J_c ?_|refine Jc_false ?_|(refine Kont.go (by assumption) ?_)|(simp (config:={ maxSteps:=3000000 }) (disch:=omega) only [go_sem,q1'])))
       refine ⟨k+1,by omega,by omega,weak_of ?_ ?_⟩<;>(try simp (disch:=omega) only [go_sem,hnt])<;>(try first|done|omega|rfl|exact ⟨rfl,rfl⟩|trivial)
      ·have q1':¬(k:Int)=(x:Int):=by omega
       rw [hc,decide_eq_false q1,Bool.not_false,Bool.true_and] at hik
       cases q2:insB L[x] L[k] with
       | false =>
        (repeat (with_reducible first|refine W_seq fun K hK=>?_|refine J_skip ?_|refine J_region ?_ |refine J_drawn mixed (by kernel_rfl) ?_|refine J_c ?_|refine Jc_false ?_|(refine Kont.go (by assumption) ?_)|(simp (config:={ maxSteps:=3000000 }) (disch:=omega) only [go_sem,q1'])))
        refine ⟨k+1,by omega,by omega,weak_of ?_ ?_⟩<;>(try simp (disch:=omega) only [go_sem,hnt])<;>(try first|done|omega|rfl|exact ⟨rfl,rfl⟩|trivial)
       | true =>
        rw [q2,Bool.true_and] at hik
        obtain ⟨q3,q4⟩:=Bool.or_eq_false_iff.1 hik.symm
        have q3:=of_decide_eq_false q3
        have q4:=of_decide_eq_false q4
        have q3':¬((L[x].length:Nat):Int)<((L[k].length:Nat):Int):=by omega
        have q4':¬(k:Int)<(x:Int):=by omega
        (repeat (with_reducible first|refine W_seq fun K hK=>?_|refine J_skip ?_|refine J_region ?_ |refine J_drawn mixed (by kernel_rfl) ?_|refine J_c ?_|refine Jc_false ?_|(refine Kont.go (by assumption) ?_)|(simp (config:={ maxSteps:=3000000 }) (disch:=omega) only [go_sem,↓reduceIte,gx,gk,List.length_map,q1',q3',q4',true_and])))
        refine ⟨k+1,by omega,by omega,weak_of ?_ ?_⟩<;>(try simp (disch:=omega) only [go_sem,hnt])<;>(try first|done|omega|rfl|exact ⟨rfl,rfl⟩|trivial)
    ·have he:k=L.length:=by omega
     rw [he]
     have hkn:=kpD_next (L:=L) (x:=x)
     have hpn:∀j,j<x+1→bagN (L.getD j [])=true:=upto_next (p:=fun j=>bagN (L.getD j [])=true) hp hok
     cases hT:inT L x L.length with
     | true =>
      rw [if_pos hT,List.append_nil] at hkn
      (repeat (with_reducible first|refine W_seq fun K hK=>?_|refine J_skip ?_|refine J_exit ?_|refine J_region ?_ |refine J_c ?_|refine Jc_false ?_|(refine Kont.go (by assumption) ?_)|(simp (config:={ maxSteps:=3000000 }) (disch:=omega) only [go_sem,↓reduceIte])))
      refine ⟨x+1,⟨by omega,hpn⟩,by omega,weak_of ?_ ?_⟩<;>(try simp (disch:=omega) only [go_sem,hkn])<;>(try first|done|omega|rfl|exact ⟨rfl,rfl⟩|trivial)
     | false =>
      rw [if_neg (by rw [hT];decide),g3] at hkn
      obtain ⟨v,hv⟩:∃v:List FV,v=L[x].map I:=⟨_,rfl⟩
      have hvl:v.length=L[x].length:=by rw [hv,List.length_map]
      have hiv:ints L[x]=.fz 1 v:=by rw [hv]
      rw [hiv] at hkn gx
      obtain ⟨b,hb⟩:∃b,b=(kpD L x).length:=⟨_,rfl⟩
      have hlB:(kpD L (x+1)).length=b+1:=by rw [hkn,List.length_append,←hb];rfl
      have hne1:kpD L (x+1)≠[]:=fun e=>by rw [e] at hlB;simp at hlB
      have hqi:(kpD L (x+1)).map AV.f=(kpD L x).map AV.f++[AV.f (.fz 1 v)]:=by rw [hkn,List.map_append];rfl
      have hsl1:sl 0 1 (kpD L (x+1))=.own 0 1 0 (b+1):=by rw [sl_pos hne1,hlB]
      have hob1:ob 23 1 (kpD L (x+1))=some ⟨23,1,(kpD L (x+1)).map .f⟩:=ob_pos hne1
      have hv8:v.length≤8:=by rw [hvl,ris_len hb1];exact els_len
      have hvb:v.length*8≤140737488355328:=by omega
      have hvp:0<v.length:=by rw [hvl];omega
      by_cases hBn:kpD L x=[]
      ·have hb0:b=0:=by rw [hb,hBn];rfl
       rw [hBn] at hqi ⊢
       rw [hb0] at hsl1
       (repeat (first|(with_reducible first|refine W_seq fun K hK=>?_|refine J_exit ?_|((fail_if_success refine J_region (id:=6) ?_);refine J_region ?_) |refine aApp_old ?_|refine J_c ?_|refine Jc_true ?_|(refine Kont.go (by assumption) ?_)|(simp (config:={ maxSteps:=3000000 }) (disch:=omega) only [go_sem,↓reduceIte,Nat.reduceAdd,Nat.reduceLeDiff,gx,hvb,sl_nil,ob_nil,Nat.reduceMul,Nat.le_refl,true_and,and_self]))|refine And.intro (by omega) ?_))
       refine J_freezeA (r:=2) (sz:=1) (l:=v) rfl ?_
       have hq1:(kpD L (x+1)).map AV.f=[AV.f (.fz 1 v)]:=hqi
       (repeat (with_reducible first|refine J_region ?_ |(simp (config:={ maxSteps:=3000000 }) (disch:=omega) only [go_sem,Nat.reduceEqDiff,↓reduceIte,true_and,and_self])))
       refine ⟨x+1,⟨by omega,hpn⟩,by omega,weak_ren [4] ⟨by decide,by first|decide|(simp;done)⟩ ?_ ?_⟩<;>(try simp (disch:=omega) only [go_sem,hsl1,hob1,hq1])<;>(try first|done|omega|rfl|exact ⟨rfl,rfl⟩|trivial)
      ·have hsl:sl 0 1 (kpD L x)=.own 0 1 0 b:=by rw [sl_pos hBn,hb]
       have hob:ob 23 1 (kpD L x)=some ⟨23,1,(kpD L x).map .f⟩:=ob_pos hBn
       have hbt:List.take b (List.map AV.f (kpD L x))=List.map AV.f (kpD L x):=List.take_of_length_le (by simp [hb])
       (repeat (first|(with_reducible first|refine W_seq fun K hK=>?_|refine J_exit ?_|((fail_if_success refine J_region (id:=6) ?_);refine J_region ?_) |refine aApp_old ?_|refine J_c ?_|refine Jc_true ?_|(refine Kont.go (by assumption) ?_)|(simp (config:={ maxSteps:=3000000 }) (disch:=omega) only [go_sem,↓reduceIte,Nat.reduceAdd,Nat.reduceLeDiff,gx,hvb,hsl,hob,←hb,hbt,Nat.reduceMul,Nat.le_refl,true_and,and_self]))|refine And.intro (by omega) ?_))
       refine J_freezeA (r:=2) (sz:=1) (l:=v) rfl ?_
       have hqj:List.map AV.f (kpD L x)++[AV.f (.fz 1 v)]=List.map AV.f (kpD L (x+1)):=hqi.symm
       (repeat (with_reducible first|refine J_region ?_ |(simp (config:={ maxSteps:=3000000 }) (disch:=omega) only [go_sem,Nat.reduceEqDiff,↓reduceIte,hqj,true_and,and_self])))
       refine ⟨x+1,⟨by omega,hpn⟩,by omega,weak_ren [4] ⟨by decide,by first|decide|(simp;done)⟩ ?_ ?_⟩<;>(try simp (disch:=omega) only [go_sem,hsl1,hob1])<;>(try first|done|omega|rfl|exact ⟨rfl,rfl⟩|trivial)
 ·have he:x=L.length:=by omega
  have hb:bagsB L=true:=bagsB_iff.2 ⟨⟨hn1,hn8⟩,fun l hl=>by
   obtain ⟨j,hj,rfl⟩:=List.getElem_of_mem hl
   have:=hp j (by omega)
   rwa [lget_lt L [] hj] at this⟩
  have hKe:=kpD_end hb
  have hS8:∀v,(bagS L).getD v 0<256:=fun v=>bagS_lt hb v
  have hK8:(trK L).length≤8:=by unfold trK;rw [if_pos hb];have:=kpT_len (S:=bagS L) (x:=L.length);omega
  have hKm:∀v,(trK L).getD v 0<256:=by unfold trK;rw [if_pos hb];exact fun v=>kpT_lt hS8 v
  obtain ⟨Kp,hK⟩:∃Kp,Kp=trK L:=⟨_,rfl⟩
  have e2:vL=lnkT Kp (Kp.length-1):=by rw [hvL];unfold trL;rw [if_pos hb,←hK]
  have e3:vE=0:=by rw [hvE];unfold trE;rw [if_pos hb]
  rw [←hK] at hK8 hKm hKe hvK
  have hgl:(gvs Kp).length=Kp.length:=gvs_len
  rw [he,hKe]
  (repeat (with_reducible first|refine W_seq fun K hK=>?_|refine J_exit ?_|(refine Kont.go (by assumption) ?_)|(simp (config:={ maxSteps:=3000000 }) (disch:=omega) only [go_sem,↓reduceIte])))
  rcases Nat.eq_zero_or_pos Kp.length with hk0|hk0
  ·have hk:Kp=[]:=List.length_eq_zero_iff.1 hk0
   rw [hk]
   have hsn:sl 0 1 (gvs [])=.f nilV:=rfl
   have hon:ob 23 1 (gvs [])=none:=rfl
   rw [hsn,hon]
   (repeat (first|(with_reducible first|refine W_seq fun K hK=>?_|refine J_block ?_|refine J_region ?_ |(refine Kont.go (by assumption) ?_)|(simp (config:={ maxSteps:=3000000 }) (disch:=omega) only [go_sem,↓reduceIte]))|refine And.intro (by omega) ?_))
   refine W_loop [11,12,13,14,15,16,17,18,99,100,101,102,103,104,105,106,107,108,109,110,111,112,113,114,115,116,117,118,119,120,121,122,123,124,125,126,127,128,129,130,131,132,133,134,135,136,137,138,139,140,141,142,143,144,145,146,147,148,149,150,151,152,153,154,155,156,157,158,159,160,161,162] (fun j:Nat=>[(5,.f nilV),(11,.f nilV),(12,.own 1 1 0 1)]) (fun j:Nat=>[none,some ⟨3,1,[.f (I 0)]⟩]) (fun j:Nat=>True) (fun j:Nat=>0) (0) (trivial) (by refine weak_of ?_ ?_<;>simp (disch:=omega) only [go_sem,Nat.reduceAdd]<;>first|rfl|exact ⟨rfl,rfl⟩|exact Or.inl rfl|exact ⟨Or.inl rfl,Or.inl rfl⟩|trivial|assumption|omega|(symm;assumption)|((repeat' apply And.intro)<;>first|rfl|omega|trivial|exact .inl rfl|exact .inr ⟨rfl,rfl⟩|exact .inr rfl|(right;symm;assumption)|(symm;assumption)|assumption)) ?_
   rintro j _
   simp only [go_sem,Nat.reduceLT]
   (repeat (with_reducible first|refine W_seq fun K hK=>?_|refine J_region ?_ |refine J_c ?_|(refine Kont.go (by assumption) ?_)|(simp (config:={ maxSteps:=3000000 }) (disch:=omega) only [go_sem])))
   refine Jc_if (fun hjk=>?_) (fun hjk=>?_)<;>try simp only [decide_eq_true_eq,decide_eq_false_iff_not] at hjk
   ·exact absurd hjk (by omega)
   (repeat (with_reducible first|refine W_seq fun K hK=>?_|refine J_exit ?_|refine J_ret ?_|refine J_region ?_ |(refine Kont.go (by assumption) ?_)|(simp (config:={ maxSteps:=3000000 }) (disch:=omega) only [go_sem,↓reduceIte])))
   rw [e2,e3,hvK,hk]
   exact ⟨_,rfl,FrzL.cons (.nil _) (FrzL.cons (.nil _) (FrzL.cons (.f _) (FrzL.nil _)))⟩
  ·have hne:gvs Kp≠[]:=fun e=>by rw [e] at hgl;have h0:([]:List FV).length=0:=rfl;omega
   have hsp:sl 0 1 (gvs Kp)=.own 0 1 0 Kp.length:=by rw [sl_pos hne,hgl]
   rw [hsp]
   refine J_freezeB (r:=0) (sz:=1) (l:=gvs Kp) rfl hne ?_
   simp only [go_sem]
   refine J_reserve ?_
   (repeat (first|(with_reducible first|refine W_seq fun K hK=>?_|refine J_block ?_|refine J_region ?_ |(refine Kont.go (by assumption) ?_)|(simp (config:={ maxSteps:=3000000 }) (disch:=omega) only [go_sem,↓reduceIte,Nat.reduceAdd,hgl]))|refine And.intro (by omega) ?_))
   have hs0:stdL Kp 0=[0]:=rfl
   refine J_mask [98] (by refine weak_of ?_ ?_<;>simp (disch:=omega) only [go_sem,Nat.reduceAdd]<;>first|rfl|exact ⟨rfl,rfl⟩|exact Or.inl rfl|exact ⟨Or.inl rfl,Or.inl rfl⟩|trivial|assumption|omega|(symm;assumption)|((repeat' apply And.intro)<;>first|rfl|omega|trivial|exact .inr ⟨rfl,rfl⟩|exact .inr rfl|(right;symm;assumption)|(symm;assumption)|assumption)) ?_;simp only [go_sem]
   refine W_loop [11,12,13,14,15,16,17,18,99,100,101,102,103,104,105,106,107,108,109,110,111,112,113,114,115,116,117,118,119,120,121,122,123,124,125,126,127,128,129,130,131,132,133,134,135,136,137,138,139,140,141,142,143,144,145,146,147,148,149,150,151,152,153,154,155,156,157,158,159,160,161,162] (fun j:Nat=>[(11,sl 1 3 (lnkT Kp j)),(12,sl 2 1 (Ns (stdL Kp j)))]) (fun j:Nat=>[none,ob 47 3 (lnkT Kp j),ob 3 1 (Ns (stdL Kp j))]) (fun j:Nat=>j+1≤Kp.length) (fun j:Nat=>Kp.length-j) (0) (by omega) (by refine weak_of ?_ ?_<;>simp (disch:=omega) only [go_sem,Nat.reduceAdd]<;>first|rfl|exact ⟨rfl,rfl⟩|exact Or.inl rfl|exact ⟨Or.inl rfl,Or.inl rfl⟩|trivial|assumption|omega|(symm;assumption)|((repeat' apply And.intro)<;>first|rfl|omega|trivial|exact .inl rfl|exact .inr ⟨rfl,rfl⟩|exact .inr rfl|(right;symm;assumption)|(symm;assumption)|assumption)) ?_
   rintro j hj
   have hlj:=lnkT_len (K:=Kp) (j:=j)
   have hsl:=stdL_len (K:=Kp) (j:=j)
   have hsN:(Ns (stdL Kp j)).length=j+1:=by rw [Ns_len,hsl]
   simp only [go_sem]
   (repeat (with_reducible first|refine W_seq fun K hK=>?_|refine J_region ?_ |refine J_c ?_|(refine Kont.go (by assumption) ?_)|(simp (config:={ maxSteps:=3000000 }) (disch:=omega) only [go_sem,hgl,hsN])))
   refine Jc_if (fun hjk=>?_) (fun hjk=>?_)<;>try simp only [decide_eq_true_eq,decide_eq_false_iff_not] at hjk
   ·have hjl:j+1<Kp.length:=by omega
    have hT:=TrOk.all (K:=Kp) (by omega) hK8 j (by omega)
    have hB:=hT.best hK8 hjl
    have hdb:∀u,(trS Kp j).2.testBit u=true→u<Kp.length:=hT.below
    have hre:=rows_eq hK8 hdb
    have hbi:=stdL_bit (K:=Kp) j
    obtain ⟨done,hdn⟩:∃done,done=(trS Kp j).2:=⟨_,rfl⟩
    have hdn1:bstL Kp (trS Kp j).2=bstL Kp done:=by rw [hdn]
    rw [←hdn] at hB hdb hre hbi
    have hin:∀u,u<Kp.length→Good Tryd.prog 26 [I (u:Int),.fz 1 (Ns (stdL Kp j))] (Bo (done.testBit u)):=fun u hu=>by
     rw [hbi];exact rinN_w u (stdL Kp j) (by omega) (by omega)
    have hbn:bestF Kp none=.agg [I (-1),I 0,nilV]:=rfl
    have hb0:bestF Kp (rowsR Kp done 0)=.agg [I (-1),I 0,nilV]:=rfl
    (repeat (with_reducible first|refine W_seq fun K hK=>?_|refine J_block ?_|refine J_skip ?_|refine J_region ?_ |(refine Kont.go (by assumption) ?_)|(simp (config:={ maxSteps:=3000000 }) (disch:=omega) only [go_sem,Nat.reduceEqDiff,↓reduceIte,Nat.reduceAdd,Nat.reduceLeDiff,Int.reduceNeg])))
    refine W_loop [14,15,16,17,18,105,106,107,108,109,110,111,112,113,114,115,116,117,118,119,120,121,122,123,124,125,126,127,128,129,130,131,132,133,134,135,136,137,138,139,140,141,142,143,144,145,146,147,148,149,150,151,152,153] (fun a:Nat=>[(14,.f (I a))]) (fun a:Nat=>[none,ob 47 3 (lnkT Kp j),ob 3 1 (Ns (stdL Kp j)),some ⟨47,3,[.f (bestF Kp (rowsR Kp done a))]⟩]) (fun a:Nat=>a≤Kp.length) (fun a:Nat=>Kp.length-a) (0) (Nat.zero_le _) (by refine weak_of ?_ ?_<;>simp (disch:=omega) only [go_sem,Nat.reduceAdd]<;>first|rfl|exact ⟨rfl,rfl⟩|exact Or.inl rfl|exact ⟨Or.inl rfl,Or.inl rfl⟩|trivial|assumption|omega|(symm;assumption)|((repeat' apply And.intro)<;>first|rfl|omega|trivial|exact .inl rfl|exact .inr ⟨rfl,rfl⟩|exact .inr rfl|(right;symm;assumption)|(symm;assumption)|assumption)) ?_
    rintro a ha
    simp only [go_sem]
    (repeat (with_reducible first|refine W_seq fun K hK=>?_|refine J_region ?_ |refine J_c ?_|(refine Kont.go (by assumption) ?_)|(simp (config:={ maxSteps:=3000000 }) (disch:=omega) only [go_sem,Int.reduceNeg,hgl])))
    refine Jc_if (fun hak=>?_) (fun hak=>?_)<;>try simp only [decide_eq_true_eq,decide_eq_false_iff_not] at hak
    ·have hro:=rowsR_ok (done:=done) hK8 a ha
     have hre1:=roL_end (K:=Kp) (done:=done) (x:=a)
     obtain ⟨o,ho⟩:∃o,o=rowsR Kp done a:=⟨_,rfl⟩
     rw [←ho] at hro hre1 ⊢
     have hz:=roL_zero (K:=Kp) (done:=done) (a:=a) (o:=o)
     (repeat (with_reducible first|refine W_seq fun K hK=>?_|refine J_block ?_|refine J_skip ?_|refine J_region ?_ |(refine Kont.go (by assumption) ?_)|(simp (config:={ maxSteps:=3000000 }) (disch:=omega) only [go_sem,Int.reduceNeg])))
     rw [←hz]
     refine W_loop [15,16,17,18,111,112,113,114,115,116,117,118,119,120,121,122,123,124,125,126,127,128,129,130,131,132,133,134,135,136,137,138,139,140,141,142,143,144,145,146,147,148,149,150,151,152,153] (fun b:Nat=>[(15,.f (I b))]) (fun b:Nat=>[none,ob 47 3 (lnkT Kp j),ob 3 1 (Ns (stdL Kp j)),some ⟨47,3,[.f (bestF Kp (roL Kp done a o b))]⟩]) (fun b:Nat=>b≤Kp.length) (fun b:Nat=>Kp.length-b) (0) (Nat.zero_le _) (by refine weak_of ?_ ?_<;>simp (disch:=omega) only [go_sem,Nat.reduceAdd]<;>first|rfl|exact ⟨rfl,rfl⟩|exact Or.inl rfl|exact ⟨Or.inl rfl,Or.inl rfl⟩|trivial|assumption|omega|(symm;assumption)|((repeat' apply And.intro)<;>first|rfl|omega|trivial|exact .inl rfl|exact .inr ⟨rfl,rfl⟩|exact .inr rfl|(right;symm;assumption)|(symm;assumption)|assumption)) ?_
     rintro b hb
     simp only [go_sem]
     (repeat (with_reducible first|refine W_seq fun K hK=>?_|refine J_region ?_ |refine J_c ?_|(refine Kont.go (by assumption) ?_)|(simp (config:={ maxSteps:=3000000 }) (disch:=omega) only [go_sem,Int.reduceNeg,hgl])))
     refine Jc_if (fun hbk=>?_) (fun hbk=>?_)<;>try simp only [decide_eq_true_eq,decide_eq_false_iff_not] at hbk
     ·have hia:=hin a hak
      have hib:=hin b hbk
      have ga:=gvs_get (P:=Kp) hak
      have gb:=gvs_get (P:=Kp) hbk
      have hcm:=rcommon_w (els (Kp.getD a 0)) (els (Kp.getD b 0)) (Nat.le_trans els_len (by decide)) (Nat.le_trans els_len (by decide)) (fun x (hx:x∈els (Kp.getD a 0))=>by have:=(els_mem.1 hx).1;omega)
      rw [comT_els] at hcm
      have hnx:=roL_next (K:=Kp) (done:=done) (a:=a) (o:=o) (b:=b)
      have hok:=roL_ok (a:=a) b hb hro (by omega)
      obtain ⟨oc,hoc⟩:∃oc,oc=roL Kp done a o b:=⟨_,rfl⟩
      rw [←hoc] at hnx hok ⊢
      have hcl:(Ns (els (Kp.getD a 0&&&Kp.getD b 0))).length=cnt Kp a b:=Ns_len
      (repeat (with_reducible first|refine W_seq fun K hK=>?_|refine J_block ?_|refine J_skip ?_|refine J_region ?_ |(refine Kont.go (by assumption) ?_)|(simp (config:={ maxSteps:=3000000 }) (disch:=omega) only [go_sem,Int.reduceNeg])))
      (first|refine call_fl (hia) (by first|exact .v _|exact .agg _ (by intro j c h;simp at h;subst h;exact .v _)) (by repeat (first|exact FrzL.nil _|refine FrzL.cons (by first|exact .f _|exact .nil _|exact .sl rfl|exact .sl (by simp;done)) ?_)) ?_|refine callQ_fl (hia) (by first|exact .v _|exact .agg _ (by intro j c h;simp at h;subst h;exact .v _)) (by repeat (first|exact FrzL.nil _|refine FrzL.cons (by first|exact .f _|exact .nil _|exact .sl rfl|exact .sl (by simp;done)) ?_)) ?_|refine callH_fl (hia) (by first|exact .v _|exact .agg _ (by intro j c h;simp at h;subst h;exact .v _)) (by repeat (first|exact FrzL.nil _|refine FrzL.cons (by first|exact .f _|exact .nil _|exact .sl rfl|exact .sl (by simp;done)) ?_)) ?_)
      (repeat (with_reducible first|refine W_seq fun K hK=>?_|refine J_region ?_ |(refine Kont.go (by assumption) ?_)|(simp (config:={ maxSteps:=3000000 }) (disch:=omega) only [go_sem,Int.reduceNeg])))
      (first|refine call_fl (hib) (by first|exact .v _|exact .agg _ (by intro j c h;simp at h;subst h;exact .v _)) (by repeat (first|exact FrzL.nil _|refine FrzL.cons (by first|exact .f _|exact .nil _|exact .sl rfl|exact .sl (by simp;done)) ?_)) ?_|refine callQ_fl (hib) (by first|exact .v _|exact .agg _ (by intro j c h;simp at h;subst h;exact .v _)) (by repeat (first|exact FrzL.nil _|refine FrzL.cons (by first|exact .f _|exact .nil _|exact .sl rfl|exact .sl (by simp;done)) ?_)) ?_|refine callH_fl (hib) (by first|exact .v _|exact .agg _ (by intro j c h;simp at h;subst h;exact .v _)) (by repeat (first|exact FrzL.nil _|refine FrzL.cons (by first|exact .f _|exact .nil _|exact .sl rfl|exact .sl (by simp;done)) ?_)) ?_)
      (repeat (with_reducible first|refine W_seq fun K hK=>?_|refine J_drawn mixed (by kernel_rfl) ?_|(refine Kont.go (by assumption) ?_)|(simp (config:={ maxSteps:=3000000 }) (disch:=omega) only [go_sem,↓reduceIte,Int.reduceNeg,ga,gb])))
      (first|refine call_f (hcm) rfl ?_|refine callQ_f (hcm) rfl ?_|refine callHK_f (hcm) rfl ?_|refine callH_f (hcm) rfl ?_)
      cases hta:done.testBit a with
      | false =>
       rw [if_neg (fun h=>by rw [hta] at h;cases h.1)] at hnx
       (repeat (with_reducible first|refine W_seq fun K hK=>?_|refine J_skip ?_|refine J_region ?_ |refine J_c ?_|refine Jc_false ?_|(refine Kont.go (by assumption) ?_)|(simp (config:={ maxSteps:=3000000 }) (disch:=omega) only [go_sem,Int.reduceNeg])))
       refine ⟨b+1,by omega,by omega,weak_of ?_ ?_⟩<;>(try simp (disch:=omega) only [go_sem,Nat.reduceAdd,hnx])<;>(try first|done|omega|rfl|exact ⟨rfl,rfl⟩|trivial)
      | true =>
       cases htb:done.testBit b with
       | true =>
        rw [if_neg (fun h=>by rw [htb] at h;cases h.2.1)] at hnx
        (repeat (with_reducible first|refine W_seq fun K hK=>?_|refine J_skip ?_|refine J_region ?_ |refine J_c ?_|refine Jc_false ?_|(refine Kont.go (by assumption) ?_)|(simp (config:={ maxSteps:=3000000 }) (disch:=omega) only [go_sem,Int.reduceNeg])))
        refine ⟨b+1,by omega,by omega,weak_of ?_ ?_⟩<;>(try simp (disch:=omega) only [go_sem,Nat.reduceAdd,hnx])<;>(try first|done|omega|rfl|exact ⟨rfl,rfl⟩|trivial)
       | false =>
        have hlf:bestF Kp (some (a,b))=.agg [I (a:Int),I (b:Int),.fz 1 (Ns (els (Kp.getD a 0&&&Kp.getD b 0)))]:=rfl
        cases oc with
        | none =>
         rw [if_pos ⟨hta,htb,by show (-1:Int)<_;omega⟩] at hnx
         rw [hbn]
         (repeat (with_reducible first|refine W_seq fun K hK=>?_|refine J_region ?_ |refine J_c ?_|refine Jc_true ?_|(refine Kont.go (by assumption) ?_)|(simp (config:={ maxSteps:=3000000 }) (disch:=omega) only [go_sem,Nat.reduceEqDiff,↓reduceIte,Nat.reduceAdd,Nat.reduceLeDiff,Int.reduceLT,Int.reduceNeg,Nat.le_refl,true_and,and_self])))
         refine ⟨b+1,by omega,by omega,weak_of ?_ ?_⟩<;>(try simp (disch:=omega) only [go_sem,Nat.reduceAdd,hnx,hlf])<;>(try first|done|omega|rfl|exact ⟨rfl,rfl⟩|trivial)
        | some p =>
         have hpf:bestF Kp (some p)=.agg [I (p.1:Int),I (p.2:Int),.fz 1 (Ns (els (Kp.getD p.1 0&&&Kp.getD p.2 0)))]:=rfl
         have hpl:(Ns (els (Kp.getD p.1 0&&&Kp.getD p.2 0))).length=cnt Kp p.1 p.2:=Ns_len
         have hp0:¬(p.1:Int)<0:=by omega
         have hmo:mostI Kp (some p)=(cnt Kp p.1 p.2:Int):=rfl
         rw [hmo] at hnx
         by_cases hc:(cnt Kp p.1 p.2:Int)<(cnt Kp a b:Int)
         ·rw [if_pos ⟨hta,htb,hc⟩] at hnx
          rw [hpf]
          (repeat (with_reducible first|refine W_seq fun K hK=>?_|refine J_region ?_ |refine J_c ?_|refine Jc_true ?_|(refine Kont.go (by assumption) ?_)|(simp (config:={ maxSteps:=3000000 }) (disch:=omega) only [go_sem,Nat.reduceEqDiff,↓reduceIte,Nat.reduceAdd,Nat.reduceLeDiff,Int.reduceNeg,hp0,hpl,hcl,hc,Nat.le_refl,true_and,and_self])))
          refine ⟨b+1,by omega,by omega,weak_of ?_ ?_⟩<;>(try simp (disch:=omega) only [go_sem,Nat.reduceAdd,hnx,hlf])<;>(try first|done|omega|rfl|exact ⟨rfl,rfl⟩|trivial)
         ·rw [if_neg (fun h=>hc h.2.2)] at hnx
          rw [hpf]
          (repeat (with_reducible first|refine W_seq fun K hK=>?_|refine J_skip ?_|refine J_region ?_ |refine J_c ?_|refine Jc_false ?_|(refine Kont.go (by assumption) ?_)|(simp (config:={ maxSteps:=3000000 }) (disch:=omega) only [go_sem,↓reduceIte,Int.reduceNeg,hp0,hpl,hcl,hc,true_and])))
          refine ⟨b+1,by omega,by omega,weak_of ?_ ?_⟩<;>(try simp (disch:=omega) only [go_sem,Nat.reduceAdd,hnx,hpf])<;>(try first|done|omega|rfl|exact ⟨rfl,rfl⟩|trivial)
     ·rw [show b=Kp.length by omega,←hre1]
      (repeat (with_reducible first|refine J_exit ?_|refine J_region ?_ |(refine Kont.go (by assumption) ?_)|(simp (config:={ maxSteps:=3000000 }) (disch:=omega) only [go_sem,↓reduceIte,Int.reduceNeg])))
      refine ⟨a+1,by omega,by omega,weak_of ?_ ?_⟩<;>(try simp (disch:=omega) only [go_sem,Nat.reduceAdd])<;>(try first|done|omega|rfl|exact ⟨rfl,rfl⟩|trivial)
    ·rw [show a=Kp.length by omega,hre,hB.1]
     have hap:lnkT Kp j++[lnkF Kp (bstL Kp done)]=lnkT Kp (j+1):=by
      unfold lnkT
      rw [show (trS Kp (j+1)).1=(trS Kp j).1++[bstL Kp done] by rw [hdn];rfl,List.map_append];rfl
     have hst:=stdL_next (K:=Kp) (j:=j)
     rw [hdn1] at hst
     obtain ⟨p,hp⟩:∃p,p=bstL Kp done:=⟨_,rfl⟩
     rw [←hp] at hap hst ⊢
     have hpf:bestF Kp (some p)=.agg [I (p.1:Int),I (p.2:Int),.fz 1 (Ns (els (Kp.getD p.1 0&&&Kp.getD p.2 0)))]:=rfl
     have hap':lnkT Kp j++[.agg [I (p.1:Int),I (p.2:Int),.fz 1 (Ns (els (Kp.getD p.1 0&&&Kp.getD p.2 0)))]]=lnkT Kp (j+1):=hap
     have hal:((lnkT Kp j).length+1)*40≤140737488355328:=by rw [hlj];omega
     have hal2:((Ns (stdL Kp j)).length+1)*8≤140737488355328:=by rw [hsN];omega
     have hst':Ns (stdL Kp j)++[I (p.2:Int)]=Ns (stdL Kp (j+1)):=by rw [hst];exact Ns_snoc
     rw [hpf]
     (repeat (first|(with_reducible first|refine W_seq fun K hK=>?_|refine J_exit ?_|refine J_region ?_ |refine aApp_sl ?_|(refine Kont.go (by assumption) ?_)|(simp (config:={ maxSteps:=3000000 }) (disch:=omega) only [go_sem,Nat.reduceEqDiff,↓reduceIte,Nat.reduceAdd,Nat.reduceLeDiff,Int.reduceNeg,hap',hal2,hst',hlj]))|refine And.intro (by omega) ?_))
     refine ⟨j+1,by omega,by omega,weak_of ?_ ?_⟩<;>(try simp (disch:=omega) only [go_sem,Nat.reduceAdd])<;>(try first|done|omega|rfl|exact ⟨rfl,rfl⟩|trivial)
   ·have hj1:j=Kp.length-1:=by omega
    (repeat (with_reducible first|refine W_seq fun K hK=>?_|refine J_exit ?_|refine J_ret ?_|refine J_region ?_ |(refine Kont.go (by assumption) ?_)|(simp (config:={ maxSteps:=3000000 }) (disch:=omega) only [go_sem,↓reduceIte])))
    rw [e2,e3,hvK,hj1]
    exact ⟨_,rfl,FrzL.cons (.f _) (FrzL.cons (.sl rfl) (FrzL.cons (.f _) (FrzL.nil _)))⟩
end Go.Proofs.YtgjnbcfencallaaDoor
