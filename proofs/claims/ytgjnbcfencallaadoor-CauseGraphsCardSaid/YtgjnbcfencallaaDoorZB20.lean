/- Rules of doing: walked, the program's way. Conditions: what slices may hold. -/
import Derived.Test.YtgjnbcfencallaaDoorZB19
import Derived.Test.YtgjnbcfencallaaDoorZB06
import Derived.ChangeSame
import Derived.ProofKit
import Derived.OpenShut
import Derived.Deep.DeepHandedRow
import Derived.Lib.LaidTab
import GoSem.PinnedTables
set_option linter.unusedVariables false
set_option linter.unusedSimpArgs false
namespace Go.Proofs.YtgjnbcfencallaaDoor
open Go Go.RowKit
theorem J_cutK {X:Cx} {P:Program} {K:AS→Prop} {Q Q':Exit→AS→Prop} {c r:Code} {t:List AV} {H:AH} (hK:Kont K (fun s=>J X P r Q' s)) (ws:List Nat) (up:List (Nat × AV))
  (h1:J X P c (athen (fun s=>Weak s ⟨sets up (msk ws t),[]⟩) Q) ⟨t,H⟩) (h2:J X P r Q' ⟨sets up (msk ws t),[]⟩):J X P c (athen K Q) ⟨t,H⟩:=J_mono h1 fun e s hs=>by
 cases e with
 | normal=>exact hK s (J_weak hs h2)
 | _=>exact hs
theorem J_cutZ {X:Cx} {P:Program} {K:AS→Prop} {Q Q':Exit→AS→Prop} {c r:Code} {γ:Type} {t:List AV} {H:AH} (hK:Kont K (fun s=>J X P r Q' s)) (ws:List Nat) (up:γ→List (Nat × AV)) (hp:γ→AH) (I:γ→Prop)
  (h1:J X P c (athen (fun s=>∃z,I z∧Weak s ⟨sets (up z) (msk ws t),hp z⟩) Q) ⟨t,H⟩) (h2:∀z,I z→J X P r Q' ⟨sets (up z) (msk ws t),hp z⟩):J X P c (athen K Q) ⟨t,H⟩:=J_mono h1 fun e s hs=>by
 cases e with
 | normal=>obtain ⟨z,hz,hw⟩:=hs;exact hK s (J_weak hw (h2 z hz))
 | _=>exact hs
theorem frz_in {H:List (Option AO)} {r:Nat} {e:TypeId} {A:List Int} {g:FuncId} (ho:H[r]?=some (some ⟨e,1,[.f (ints A)]⟩)):Frz H (.fn g [] [.ptr r 1 0 0]) (.fn g [] [.fp (ints A) 0]) :=
 Frz.fn _ _ _ _ _ rfl (fun j c d h=>by simp at h) rfl fun j cc d h h'=>by
  cases j with
  | zero=>cases h;cases h';exact Frz.ptr0 ho rfl
  | succ j=>simp at h
set_option maxRecDepth 100000 in
set_option maxHeartbeats 8000000 in
theorem rule_w (L:List (List Int)) (hL:OkIss L) (k:Int) (hk:-9223372036854775808≤k∧k≤9223372036854775807) (x y z w:List Int) (hx:OkNs x) (hy:OkNs y) (hz:OkNs z) (hw:OkNs w) :
  Good Tryd.prog 28 [.fz 1 (L.map ints),I k,ints x,ints y,ints z,ints w] (Pr (ruB L k x y z w) (ruC L k x y z w)):=by
 have hs:Good Tryd.prog 56 [.fz 1 (L.map ints),.fz 1 [ints x,ints y,ints z,ints w]] (I (ruE L x y z w)):=sets_w L [x,y,z,w] hL (by simp) (sets4 hx hy hz hw)
 by_cases h0:ruE L x y z w=0
 case neg =>
  rw [show ruB L k x y z w=false by unfold ruB;rw [if_pos h0],show ruC L k x y z w=ruE L x y z w by unfold ruC;rw [if_pos h0]]
  refine good_of Tryd.func28 rfl (by kernel_rfl) fun X hO hrd=>?_;rw [Tryd.ntmps28,Tryd.results28];simp only [ast0,List.map_cons,List.map_nil,List.length_cons,List.length_nil,Nat.reduceAdd,Nat.reduceSub,List.replicate_succ,List.replicate_zero,List.cons_append,List.nil_append]
  (repeat (first|(with_reducible first|refine W_seq fun K hK=>?_|refine J_region ?_ |(refine Kont.go (by assumption) ?_)|(simp (config:={ maxSteps:=3000000 }) (disch:=omega) only [go_sem,↓reduceIte,Nat.reduceAdd]))|refine And.intro (by omega) ?_))
  refine call_fl hs (.v _) (FrzL.cons (.f _) (FrzL.cons (Frz.own0 (ds:=[ints x,ints y,ints z,ints w]) rfl rfl) (FrzL.nil _))) ?_
  (repeat (with_reducible first|refine W_seq fun K hK=>?_|refine J_ret ?_|refine J_region ?_ |refine J_c ?_|refine Jc_true ?_|(refine Kont.go (by assumption) ?_)|(simp (config:={ maxSteps:=3000000 }) (disch:=omega) only [go_sem,h0])))
  exact ⟨_,rfl,FrzL.fs [_,_]⟩
 obtain ⟨ho,rx,ry,rz,rw',hap,hsrt⟩:=ru_ok h0
 have hn8:=(GP.of (ord_ok ho).1).n8
 have hr8:=cut_rows8 ho
 have hzl:=ris_len8 hn8 rz
 have hxl:=ris_len8 hn8 rx
 have hwl:=ris_len8 hn8 rw'
 have hzr:=(ris_pw.1 rz).2
 have hB:ruB L k x y z w=if k=1 then aprB (cutI L x []) y z (knI L.length x w) else if k=2 then aprB (cutI L x z) y z (knI L.length x w) else if k=3 then aprB (cutI L (x++ruF L x z w) []) y z (knI L.length x w) else false:=by unfold ruB;rw [if_neg (by omega)]
 have hC:ruC L k x y z w=if k=1 then 0 else if k=2 then 0 else if k=3 then 0 else 15:=by unfold ruC;rw [if_neg (by omega)]
 obtain ⟨b,hb⟩:∃b,b=ruB L k x y z w:=⟨_,rfl⟩
 obtain ⟨c,hc⟩:∃c,c=ruC L k x y z w:=⟨_,rfl⟩
 rw [←hb] at hB
 rw [←hc] at hC
 rw [←hb,←hc]
 have hkn:=kn_ok (x:=x) (w:=w) hn8
 have hq:∀A B,Good Tryd.prog 15 [.fz 1 ((cutI L A B).map ints),ints y,ints z,ints (knI L.length x w)] (.tup [Bo (aprB (cutI L A B) y z (knI L.length x w)),I 0]):=fun A B=>by
  have:=Apart_w (cutI L A B) (cutI_ok hL) y z (knI L.length x w) hy hz hkn
  rwa [apr_zero ho hap] at this
 have ho1:OkIss (cutI L x []):=cutI_ok hL
 have hl1:(cutI L x []).length≤8:=by rw [cutI_len];exact hn8
 have hr1:=cut_rows8 (cut_ord (A:=x) (B:=[]) ho)
 have hval:Good Tryd.prog 58 [ints (x++w)] (.fn 75 [] [.fp (ints (x++w)) 0]):=values_w _
 have hsor:Good Tryd.prog 57 [.fn 75 [] [.fp (ints (x++w)) 0]] (ints (srtI (x++w))):=Good.ofO (sorted_w (x++w) (by rw [List.length_append];omega))
 rw [hsrt] at hsor
 obtain ⟨Kn,hK⟩:∃Kn,Kn=knI L.length x w:=⟨_,rfl⟩
 rw [←hK] at hsor hB
 simp only [←hK] at hq
 refine good_of Tryd.func28 rfl (by kernel_rfl) fun X hO hrd=>?_;rw [Tryd.ntmps28,Tryd.results28];simp only [ast0,List.map_cons,List.map_nil,List.length_cons,List.length_nil,Nat.reduceAdd,Nat.reduceSub,List.replicate_succ,List.replicate_zero,List.cons_append,List.nil_append]
 (repeat (first|(with_reducible first|refine W_seq fun K hK=>?_|refine J_region ?_ |(refine Kont.go (by assumption) ?_)|(simp (config:={ maxSteps:=3000000 }) (disch:=omega) only [go_sem,↓reduceIte,Nat.reduceAdd]))|refine And.intro (by omega) ?_))
 refine call_fl hs (.v _) (FrzL.cons (.f _) (FrzL.cons (Frz.own0 (ds:=[ints x,ints y,ints z,ints w]) rfl rfl) (FrzL.nil _))) ?_
 rw [h0]
 (repeat (with_reducible first|refine W_seq fun K hK=>?_|refine J_skip ?_|((fail_if_success refine J_region (id:=4) ?_);refine J_region ?_) |refine J_c ?_|refine Jc_false ?_|(refine Kont.go (by assumption) ?_)|(simp (config:={ maxSteps:=3000000 }) (disch:=omega) only [go_sem])))
 refine J_drop [24] (by refine weak_of ?_ ?_<;>simp (disch:=omega) only [go_sem]<;>first|rfl|exact ⟨rfl,rfl⟩|exact Or.inl rfl|exact ⟨Or.inl rfl,Or.inl rfl⟩|trivial|assumption|omega|(symm;assumption)|((repeat' apply And.intro)<;>first|rfl|omega|trivial|exact .inr ⟨rfl,rfl⟩|exact .inr rfl|(right;symm;assumption)|(symm;assumption)|assumption)) ?_;simp only [go_sem]
 refine J_cutK (by assumption) [15,29,30,31,32,33,34] [(15,.f (ints Kn))] ?_ ?_
 ·by_cases hx0:x=[]
  ·subst hx0
   have e1:ints ([]:List Int)=.fz 1 []:=rfl
   simp only [List.nil_append] at hval hsor
   have hw8:w.length*8≤140737488355328:=by omega
   (repeat (with_reducible first|refine J_region ?_ |(simp (config:={ maxSteps:=3000000 }) (disch:=omega) only [go_sem])))
   refine call_uo (clone_e _) ?_
   rintro v H' (⟨rfl,rfl⟩|⟨rfl,rfl⟩)
   ·by_cases hw0:w=[]
    ·subst hw0
     (repeat (with_reducible first|(simp (config:={ maxSteps:=3000000 }) (disch:=omega) only [go_sem])))
     refine aApp_nothing ⟨⟨rfl,rfl⟩,rfl,?_⟩
     (repeat (with_reducible first|(simp (config:={ maxSteps:=3000000 }) (disch:=omega) only [go_sem])))
     refine call_ff (vs:=[_]) hval (FrzL.cons (.nil _) (FrzL.nil _)) ?_
     (repeat (with_reducible first|(simp (config:={ maxSteps:=3000000 }) (disch:=omega) only [go_sem])))
     (first|refine call_f (hsor) rfl ?_|refine callQ_f (hsor) rfl ?_|refine callHK_f (hsor) rfl ?_|refine callH_f (hsor) rfl ?_)
     (repeat (with_reducible first|(simp (config:={ maxSteps:=3000000 }) (disch:=omega) only [go_sem])))
     refine weak_of ?_ ?_<;>(try simp (disch:=omega) only [go_sem])<;>(try first|done|omega|rfl|exact ⟨rfl,rfl⟩|trivial)
    ·have hwp:0<w.length:=List.length_pos_iff.2 hw0
     (repeat (with_reducible first|refine aApp_old ?_|(simp (config:={ maxSteps:=3000000 }) (disch:=omega) only [go_sem,hwp,hw8])))
     refine call_u (callU_fz (q:=0) hval rfl (FrzL.cons (Frz.own0 rfl (by rw [List.length_map])) (FrzL.nil _))) ?_
     (repeat (with_reducible first|(simp (config:={ maxSteps:=3000000 }) (disch:=omega) only [go_sem])))
     (first|refine call_f (hsor) rfl ?_|refine callQ_f (hsor) rfl ?_|refine callHK_f (hsor) rfl ?_|refine callH_f (hsor) rfl ?_)
     (repeat (with_reducible first|(simp (config:={ maxSteps:=3000000 }) (disch:=omega) only [go_sem])))
     refine weak_of ?_ ?_<;>(try simp (disch:=omega) only [go_sem])<;>(try first|done|omega|rfl|exact ⟨rfl,rfl⟩|trivial)
   ·(repeat (with_reducible first|refine aApp_old ?_|(simp (config:={ maxSteps:=3000000 }) (disch:=omega) only [go_sem,Nat.reduceLeDiff,hw8,Nat.zero_add,List.nil_append])))
    refine call_u (callU_fz (q:=1) hval rfl (FrzL.cons (Frz.own0 rfl (by rw [List.length_map])) (FrzL.nil _))) ?_
    (repeat (with_reducible first|(simp (config:={ maxSteps:=3000000 }) (disch:=omega) only [go_sem])))
    (first|refine call_f (hsor) rfl ?_|refine callQ_f (hsor) rfl ?_|refine callHK_f (hsor) rfl ?_|refine callH_f (hsor) rfl ?_)
    (repeat (with_reducible first|(simp (config:={ maxSteps:=3000000 }) (disch:=omega) only [go_sem])))
    refine weak_of ?_ ?_<;>(try simp (disch:=omega) only [go_sem])<;>(try first|done|omega|rfl|exact ⟨rfl,rfl⟩|trivial)
  ·obtain ⟨x0,x',rfl⟩:∃x0 x',x=x0::x':=by
    cases x with
    | nil=>exact absurd rfl hx0
    | cons x0 x'=>exact ⟨_,_,rfl⟩
   have hcl:=cloneZ_w x0 x' (by simp only [List.length_cons] at hxl;omega)
   obtain ⟨xs,hxs⟩:∃xs,xs=x0::x':=⟨_,rfl⟩
   rw [←hxs] at hcl hval hsor hxl ⊢
   have hw8:(xs.length+w.length)*8≤140737488355328:=by omega
   have htk:((xs.map I).map AV.f).take xs.length=(xs.map I).map .f:=List.take_of_length_le (by simp)
   have happ:(xs.map I).map AV.f++(w.map I).map AV.f=((xs++w).map I).map .f:=by simp
   (repeat (with_reducible first|refine J_region ?_ |(simp (config:={ maxSteps:=3000000 }) (disch:=omega) only [go_sem])))
   refine call_o hcl (FrzL.fs [_]) ?_
   (repeat (first|(with_reducible first|refine aApp_old ?_|(simp (config:={ maxSteps:=3000000 }) (disch:=omega) only [go_sem,hw8,htk,happ,List.length_map]))|refine And.intro (by omega) ?_))
   refine call_u (callU_fz (q:=1) hval rfl (FrzL.cons (Frz.own0 rfl (by rw [List.length_map,List.length_append])) (FrzL.nil _))) ?_
   (repeat (with_reducible first|(simp (config:={ maxSteps:=3000000 }) (disch:=omega) only [go_sem])))
   (first|refine call_f (hsor) rfl ?_|refine callQ_f (hsor) rfl ?_|refine callHK_f (hsor) rfl ?_|refine callH_f (hsor) rfl ?_)
   (repeat (with_reducible first|(simp (config:={ maxSteps:=3000000 }) (disch:=omega) only [go_sem])))
   refine weak_of ?_ ?_<;>(try simp (disch:=omega) only [go_sem])<;>(try first|done|omega|rfl|exact ⟨rfl,rfl⟩|trivial)
 ·have hc1:=cut_w L x [] hL hn8 hx ok_nil hr8
  simp only [go_sem]
  (repeat (with_reducible first|refine W_seq fun K hK=>?_|refine J_block ?_|refine J_region ?_ |refine J_c ?_|(refine Kont.go (by assumption) ?_)|(simp (config:={ maxSteps:=3000000 }) (disch:=omega) only [go_sem])))
  refine Jc_if (fun k1=>?_) (fun k1=>?_)<;>try simp only [decide_eq_true_eq,decide_eq_false_iff_not] at k1
  ·have hp:=hq x []
   rw [if_pos k1] at hB hC
   (repeat (with_reducible first|refine W_seq fun K hK=>?_|refine J_region ?_ |(simp (config:={ maxSteps:=3000000 }) (disch:=omega) only [go_sem])))
   refine call_ff (vs:=[_,_,_]) hc1 (FrzL.cons (.f _) (FrzL.cons (.f _) (FrzL.cons (.nil _) (FrzL.nil _)))) ?_
   (repeat (with_reducible first|(simp (config:={ maxSteps:=3000000 }) (disch:=omega) only [go_sem])))
   (first|refine call_f (hp) rfl ?_|refine callQ_f (hp) rfl ?_|refine callHK_f (hp) rfl ?_|refine callH_f (hp) rfl ?_)
   (repeat (with_reducible first|refine J_ret ?_|(refine Kont.go (by assumption) ?_)|(simp (config:={ maxSteps:=3000000 }) (disch:=omega) only [go_sem])))
   rw [hB,hC]
   exact ⟨_,rfl,FrzL.fs [_,_]⟩
  ·rw [if_neg k1] at hB hC
   (repeat (with_reducible first|refine W_seq fun K hK=>?_|refine J_region ?_ |refine J_c ?_|(refine Kont.go (by assumption) ?_)|(simp (config:={ maxSteps:=3000000 }) (disch:=omega) only [go_sem])))
   refine Jc_if (fun k2=>?_) (fun k2=>?_)<;>try simp only [decide_eq_true_eq,decide_eq_false_iff_not] at k2
   ·have hp:=hq x z
    rw [if_pos k2] at hB hC
    have hc2:=cut_w L x z hL hn8 hx hz hr8
    (repeat (with_reducible first|refine W_seq fun K hK=>?_|refine J_region ?_ |(simp (config:={ maxSteps:=3000000 }) (disch:=omega) only [go_sem])))
    (first|refine call_f (hc2) rfl ?_|refine callQ_f (hc2) rfl ?_|refine callHK_f (hc2) rfl ?_|refine callH_f (hc2) rfl ?_)
    (repeat (with_reducible first|(simp (config:={ maxSteps:=3000000 }) (disch:=omega) only [go_sem])))
    (first|refine call_f (hp) rfl ?_|refine callQ_f (hp) rfl ?_|refine callHK_f (hp) rfl ?_|refine callH_f (hp) rfl ?_)
    (repeat (with_reducible first|refine J_ret ?_|(refine Kont.go (by assumption) ?_)|(simp (config:={ maxSteps:=3000000 }) (disch:=omega) only [go_sem])))
    rw [hB,hC]
    exact ⟨_,rfl,FrzL.fs [_,_]⟩
   ·rw [if_neg k2] at hB hC
    (repeat (with_reducible first|refine W_seq fun K hK=>?_|refine J_region ?_ |refine J_c ?_|(refine Kont.go (by assumption) ?_)|(simp (config:={ maxSteps:=3000000 }) (disch:=omega) only [go_sem])))
    refine Jc_if (fun k3=>?_) (fun k3=>?_)<;>try simp only [decide_eq_true_eq,decide_eq_false_iff_not] at k3
    ·have hp:=hq (x++ruF L x z w) []
     rw [if_pos k3] at hB hC
     have hFe:ruF L x z w=kepT (ruP L x w) z:=rfl
     have hFl:(ruF L x z w).length≤z.length:=kepT_len
     have hc2:=cut_w L (x++ruF L x z w) [] hL hn8 (okApp (n:=0) hx (ruF_ok hz) (by omega)) ok_nil hr8
     have hab:=Above_w (cutI L x []) ho1 w hw
     rw [Ns_ints] at hab
     have hAe:(abvL (cutI L x []) w).map Int.ofNat=ruA L x w:=rfl
     rw [hAe] at hab
     have hAl:(ruA L x w).length≤140737488355328:=by
      rw [←hAe,List.length_map];unfold abvL;split
      ·have:=els_len (s:=abv (setsOf (cutI L x [])) (cutI L x []).length (setI w));omega
      ·simp
     have hin:∀v∈z,Good Tryd.prog 62 ([]++[I v]++[.fp (ints (ruA L x w)) 0]) (Bo (ruP L x w v)):=fun v _=>inA_w (ruA L x w) hAl v
     obtain ⟨F,hF⟩:∃F,F=ruF L x z w:=⟨_,rfl⟩
     rw [←hF] at hp hB hc2 hFe hFl
     (repeat (with_reducible first|refine W_seq fun K hK=>?_|refine J_region ?_ |(simp (config:={ maxSteps:=3000000 }) (disch:=omega) only [go_sem])))
     refine call_ff (vs:=[_,_,_]) hc1 (FrzL.cons (.f _) (FrzL.cons (.f _) (FrzL.cons (.nil _) (FrzL.nil _)))) ?_
     (repeat (with_reducible first|(simp (config:={ maxSteps:=3000000 }) (disch:=omega) only [go_sem])))
     (first|refine call_f (hab) rfl ?_|refine callQ_f (hab) rfl ?_|refine callHK_f (hab) rfl ?_|refine callH_f (hab) rfl ?_)
     (repeat (with_reducible first|refine W_seq fun K hK=>?_|(refine Kont.go (by assumption) ?_)|(simp (config:={ maxSteps:=3000000 }) (disch:=omega) only [go_sem,↓reduceIte])))
     refine J_cutZ (by assumption) [16,18,69,70,71,72] (fun j:Option (List Int)=>match j with|none=>[(18,.f (.v (.slice none 0 0)))]|some j=>[(18,.own 2 1 0 F.length)]) (fun j:Option (List Int)=>match j with|none=>[]|some j=>[none,none,some ⟨3,1,((F++j).map I).map .f⟩]) (fun j=>match j with|none=>F=[]|some j=>(F++j).length≤8) ?_ ?_
     ·by_cases hz0:z=[]
      ·subst hz0
       have hF0:F=[]:=by rw [hFe];rfl
       have e1:ints ([]:List Int)=.fz 1 []:=rfl
       (repeat (with_reducible first|refine J_region ?_ |(simp (config:={ maxSteps:=3000000 }) (disch:=omega) only [go_sem])))
       refine call_uo (clone_e _) ?_
       rintro v H' (⟨rfl,rfl⟩|⟨rfl,rfl⟩)
       ·(repeat (with_reducible first|(simp (config:={ maxSteps:=3000000 }) (disch:=omega) only [go_sem])))
        refine call_fl delete0_w (.v _) (FrzL.cons (.f _) (FrzL.cons (frz_in rfl) (FrzL.nil _))) ?_
        (repeat (with_reducible first|(simp (config:={ maxSteps:=3000000 }) (disch:=omega) only [go_sem])))
        refine ⟨none,hF0,?_⟩
        refine weak_of ?_ ?_<;>(try simp (disch:=omega) only [go_sem])<;>(try first|done|omega|rfl|exact ⟨rfl,rfl⟩|trivial)
       ·have hd:=deleteFunc_u (H:=[some ⟨23,1,[.f (ints (ruA L x w))]⟩,some ⟨3,1,[]⟩]) (q:=1) (l:=[]) (g:=62) (xf:=.fn 62 [] [.ptr 0 1 0 0]) (by simp) rfl (frz_in rfl) hin
        rw [←hFe] at hd
        (repeat (with_reducible first|(simp (config:={ maxSteps:=3000000 }) (disch:=omega) only [go_sem])))
        refine call_u hd ?_
        (repeat (with_reducible first|(simp (config:={ maxSteps:=3000000 }) (disch:=omega) only [go_sem,Nat.reduceAdd])))
        refine ⟨some [],by rw [hF0];simp,?_⟩
        subst hF0
        refine weak_of ?_ ?_<;>(try simp (disch:=omega) only [go_sem,Nat.reduceAdd])<;>(try first|done|omega|rfl|exact ⟨rfl,rfl⟩|trivial)
      ·obtain ⟨z0,z',rfl⟩:∃z0 z',z=z0::z':=by
        cases z with
        | nil=>exact absurd rfl hz0
        | cons z0 z'=>exact ⟨_,_,rfl⟩
       have hcl:=cloneZ_w z0 z' (by simp only [List.length_cons] at hzl;omega)
       obtain ⟨zs,hzs⟩:∃zs,zs=z0::z':=⟨_,rfl⟩
       rw [←hzs] at hcl hFe hFl hin hzl ⊢
       have hd:=deleteFunc_u (H:=[some ⟨23,1,[.f (ints (ruA L x w))]⟩,some ⟨3,1,(zs.map I).map .f⟩]) (q:=1) (l:=zs) (g:=62) (xf:=.fn 62 [] [.ptr 0 1 0 0]) (by omega) rfl (frz_in rfl) hin
       rw [←hFe] at hd
       have hdl:delL (ruP L x w) zs=F++List.replicate (zs.length-F.length) 0:=by unfold delL;rw [←hFe]
       rw [hdl] at hd
       (repeat (with_reducible first|refine J_region ?_ |(simp (config:={ maxSteps:=3000000 }) (disch:=omega) only [go_sem])))
       refine call_o hcl (FrzL.fs [_]) ?_
       (repeat (with_reducible first|(simp (config:={ maxSteps:=3000000 }) (disch:=omega) only [go_sem,List.length_map])))
       refine call_u hd ?_
       (repeat (with_reducible first|(simp (config:={ maxSteps:=3000000 }) (disch:=omega) only [go_sem,Nat.reduceAdd])))
       refine ⟨some (List.replicate (zs.length-F.length) 0),by show F.length+(List.replicate _ _).length≤8;rw [List.length_replicate];omega,?_⟩
       refine weak_of ?_ ?_<;>(try simp (disch:=omega) only [go_sem,Nat.reduceAdd])<;>(try first|done|omega|rfl|exact ⟨rfl,rfl⟩|trivial)
     ·rintro (_|j) hI
      ·have hF0:F=[]:=hI
       subst hF0
       rw [List.append_nil] at hc2 hp hB
       simp only [go_sem]
       by_cases hx0:x=[]
       ·subst hx0
        have e1:ints ([]:List Int)=.fz 1 []:=rfl
        (repeat (with_reducible first|refine W_seq fun K hK=>?_|refine J_region ?_ |(simp (config:={ maxSteps:=3000000 }) (disch:=omega) only [go_sem])))
        refine call_uo (clone_e _) ?_
        rintro v H' (⟨rfl,rfl⟩|⟨rfl,rfl⟩)
        ·(repeat (with_reducible first|(simp (config:={ maxSteps:=3000000 }) (disch:=omega) only [go_sem])))
         refine aApp_nothing ⟨rfl,rfl,?_⟩
         (repeat (with_reducible first|(simp (config:={ maxSteps:=3000000 }) (disch:=omega) only [go_sem])))
         refine call_ff (vs:=[_,_,_]) hc2 (FrzL.cons (.f _) (FrzL.cons (.nil _) (FrzL.cons (.nil _) (FrzL.nil _)))) ?_
         (repeat (with_reducible first|(simp (config:={ maxSteps:=3000000 }) (disch:=omega) only [go_sem])))
         (first|refine call_f (hp) rfl ?_|refine callQ_f (hp) rfl ?_|refine callHK_f (hp) rfl ?_|refine callH_f (hp) rfl ?_)
         (repeat (with_reducible first|refine J_ret ?_|(refine Kont.go (by assumption) ?_)|(simp (config:={ maxSteps:=3000000 }) (disch:=omega) only [go_sem])))
         rw [hB,hC]
         exact ⟨_,rfl,FrzL.fs [_,_]⟩
        ·(repeat (first|(with_reducible first|refine aApp_old ?_|(simp (config:={ maxSteps:=3000000 }) (disch:=omega) only [go_sem,Nat.reduceLeDiff]))|refine And.intro (by omega) ?_))
         refine call_u (callU_fz (q:=1) hc2 rfl (FrzL.cons (.f _) (FrzL.cons (Frz.own0 rfl (by rfl)) (FrzL.cons (.nil _) (FrzL.nil _))))) ?_
         (repeat (with_reducible first|(simp (config:={ maxSteps:=3000000 }) (disch:=omega) only [go_sem])))
         (first|refine call_f (hp) rfl ?_|refine callQ_f (hp) rfl ?_|refine callHK_f (hp) rfl ?_|refine callH_f (hp) rfl ?_)
         (repeat (with_reducible first|refine J_ret ?_|(refine Kont.go (by assumption) ?_)|(simp (config:={ maxSteps:=3000000 }) (disch:=omega) only [go_sem])))
         rw [hB,hC]
         exact ⟨_,rfl,FrzL.fs [_,_]⟩
       ·obtain ⟨x0,x',rfl⟩:∃x0 x',x=x0::x':=by
         cases x with
         | nil=>exact absurd rfl hx0
         | cons x0 x'=>exact ⟨_,_,rfl⟩
        have hcl:=cloneZ_w x0 x' (by simp only [List.length_cons] at hxl;omega)
        obtain ⟨xs,hxs⟩:∃xs,xs=x0::x':=⟨_,rfl⟩
        rw [←hxs] at hcl hc2 hxl hp hB ⊢
        have hw8:xs.length*8≤140737488355328:=by omega
        have htk:((xs.map I).map AV.f).take xs.length=(xs.map I).map .f:=List.take_of_length_le (by simp)
        (repeat (with_reducible first|refine W_seq fun K hK=>?_|refine J_region ?_ |(simp (config:={ maxSteps:=3000000 }) (disch:=omega) only [go_sem])))
        refine call_o hcl (FrzL.fs [_]) ?_
        (repeat (first|(with_reducible first|refine aApp_old ?_|(simp (config:={ maxSteps:=3000000 }) (disch:=omega) only [go_sem,hw8,htk,List.length_map,List.length_nil,Nat.add_zero,List.append_nil]))|refine And.intro (by omega) ?_))
        refine call_u (callU_fz (q:=1) hc2 rfl (FrzL.cons (.f _) (FrzL.cons (Frz.own0 rfl (by rw [List.length_map])) (FrzL.cons (.nil _) (FrzL.nil _))))) ?_
        (repeat (with_reducible first|(simp (config:={ maxSteps:=3000000 }) (disch:=omega) only [go_sem])))
        (first|refine call_f (hp) rfl ?_|refine callQ_f (hp) rfl ?_|refine callHK_f (hp) rfl ?_|refine callH_f (hp) rfl ?_)
        (repeat (with_reducible first|refine J_ret ?_|(refine Kont.go (by assumption) ?_)|(simp (config:={ maxSteps:=3000000 }) (disch:=omega) only [go_sem])))
        rw [hB,hC]
        exact ⟨_,rfl,FrzL.fs [_,_]⟩
      ·have hI:(F++j).length≤8:=hI
       have hFk:F.length≤(F++j).length:=by rw [List.length_append];omega
       have htF:(((F++j).map I).map AV.f).take F.length=(F.map I).map .f:=by rw [←List.map_take,←List.map_take,List.take_left'];rfl
       have hw8:F.length*8≤140737488355328:=by omega
       simp only [go_sem]
       by_cases hx0:x=[]
       ·subst hx0
        rw [List.nil_append] at hc2 hp hB
        have e1:ints ([]:List Int)=.fz 1 []:=rfl
        (repeat (with_reducible first|refine W_seq fun K hK=>?_|refine J_region ?_ |(simp (config:={ maxSteps:=3000000 }) (disch:=omega) only [go_sem])))
        refine call_uo (clone_e _) ?_
        rintro v H' (⟨rfl,rfl⟩|⟨rfl,rfl⟩)
        ·by_cases hF0:F=[]
         ·subst hF0
          (repeat (with_reducible first|(simp (config:={ maxSteps:=3000000 }) (disch:=omega) only [go_sem])))
          refine aApp_nothing ⟨⟨rfl,_,rfl,rfl,by simp,by simp⟩,rfl,?_⟩
          (repeat (with_reducible first|(simp (config:={ maxSteps:=3000000 }) (disch:=omega) only [go_sem])))
          refine call_ff (vs:=[_,_,_]) hc2 (FrzL.cons (.f _) (FrzL.cons (.nil _) (FrzL.cons (.nil _) (FrzL.nil _)))) ?_
          (repeat (with_reducible first|(simp (config:={ maxSteps:=3000000 }) (disch:=omega) only [go_sem])))
          (first|refine call_f (hp) rfl ?_|refine callQ_f (hp) rfl ?_|refine callHK_f (hp) rfl ?_|refine callH_f (hp) rfl ?_)
          (repeat (with_reducible first|refine J_ret ?_|(refine Kont.go (by assumption) ?_)|(simp (config:={ maxSteps:=3000000 }) (disch:=omega) only [go_sem])))
          rw [hB,hC]
          exact ⟨_,rfl,FrzL.fs [_,_]⟩
         ·have hFp:0<F.length:=List.length_pos_iff.2 hF0
          (repeat (first|(with_reducible first|refine aApp_old ?_|(simp (config:={ maxSteps:=3000000 }) (disch:=omega) only [go_sem,Nat.reduceAdd,hFp,hw8,htF,List.length_map]))|refine And.intro (by omega) ?_))
          refine call_u (callU_fz (q:=3) hc2 rfl (FrzL.cons (.f _) (FrzL.cons (Frz.own0 rfl (by rw [List.length_map])) (FrzL.cons (.nil _) (FrzL.nil _))))) ?_
          (repeat (with_reducible first|(simp (config:={ maxSteps:=3000000 }) (disch:=omega) only [go_sem])))
          (first|refine call_f (hp) rfl ?_|refine callQ_f (hp) rfl ?_|refine callHK_f (hp) rfl ?_|refine callH_f (hp) rfl ?_)
          (repeat (with_reducible first|refine J_ret ?_|(refine Kont.go (by assumption) ?_)|(simp (config:={ maxSteps:=3000000 }) (disch:=omega) only [go_sem])))
          rw [hB,hC]
          exact ⟨_,rfl,FrzL.fs [_,_]⟩
        ·(repeat (first|(with_reducible first|refine aApp_old ?_|(simp (config:={ maxSteps:=3000000 }) (disch:=omega) only [go_sem,Nat.reduceAdd,Nat.reduceLeDiff,hw8,htF,List.length_map,Nat.zero_add,List.nil_append]))|refine And.intro (by omega) ?_))
         refine call_u (callU_fz (q:=4) hc2 rfl (FrzL.cons (.f _) (FrzL.cons (Frz.own0 rfl (by rw [List.length_map])) (FrzL.cons (.nil _) (FrzL.nil _))))) ?_
         (repeat (with_reducible first|(simp (config:={ maxSteps:=3000000 }) (disch:=omega) only [go_sem])))
         (first|refine call_f (hp) rfl ?_|refine callQ_f (hp) rfl ?_|refine callHK_f (hp) rfl ?_|refine callH_f (hp) rfl ?_)
         (repeat (with_reducible first|refine J_ret ?_|(refine Kont.go (by assumption) ?_)|(simp (config:={ maxSteps:=3000000 }) (disch:=omega) only [go_sem])))
         rw [hB,hC]
         exact ⟨_,rfl,FrzL.fs [_,_]⟩
       ·obtain ⟨x0,x',rfl⟩:∃x0 x',x=x0::x':=by
         cases x with
         | nil=>exact absurd rfl hx0
         | cons x0 x'=>exact ⟨_,_,rfl⟩
        have hcl:=cloneZ_w x0 x' (by simp only [List.length_cons] at hxl;omega)
        obtain ⟨xs,hxs⟩:∃xs,xs=x0::x':=⟨_,rfl⟩
        rw [←hxs] at hcl hc2 hxl hp hB ⊢
        have hw9:(xs.length+F.length)*8≤140737488355328:=by omega
        have htk:((xs.map I).map AV.f).take xs.length=(xs.map I).map .f:=List.take_of_length_le (by simp)
        have happ:(xs.map I).map AV.f++(F.map I).map AV.f=((xs++F).map I).map .f:=by simp
        (repeat (with_reducible first|refine W_seq fun K hK=>?_|refine J_region ?_ |(simp (config:={ maxSteps:=3000000 }) (disch:=omega) only [go_sem])))
        refine call_o hcl (FrzL.fs [_]) ?_
        (repeat (first|(with_reducible first|refine aApp_old ?_|(simp (config:={ maxSteps:=3000000 }) (disch:=omega) only [go_sem,Nat.reduceAdd,hw9,htk,htF,happ,List.length_map]))|refine And.intro (by omega) ?_))
        refine call_u (callU_fz (q:=4) hc2 rfl (FrzL.cons (.f _) (FrzL.cons (Frz.own0 rfl (by rw [List.length_map,List.length_append])) (FrzL.cons (.nil _) (FrzL.nil _))))) ?_
        (repeat (with_reducible first|(simp (config:={ maxSteps:=3000000 }) (disch:=omega) only [go_sem])))
        (first|refine call_f (hp) rfl ?_|refine callQ_f (hp) rfl ?_|refine callHK_f (hp) rfl ?_|refine callH_f (hp) rfl ?_)
        (repeat (with_reducible first|refine J_ret ?_|(refine Kont.go (by assumption) ?_)|(simp (config:={ maxSteps:=3000000 }) (disch:=omega) only [go_sem])))
        rw [hB,hC]
        exact ⟨_,rfl,FrzL.fs [_,_]⟩
    ·rw [if_neg k3] at hB hC
     (repeat (with_reducible first|refine W_seq fun K hK=>?_|refine J_skip ?_|refine J_ret ?_|refine J_region ?_ |(refine Kont.go (by assumption) ?_)|(simp (config:={ maxSteps:=3000000 }) (disch:=omega) only [go_sem])))
     rw [hB,hC]
     exact ⟨_,rfl,FrzL.fs [_,_]⟩
end Go.Proofs.YtgjnbcfencallaaDoor
set_option linter.unusedVariables false
set_option linter.unusedSimpArgs false
namespace Go.Proofs.YtgjnbcfencallaaDoor
open Go Go.RowKit
def hvGo (n:Nat):List (List Int)→Nat
 | []=>n
 | r::l=>if n≤512 then hvGo (n+r.length) l else n
set_option maxRecDepth 100000 in
theorem heavyLists_w (L:List (List Int)) (hl:L.length≤140737488355328) (hr:∀r∈L,r.length≤140737488355328):∃b,Good Tryd.prog 7 [.fz 1 (L.map ints)] (Bo b):=by
 obtain ⟨g,hg⟩:∃g,g=hvGo L.length L:=⟨_,rfl⟩
 refine ⟨decide ((512:Int)<((g:Nat):Int)),?_⟩
 refine good_of Tryd.func7 rfl (by kernel_rfl) fun X hO hrd=>?_;rw [Tryd.ntmps7,Tryd.results7];simp only [ast0,List.map_cons,List.map_nil,List.length_cons,List.length_nil,Nat.reduceAdd,Nat.reduceSub,List.replicate_succ,List.replicate_zero,List.cons_append,List.nil_append]
 (repeat (with_reducible first|refine W_seq fun K hK=>?_|refine J_block ?_|refine J_region ?_ |(refine Kont.go (by assumption) ?_)|(simp (config:={ maxSteps:=3000000 }) (disch:=omega) only [go_sem,List.length_map])))
 refine W_loop [3,4,7,8,9,10,11,12,13,14,15,16,17,18,19,20,21,22,23] (fun x:Nat × Nat=>[(3,.f (I x.2)),(4,.f (I x.1))]) (fun x:Nat × Nat=>[]) (fun x:Nat × Nat=>x.1≤L.length∧hvGo x.2 (L.drop x.1)=g∧x.2≤281474976710656) (fun x:Nat × Nat=>L.length-x.1) ((0,L.length)) (⟨Nat.zero_le _,hg.symm,by simp only;omega⟩) (by refine weak_of ?_ ?_<;>simp (disch:=omega) only [go_sem]<;>first|rfl|exact ⟨rfl,rfl⟩|exact Or.inl rfl|exact ⟨Or.inl rfl,Or.inl rfl⟩|trivial|assumption|omega|(symm;assumption)|((repeat' apply And.intro)<;>first|rfl|omega|trivial|exact .inl rfl|exact .inr ⟨rfl,rfl⟩|exact .inr rfl|(right;symm;assumption)|(symm;assumption)|assumption)) ?_
 rintro ⟨i,n⟩ ⟨hi,hn,hb⟩
 simp only at hi hn hb
 simp only [go_sem]
 by_cases hlt:i<L.length
 ·have hd:L.drop i=L[i]::L.drop (i+1):=List.drop_eq_getElem_cons hlt
  rw [hd] at hn
  unfold hvGo at hn
  have hri:=hr _ (List.getElem_mem hlt)
  by_cases hle:n≤512
  ·rw [if_pos hle] at hn
   have hle':(n:Int)≤512:=by omega
   (repeat (with_reducible first|refine W_seq fun K hK=>?_|refine J_block ?_|refine J_skip ?_|refine J_region ?_ |refine J_c ?_|refine Jc_true ?_|(refine Kont.go (by assumption) ?_)|(simp (config:={ maxSteps:=3000000 }) (disch:=omega) only [go_sem,↓reduceIte,List.length_map,hlt,hle',map_get ints L hlt,true_and])))
   refine ⟨(i+1,n+L[i].length),⟨by simp only;omega,hn,by simp only;omega⟩,by simp only;omega,weak_of ?_ ?_⟩<;>(try simp (disch:=omega) only [go_sem])<;>(try first|done|omega|rfl|exact ⟨rfl,rfl⟩|trivial)
  ·rw [if_neg hle] at hn
   have hle':¬(n:Int)≤512:=by omega
   (repeat (with_reducible first|refine W_seq fun K hK=>?_|refine J_exit ?_|refine J_ret ?_|refine J_region ?_ |refine J_c ?_|refine Jc_false ?_|(refine Kont.go (by assumption) ?_)|(simp (config:={ maxSteps:=3000000 }) (disch:=omega) only [go_sem,↓reduceIte,List.length_map,hlt,hle',true_and])))
   rw [hn];exact Frz.f _
 ·have hd:L.drop i=[]:=List.drop_of_length_le (by omega)
  rw [hd] at hn
  unfold hvGo at hn
  (repeat (with_reducible first|refine W_seq fun K hK=>?_|refine J_exit ?_|refine J_ret ?_|refine J_region ?_ |refine J_c ?_|refine Jc_false ?_|(refine Kont.go (by assumption) ?_)|(simp (config:={ maxSteps:=3000000 }) (disch:=omega) only [go_sem,↓reduceIte,List.length_map,hlt,true_and])))
  rw [hn];exact Frz.f _
end Go.Proofs.YtgjnbcfencallaaDoor
set_option linter.unusedVariables false
set_option linter.unusedSimpArgs false
namespace Go.Proofs.YtgjnbcfencallaaDoor
open Go Go.RowKit
set_option maxRecDepth 100000 in
set_option maxHeartbeats 8000000 in
theorem causeGraphs_good (L:List (List Int)) (k:Int) (x y z w:List Int) (u v:Int) (hL:OkIss L) (hk:-9223372036854775808≤k∧k≤9223372036854775807) (hx:OkNs x) (hy:OkNs y) (hz:OkNs z) (hw:OkNs w)
  (hu:-9223372036854775808≤u∧u≤9223372036854775807) (hv:-9223372036854775808≤v∧v≤9223372036854775807) :
  Good Tryd.prog 6 [.fz 1 (L.map ints),I k,ints x,ints y,ints z,ints w,I u,I v] (Bo true):=by
 obtain ⟨b,hb⟩:=heavyLists_w L hL.1 fun r hr=>(hL.2 r hr).1
 have r1:=rule_w L hL k hk x y z w hx hy hz hw
 have r2:=rrule_w L hL k hk x y z w hx hy hz hw
 have b1:=backDoor_w L hL u v z hu hv hz
 have b2:=rbackDoor_w L hL u v z hu hv hz
 have f1:=frontDoor_w L hL u v z hu hv hz
 have f2:=rfrontDoor_w L hL u v z hu hv hz
 obtain ⟨e1,he1⟩:∃e,e=ruB L k x y z w:=⟨_,rfl⟩
 obtain ⟨e2,he2⟩:∃e,e=ruC L k x y z w:=⟨_,rfl⟩
 obtain ⟨e3,he3⟩:∃e,e=bdB L u v z:=⟨_,rfl⟩
 obtain ⟨e4,he4⟩:∃e,e=bdE L u v z:=⟨_,rfl⟩
 obtain ⟨e5,he5⟩:∃e,e=fdB L u v z:=⟨_,rfl⟩
 rw [←he1,←he2] at r1 r2
 rw [←he3,←he4] at b1 b2
 rw [←he5,←he4] at f1 f2
 unfold Pr at r1 r2 b1 b2 f1 f2
 have hx1:=hx.1
 have hy1:=hy.1
 have hz1:=hz.1
 have hw1:=hw.1
 refine good_of Tryd.func6 rfl (by kernel_rfl) fun X hO hrd=>?_;rw [Tryd.ntmps6,Tryd.results6];simp only [ast0,List.map_cons,List.map_nil,List.length_cons,List.length_nil,Nat.reduceAdd,Nat.reduceSub,List.replicate_succ,List.replicate_zero,List.cons_append,List.nil_append]
 (repeat (with_reducible first|refine W_seq fun K hK=>?_|refine J_region ?_ |(refine Kont.go (by assumption) ?_)|(simp (config:={ maxSteps:=3000000 }) (disch:=omega) only [go_sem])))
 (first|refine call_f (hb) rfl ?_|refine callQ_f (hb) rfl ?_|refine callHK_f (hb) rfl ?_|refine callH_f (hb) rfl ?_)
 cases b with
 | true=>(repeat (with_reducible first|refine W_seq fun K hK=>?_|refine J_ret ?_|refine J_region ?_ |refine J_c ?_|refine Jc_true ?_|exact Frz.f _|(refine Kont.go (by assumption) ?_)|(simp (config:={ maxSteps:=3000000 }) (disch:=omega) only [go_sem])))
 | false =>
  (repeat (with_reducible first|refine J_c ?_|(refine Kont.go (by assumption) ?_)|(simp (config:={ maxSteps:=3000000 }) (disch:=omega) only [go_sem,List.length_map,true_and])))
  refine Jc_if (fun hgt=>?_) (fun hgt=>?_)<;>try simp only [decide_eq_true_eq,decide_eq_false_iff_not] at hgt
  ·(repeat (with_reducible first|refine W_seq fun K hK=>?_|refine J_ret ?_|refine J_region ?_ |exact Frz.f _|(refine Kont.go (by assumption) ?_)|(simp (config:={ maxSteps:=3000000 }) (disch:=omega) only [go_sem])))
  ·(repeat (with_reducible first|refine W_seq fun K hK=>?_|refine J_skip ?_|refine J_region ?_ |(refine Kont.go (by assumption) ?_)|(simp (config:={ maxSteps:=3000000 }) (disch:=omega) only [go_sem])))
   (first|refine call_f (r1) rfl ?_|refine callQ_f (r1) rfl ?_|refine callHK_f (r1) rfl ?_|refine callH_f (r1) rfl ?_)
   (repeat (with_reducible first|refine W_seq fun K hK=>?_|refine J_region ?_ |(refine Kont.go (by assumption) ?_)|(simp (config:={ maxSteps:=3000000 }) (disch:=omega) only [go_sem])))
   (first|refine call_f (r2) rfl ?_|refine callQ_f (r2) rfl ?_|refine callHK_f (r2) rfl ?_|refine callH_f (r2) rfl ?_)
   (repeat (with_reducible first|refine W_seq fun K hK=>?_|refine J_skip ?_|refine J_region ?_ |refine J_c ?_|refine Jc_false ?_|(refine Kont.go (by assumption) ?_)|(simp (config:={ maxSteps:=3000000 }) (disch:=omega) only [go_sem,bin_neb Tryd.underlying4,beq_self_eq_true,Bool.not_true])))
   (first|refine call_f (b1) rfl ?_|refine callQ_f (b1) rfl ?_|refine callHK_f (b1) rfl ?_|refine callH_f (b1) rfl ?_)
   (repeat (with_reducible first|refine W_seq fun K hK=>?_|refine J_region ?_ |(refine Kont.go (by assumption) ?_)|(simp (config:={ maxSteps:=3000000 }) (disch:=omega) only [go_sem])))
   (first|refine call_f (b2) rfl ?_|refine callQ_f (b2) rfl ?_|refine callHK_f (b2) rfl ?_|refine callH_f (b2) rfl ?_)
   (repeat (with_reducible first|refine W_seq fun K hK=>?_|refine J_skip ?_|refine J_region ?_ |refine J_c ?_|refine Jc_false ?_|(refine Kont.go (by assumption) ?_)|(simp (config:={ maxSteps:=3000000 }) (disch:=omega) only [go_sem,bin_neb Tryd.underlying4,beq_self_eq_true,Bool.not_true])))
   (first|refine call_f (f1) rfl ?_|refine callQ_f (f1) rfl ?_|refine callHK_f (f1) rfl ?_|refine callH_f (f1) rfl ?_)
   (repeat (with_reducible first|refine W_seq fun K hK=>?_|refine J_region ?_ |(refine Kont.go (by assumption) ?_)|(simp (config:={ maxSteps:=3000000 }) (disch:=omega) only [go_sem])))
   (first|refine call_f (f2) rfl ?_|refine callQ_f (f2) rfl ?_|refine callHK_f (f2) rfl ?_|refine callH_f (f2) rfl ?_)
   (repeat (with_reducible first|refine W_seq fun K hK=>?_|refine J_ret ?_|refine J_region ?_ |exact Frz.f _|(refine Kont.go (by assumption) ?_)|(simp (config:={ maxSteps:=3000000 }) (disch:=omega) only [go_sem,bin_eqb Tryd.underlying4,beq_self_eq_true])))
end Go.Proofs.YtgjnbcfencallaaDoor
namespace Go.Proofs.YtgjnbcfencallaaDoor
open Go Go.ChangeShapes Go.ChangeAt Go.RowKit
variable {H : Type} {enc : TypeId × Value → H} {P : Program}

def relay (cs:Array Value):Obj→Obj
 | .cells _ t frozen=>.cells cs t frozen
 | o=>o
def firstCells:Array Value:=(Go.Pinned.utf8FirstZ.map fun n:Nat=>Value.int .u8 (n:Int)).toArray
end Go.Proofs.YtgjnbcfencallaaDoor
