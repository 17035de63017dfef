/- Front doors: walked, the program's way and the document's. Conditions: what slices may hold. -/
import Derived.Test.YtgjnbcfencallaaDoorZB17
import Derived.Test.YtgjnbcfencallaaDoorZB06
import Derived.Test.YtgjnbcfencallaaDoorZB11
set_option linter.unusedVariables false
set_option linter.unusedSimpArgs false
namespace Go.Proofs.YtgjnbcfencallaaDoor
open Go Go.RowKit
def fdA (L:List (List Int)) (x y:Int) (z:List Int):Bool:=wsh (paO (setsOf (cutI L z []))) L.length x.toNat y.toNat
def fdB (L:List (List Int)) (x y:Int) (z:List Int):Bool:=if setsX L x y z≠0 then false else !fdA L x y z&&aprB (cutI L [] [x]) [x] z []&&aprB (cutI L [] z) z [y] [x]
theorem fd_ok {L:List (List Int)} {x y:Int} {z:List Int} (h:setsX L x y z=0):apOk L.length [z,[y],[x]]=true:=by
 obtain ⟨hx,hy,hz,h1,h2,h3⟩:=bd_in h
 have hx1:risB L.length [x]=true:=ris_pw.2 ⟨by simp,fun v hv=>by rw [List.mem_singleton.1 hv];exact hx⟩
 have hy1:risB L.length [y]=true:=ris_pw.2 ⟨by simp,fun v hv=>by rw [List.mem_singleton.1 hv];exact hy⟩
 have hzn:z.Nodup:=(ris_pw.1 hz).1.imp fun h=>by omega
 unfold apOk
 refine Bool.and_eq_true_iff.2 ⟨by simp [hx1,hy1,hz],decide_eq_true ?_⟩
 have e:[z,[y],[x]].flatten=z++[y,x]:=by simp
 rw [e,List.nodup_append]
 refine ⟨hzn,by simp;exact fun e=>h3 e.symm,fun a ha b hb=>?_⟩
 simp only [List.mem_cons,List.not_mem_nil,or_false] at hb
 rcases hb with rfl|rfl
 ·exact fun e=>h2 (e▸ha)
 ·exact fun e=>h1 (e▸ha)
set_option maxRecDepth 100000 in
set_option maxHeartbeats 8000000 in
theorem frontDoor_w (L:List (List Int)) (hL:OkIss L) (x y:Int) (z:List Int) (hx:-9223372036854775808≤x∧x≤9223372036854775807) (hy:-9223372036854775808≤y∧y≤9223372036854775807) (hz:OkNs z) :
  Good Tryd.prog 32 [.fz 1 (L.map ints),I x,I y,ints z] (Pr (fdB L x y z) (bdE L x y z)):=by
 have hs:Good Tryd.prog 56 [.fz 1 (L.map ints),.fz 1 [ints [x],ints [y],ints z]] (I (setsX L x y z)):=sets_w L [[x],[y],z] hL (by simp) (sets3 hx hy hz)
 by_cases h0:setsX L x y z=0
 case neg =>
  rw [show fdB L x y z=false by unfold fdB;rw [if_pos h0],show bdE L x y z=setsX L x y z by unfold bdE;rw [if_pos h0]]
  refine good_of Tryd.func32 rfl (by kernel_rfl) fun X hO hrd=>?_;rw [Tryd.ntmps32,Tryd.results32];simp only [ast0,List.map_cons,List.map_nil,List.length_cons,List.length_nil,Nat.reduceAdd,Nat.reduceSub,List.replicate_succ,List.replicate_zero,List.cons_append,List.nil_append]
  (repeat (first|(with_reducible first|refine W_seq fun K hK=>?_|refine J_region ?_ |(refine Kont.go (by assumption) ?_)|(simp (config:={ maxSteps:=3000000 }) (disch:=omega) only [go_sem,↓reduceIte,Nat.reduceAdd]))|refine And.intro (by omega) ?_))
  refine call_fl hs (.v _) (FrzL.cons (.f _) (FrzL.cons (frz_three rfl (fz_one rfl) (fz_one rfl) (.f _)) (FrzL.nil _))) ?_
  (repeat (with_reducible first|refine W_seq fun K hK=>?_|refine J_ret ?_|refine J_region ?_ |refine J_c ?_|refine Jc_true ?_|(refine Kont.go (by assumption) ?_)|(simp (config:={ maxSteps:=3000000 }) (disch:=omega) only [go_sem,h0])))
  exact ⟨_,rfl,FrzL.fs [_,_]⟩
 have hbe:bdE L x y z=0:=by unfold bdE;rw [if_neg (by omega)]
 obtain ⟨ho,ha⟩:=sets_ok h0
 obtain ⟨hxr,hyr,hzr,_⟩:=bd_in h0
 have hn8:=(GP.of (ord_ok ho).1).n8
 have hr8:=cut_rows8 ho
 have hc1:=cut_w L z [] hL hn8 hz ok_nil hr8
 have hc2:=cut_w L [] [x] hL hn8 ok_nil (ok_one hx) hr8
 have hc3:=cut_w L [] z hL hn8 ok_nil hz hr8
 have hab:=Above_w (cutI L z []) (cutI_ok hL) [y] (ok_one hy)
 have hov:=abv_one (L:=cutI L z []) (u:=y.toNat) (x:=x) (cut_ord ho) (by rw [cutI_len];omega) (by rw [cutI_len];exact hxr)
 rw [cutI_len,Int.toNat_of_nonneg hyr.1] at hov
 have hal8:((abvL (cutI L z []) [y]).map Int.ofNat).length≤140737488355328:=by
  rw [List.length_map];unfold abvL;split
  ·have:=els_len (s:=abv (setsOf (cutI L z [])) (cutI L z []).length (setI [y]));omega
  ·simp
 have hco:=contZ_w (k:=x) hal8
 rw [Ns_ints] at hab
 have hp2:=Apart_w (cutI L [] [x]) (cutI_ok hL) [x] z [] (ok_one hx) hz ok_nil
 have hp3:=Apart_w (cutI L [] z) (cutI_ok hL) z [y] [x] hz (ok_one hy) (ok_one hx)
 rw [apr_zero ho (fd_ok h0)] at hp3
 rw [h0] at hs
 rw [hbe]
 obtain ⟨b,hb⟩:∃b,b=fdB L x y z:=⟨_,rfl⟩
 have hbv:b=(!fdA L x y z&&aprB (cutI L [] [x]) [x] z []&&aprB (cutI L [] z) z [y] [x]):=by rw [hb];unfold fdB;rw [if_neg (by omega)]
 rw [←hb]
 refine good_of Tryd.func32 rfl (by kernel_rfl) fun X hO hrd=>?_;rw [Tryd.ntmps32,Tryd.results32];simp only [ast0,List.map_cons,List.map_nil,List.length_cons,List.length_nil,Nat.reduceAdd,Nat.reduceSub,List.replicate_succ,List.replicate_zero,List.cons_append,List.nil_append]
 (repeat (first|(with_reducible first|refine W_seq fun K hK=>?_|refine J_region ?_ |(refine Kont.go (by assumption) ?_)|(simp (config:={ maxSteps:=3000000 }) (disch:=omega) only [go_sem,↓reduceIte,Nat.reduceAdd]))|refine And.intro (by omega) ?_))
 refine call_fl hs (.v _) (FrzL.cons (.f _) (FrzL.cons (frz_three rfl (fz_one rfl) (fz_one rfl) (.f _)) (FrzL.nil _))) ?_
 (repeat (with_reducible first|refine W_seq fun K hK=>?_|refine J_skip ?_|refine J_region ?_ |refine J_c ?_|refine Jc_false ?_|(refine Kont.go (by assumption) ?_)|(simp (config:={ maxSteps:=3000000 }) (disch:=omega) only [go_sem])))
 refine call_ff (vs:=[_,_,_]) hc1 (FrzL.cons (.f _) (FrzL.cons (.f _) (FrzL.cons (.nil _) (FrzL.nil _)))) ?_
 (repeat (first|(with_reducible first|(simp (config:={ maxSteps:=3000000 }) (disch:=omega) only [go_sem,↓reduceIte,Nat.reduceAdd]))|refine And.intro (by omega) ?_))
 refine call_u (callU_fz (q:=3) hab rfl (FrzL.cons (.f _) (FrzL.cons (fz_one rfl) (FrzL.nil _)))) ?_
 (repeat (with_reducible first|refine W_seq fun K hK=>?_|refine J_region ?_ |(refine Kont.go (by assumption) ?_)|(simp (config:={ maxSteps:=3000000 }) (disch:=omega) only [go_sem])))
 (first|refine call_f (hco) rfl ?_|refine callQ_f (hco) rfl ?_|refine callHK_f (hco) rfl ?_|refine callH_f (hco) rfl ?_)
 by_cases hm:x∈(abvL (cutI L z []) [y]).map Int.ofNat
 ·have hA:fdA L x y z=true:=hov.1 hm
  rw [hA] at hbv
  rw [decide_eq_true hm]
  (repeat (with_reducible first|refine W_seq fun K hK=>?_|refine J_ret ?_|refine J_region ?_ |refine J_c ?_|refine Jc_true ?_|(refine Kont.go (by assumption) ?_)|(simp (config:={ maxSteps:=3000000 }) (disch:=omega) only [go_sem])))
  rw [hbv]
  exact ⟨_,rfl,FrzL.fs [_,_]⟩
 ·have hA:fdA L x y z=false:=by
   cases h:fdA L x y z with
   | false=>rfl
   | true=>exact absurd (hov.2 h) hm
  rw [hA] at hbv
  rw [decide_eq_false hm]
  (repeat (first|(with_reducible first|refine W_seq fun K hK=>?_|refine J_skip ?_|refine J_region ?_ |refine J_c ?_|refine Jc_false ?_|(refine Kont.go (by assumption) ?_)|(simp (config:={ maxSteps:=3000000 }) (disch:=omega) only [go_sem,↓reduceIte,Nat.reduceAdd]))|refine And.intro (by omega) ?_))
  refine call_u (callU_fz (q:=4) hc2 rfl (FrzL.cons (.f _) (FrzL.cons (.nil _) (FrzL.cons (fz_one rfl) (FrzL.nil _))))) ?_
  (repeat (first|(with_reducible first|(simp (config:={ maxSteps:=3000000 }) (disch:=omega) only [go_sem,↓reduceIte,Nat.reduceAdd]))|refine And.intro (by omega) ?_))
  refine call_fl hp2 flat_pr (FrzL.cons (.f _) (FrzL.cons (fz_one rfl) (FrzL.cons (.f _) (FrzL.cons (.nil _) (FrzL.nil _))))) ?_
  cases h2:aprB (cutI L [] [x]) [x] z [] with
  | false =>
   rw [h2] at hbv
   (repeat (with_reducible first|refine W_seq fun K hK=>?_|refine J_ret ?_|refine J_region ?_ |refine J_c ?_|refine Jc_true ?_|(refine Kont.go (by assumption) ?_)|(simp (config:={ maxSteps:=3000000 }) (disch:=omega) only [go_sem])))
   rw [hbv]
   exact ⟨_,rfl,FrzL.fs [_,_]⟩
  | true =>
   rw [h2] at hbv
   (repeat (with_reducible first|refine W_seq fun K hK=>?_|refine J_skip ?_|refine J_region ?_ |refine J_c ?_|refine Jc_false ?_|(refine Kont.go (by assumption) ?_)|(simp (config:={ maxSteps:=3000000 }) (disch:=omega) only [go_sem])))
   refine call_ff (vs:=[_,_,_]) hc3 (FrzL.cons (.f _) (FrzL.cons (.nil _) (FrzL.cons (.f _) (FrzL.nil _)))) ?_
   (repeat (first|(with_reducible first|(simp (config:={ maxSteps:=3000000 }) (disch:=omega) only [go_sem,↓reduceIte,Nat.reduceAdd]))|refine And.intro (by omega) ?_))
   refine call_fl hp3 flat_pr (FrzL.cons (.f _) (FrzL.cons (.f _) (FrzL.cons (fz_one rfl) (FrzL.cons (fz_one rfl) (FrzL.nil _))))) ?_
   (repeat (with_reducible first|refine J_ret ?_|(refine Kont.go (by assumption) ?_)|(simp (config:={ maxSteps:=3000000 }) (disch:=omega) only [go_sem])))
   rw [hbv]
   exact ⟨_,rfl,FrzL.fs [_,_]⟩
set_option maxRecDepth 100000 in
set_option maxHeartbeats 8000000 in
theorem rfrontDoor_w (L:List (List Int)) (hL:OkIss L) (x y:Int) (z:List Int) (hx:-9223372036854775808≤x∧x≤9223372036854775807) (hy:-9223372036854775808≤y∧y≤9223372036854775807) (hz:OkNs z) :
  Good Tryd.prog 33 [.fz 1 (L.map ints),I x,I y,ints z] (Pr (fdB L x y z) (bdE L x y z)):=by
 have hs:Good Tryd.prog 64 [.fz 1 (L.map ints),.fz 1 [ints [x],ints [y],ints z]] (I (setsX L x y z)):=setsOK_w L [[x],[y],z] hL (by simp) (sets3 hx hy hz)
 by_cases h0:setsX L x y z=0
 case neg =>
  rw [show fdB L x y z=false by unfold fdB;rw [if_pos h0],show bdE L x y z=setsX L x y z by unfold bdE;rw [if_pos h0]]
  refine good_of Tryd.func33 rfl (by kernel_rfl) fun X hO hrd=>?_;rw [Tryd.ntmps33,Tryd.results33];simp only [ast0,List.map_cons,List.map_nil,List.length_cons,List.length_nil,Nat.reduceAdd,Nat.reduceSub,List.replicate_succ,List.replicate_zero,List.cons_append,List.nil_append]
  (repeat (first|(with_reducible first|refine W_seq fun K hK=>?_|refine J_region ?_ |(refine Kont.go (by assumption) ?_)|(simp (config:={ maxSteps:=3000000 }) (disch:=omega) only [go_sem,↓reduceIte,Nat.reduceAdd]))|refine And.intro (by omega) ?_))
  refine call_fl hs (.v _) (FrzL.cons (.f _) (FrzL.cons (frz_three rfl (fz_one rfl) (fz_one rfl) (.f _)) (FrzL.nil _))) ?_
  (repeat (with_reducible first|refine W_seq fun K hK=>?_|refine J_ret ?_|refine J_region ?_ |refine J_c ?_|refine Jc_true ?_|(refine Kont.go (by assumption) ?_)|(simp (config:={ maxSteps:=3000000 }) (disch:=omega) only [go_sem,h0])))
  exact ⟨_,rfl,FrzL.fs [_,_]⟩
 have hbe:bdE L x y z=0:=by unfold bdE;rw [if_neg (by omega)]
 obtain ⟨ho,ha⟩:=sets_ok h0
 obtain ⟨hxr,hyr,hzr,_⟩:=bd_in h0
 have hn8:=(GP.of (ord_ok ho).1).n8
 have hr8:=cut_rows8 ho
 have hc1:=rcut_w L z [] hL hn8 hz ok_nil hr8
 have hc2:=rcut_w L [] [x] hL hn8 ok_nil (ok_one hx) hr8
 have hc3:=rcut_w L [] z hL hn8 ok_nil hz hr8
 have hab:=isAbv (L:=cutI L z []) (cut_ord ho) (x:=x) (v:=y) (by rw [cutI_len];exact hxr) (by rw [cutI_len];exact hyr)
 rw [cutI_len] at hab
 have hp2:=rApart_w (cutI L [] [x]) (cutI_ok hL) [x] z [] (ok_one hx) hz ok_nil
 have hp3:=rApart_w (cutI L [] z) (cutI_ok hL) z [y] [x] hz (ok_one hy) (ok_one hx)
 rw [h0] at hs
 rw [hbe]
 obtain ⟨b,hb⟩:∃b,b=fdB L x y z:=⟨_,rfl⟩
 have hbv:b=(!fdA L x y z&&aprB (cutI L [] [x]) [x] z []&&aprB (cutI L [] z) z [y] [x]):=by rw [hb];unfold fdB;rw [if_neg (by omega)]
 rw [←hb]
 have hA:fdA L x y z=wsh (paO (setsOf (cutI L z []))) L.length x.toNat y.toNat:=rfl
 rw [←hA] at hab
 obtain ⟨a1,ha1⟩:∃a1,a1=fdA L x y z:=⟨_,rfl⟩
 obtain ⟨a2,ha2⟩:∃a2,a2=aprB (cutI L [] [x]) [x] z []:=⟨_,rfl⟩
 obtain ⟨a3,ha3⟩:∃a3,a3=aprB (cutI L [] z) z [y] [x]:=⟨_,rfl⟩
 rw [←ha1] at hab
 rw [←ha2] at hp2
 rw [←ha3] at hp3
 rw [←ha1,←ha2,←ha3] at hbv
 refine good_of Tryd.func33 rfl (by kernel_rfl) fun X hO hrd=>?_;rw [Tryd.ntmps33,Tryd.results33];simp only [ast0,List.map_cons,List.map_nil,List.length_cons,List.length_nil,Nat.reduceAdd,Nat.reduceSub,List.replicate_succ,List.replicate_zero,List.cons_append,List.nil_append]
 (repeat (first|(with_reducible first|refine W_seq fun K hK=>?_|refine J_region ?_ |(refine Kont.go (by assumption) ?_)|(simp (config:={ maxSteps:=3000000 }) (disch:=omega) only [go_sem,↓reduceIte,Nat.reduceAdd]))|refine And.intro (by omega) ?_))
 refine call_fl hs (.v _) (FrzL.cons (.f _) (FrzL.cons (frz_three rfl (fz_one rfl) (fz_one rfl) (.f _)) (FrzL.nil _))) ?_
 (repeat (with_reducible first|refine W_seq fun K hK=>?_|refine J_skip ?_|refine J_region ?_ |refine J_c ?_|refine Jc_false ?_|(refine Kont.go (by assumption) ?_)|(simp (config:={ maxSteps:=3000000 }) (disch:=omega) only [go_sem])))
 refine call_ff (vs:=[_,_,_]) hc1 (FrzL.cons (.f _) (FrzL.cons (.f _) (FrzL.cons (.nil _) (FrzL.nil _)))) ?_
 (repeat (with_reducible first|(simp (config:={ maxSteps:=3000000 }) (disch:=omega) only [go_sem])))
 (first|refine call_f (hab) rfl ?_|refine callQ_f (hab) rfl ?_|refine callHK_f (hab) rfl ?_|refine callH_f (hab) rfl ?_)
 (repeat (first|(with_reducible first|refine W_seq fun K hK=>?_|refine J_region ?_ |(refine Kont.go (by assumption) ?_)|(simp (config:={ maxSteps:=3000000 }) (disch:=omega) only [go_sem,↓reduceIte,Nat.reduceAdd]))|refine And.intro (by omega) ?_))
 refine call_u (callU_fz (q:=3) hc2 rfl (FrzL.cons (.f _) (FrzL.cons (.nil _) (FrzL.cons (fz_one rfl) (FrzL.nil _))))) ?_
 (repeat (first|(with_reducible first|(simp (config:={ maxSteps:=3000000 }) (disch:=omega) only [go_sem,↓reduceIte,Nat.reduceAdd]))|refine And.intro (by omega) ?_))
 refine call_fl hp2 flat_pr (FrzL.cons (.f _) (FrzL.cons (fz_one rfl) (FrzL.cons (.f _) (FrzL.cons (.nil _) (FrzL.nil _))))) ?_
 (repeat (with_reducible first|refine W_seq fun K hK=>?_|refine J_region ?_ |(refine Kont.go (by assumption) ?_)|(simp (config:={ maxSteps:=3000000 }) (disch:=omega) only [go_sem])))
 refine call_ff (vs:=[_,_,_]) hc3 (FrzL.cons (.f _) (FrzL.cons (.nil _) (FrzL.cons (.f _) (FrzL.nil _)))) ?_
 (repeat (first|(with_reducible first|(simp (config:={ maxSteps:=3000000 }) (disch:=omega) only [go_sem,↓reduceIte,Nat.reduceAdd]))|refine And.intro (by omega) ?_))
 refine call_fl hp3 flat_pr (FrzL.cons (.f _) (FrzL.cons (.f _) (FrzL.cons (fz_one rfl) (FrzL.cons (fz_one rfl) (FrzL.nil _))))) ?_
 cases a1<;>cases a2<;>cases a3<;>((repeat (with_reducible first|refine W_seq fun K hK=>?_|refine J_ret ?_|refine J_region ?_ |(refine Kont.go (by assumption) ?_)|(simp (config:={ maxSteps:=3000000 }) (disch:=omega) only [go_sem])));rw [hbv];exact ⟨_,rfl,FrzL.fs [_,_]⟩)
end Go.Proofs.YtgjnbcfencallaaDoor
set_option linter.unusedVariables false
set_option linter.unusedSimpArgs false
namespace Go.Proofs.YtgjnbcfencallaaDoor
open Go Go.RowKit
def aendMO (P:Program) (rvs:List ResultVar) (e:TypeId) (sz k:Nat) (es:List FV):Exit→AS→Prop
 | .normal,s|.ret,s=>aresults P rvs s fun vs=>∃i,vs=[.own i sz 0 k]∧s.H[i]?=some (some ⟨e,sz,es.map .f⟩)
 | _,_=>False
theorem callU_MO {P:Program} {f:FuncId} {fn:Func} {c:Code} (hf:P.funcs[f]?=some fn) (hb:fn.body=some c) (hok:enterOk P f=true) {zs:List AV} {e:TypeId} {sz k:Nat} {es0 es:List FV} (hfl:∀x∈es,FlatF x)
  (h:∀X:Cx,X.rd=none→J X P c (aendMO P fn.results.toList e sz k es) (ast0M zs [⟨e,sz,es0.map .f⟩] fn.ntmps)) {H:AH} {q:Nat} {xs:List AV} (hq:H[q]?=some (some ⟨e,sz,es0.map .f⟩)) (hxz:xs.length=zs.length)
  (hz:∀(j:Nat) x z,xs[j]?=some x→zs[j]?=some z→(z.ren (fun _=>q)=x∧z.lt0 1=true)∨∃y,z=.f y∧Frz (H.set q none) x y) :
  CallU P f xs H (fun u G=>u=.own H.length sz 0 k∧G=H.set q none++[some ⟨e,sz,es.map .f⟩]):=by
 refine ⟨hok,fun X w F loc t a ys R hys=>?_⟩
 have hqN:=hlt hq
 have hdead:∀(r:Nat) p,(H.set q none)[r]?=some (some p)→r≠q∧H[r]?=some (some p):=fun r p h=>by
  by_cases e:r=q
  ·subst e;rw [List.getElem?_set_self hqN] at h;cases h
  ·rw [List.getElem?_set_ne (Ne.symm e)] at h;exact ⟨e,h⟩
 have R1:RelF X F loc ⟨t,H.set q none⟩ a w:=R.drop (by simp) fun r p h=>(hdead r p h).2
 have hnl:¬Live ⟨t,H.set q none⟩ loc (loc q).1:=fun ⟨r,p,hr,e⟩=>(hdead r p hr).1 (R.inj r q _ _ (hdead r p hr).2 hq e)
 obtain ⟨G,hG⟩:∃G:Nat→Prop,G=fun b=>F b∨Live ⟨t,H.set q none⟩ loc b:=⟨_,rfl⟩
 have hGlt:∀b,G b→b<w.heap.size:=fun b h=>by rw [hG] at h;exact R1.live_lt h
 have hGq:¬G (loc q).1:=fun h=>by rw [hG] at h;exact h.elim (R.nF q _ hq) hnl
 have hlen1:(H.set q none).length=H.length:=List.length_set ..
 have hrep:zs.length=ys.size∧∀(j:Nat) z,zs[j]?=some z→Rep w G (fun _=>loc q) [AO.mk e sz (es0.map .f)].length z (ys.getD j undef):=by
  refine ⟨by rw [←hxz];exact hys.1,fun j z hj=>?_⟩
  have hjl:=glt hj
  have hxj:=List.getElem?_eq_getElem (l:=xs) (i:=j) (by omega)
  have hr:=hys.2 j _ hxj
  rcases hz j _ z hxj hj with ⟨h1,h2⟩|⟨y,rfl,hy⟩
  ·rw [←h1] at hr
   have:=hr.ren0 (g:=fun _=>q) h2
   exact this.mono (fun b hb=>by rw [hG];exact .inl hb) (fun _ _ _ _ h=>h) (Nat.le_refl _) (fun _ _=>rfl)
  ·have:=(hy.rep R1).1 _ (by show Rep w F loc (H.set q none).length _ _;rw [hlen1];exact hr)
   exact .f _ _ (this.mono (fun b hb=>by rw [hG];exact hb) fun _ _ _ _ h=>h)
 have hobj:∀(i:Nat) o,[AO.mk e sz (es0.map .f)][i]?=some o→ObjAt w G (fun _=>loc q) [AO.mk e sz (es0.map .f)].length i o∧¬G (loc q).1:=fun i o hi=>by
  cases i with
  | zero =>
   cases hi
   obtain ⟨hu,vs,hv,hvs,hc⟩:=R.obj q _ hq
   refine ⟨⟨hu,vs,hv,hvs,fun j c hj=>?_⟩,hGq⟩
   obtain ⟨u,h1,h2⟩:=hc j c hj
   replace hj:(flat (es0.map AV.f))[j]?=some c:=hj
   rw [flat_f,List.getElem?_map] at hj
   cases hcj:(flatF es0)[j]? with
   | none=>rw [hcj] at hj;cases hj
   | some y =>
    rw [hcj] at hj
    cases hj
    cases h2 with|f _ _ h2=>exact ⟨u,h1,.f _ _ (h2.mono (fun b hb=>by rw [hG];exact .inl hb) fun _ _ _ _ h=>h)⟩
  | succ i=>simp at hi
 have hTab:TabW w∧∀t'∈tabs,∀(i:Nat) o,[AO.mk e sz (es0.map .f)][i]?=some o→((fun _=>loc q) i).1≠t'.1:=⟨R.tabW,fun t' ht i o _=>R.tabO t' ht q _ hq⟩
 let O:Nat→Prop:=fun b=>∃(i:Nat) (o:AO),[AO.mk e sz (es0.map .f)][i]?=some o∧((fun (_:Nat)=>loc q) i).1=b
 have hO:∀b,O b→b=(loc q).1:=fun b ⟨i,o,_,e⟩=>e.symm
 refine calls_of_J (X:=⟨w,G,O,none,fun _=>false,#[],fun _=>none⟩) rfl hf hb (h ⟨w,G,O,none,fun _=>false,#[],fun _=>none⟩ rfl (okC_none (fun _=>rfl) _) _ w (rel0M hTab hGlt hrep hobj (fun i i' o o' hi hi' _=>by
  have h1:=glt hi;have h2:=glt hi';simp at h1 h2;omega))) ?_
 rintro ex a' w' s F' loc' hend R'
 have fin:(aresults P fn.results.toList s fun vs=>∃i,vs=[.own i sz 0 k]∧s.H[i]?=some (some ⟨e,sz,es.map .f⟩))→∃v,(results fn a'.tmps).run P w'=.ok v w'∧∃y F2 loc2 u H',(u=.own H.length sz 0 k∧H'=H.set q none++[some ⟨e,sz,es.map .f⟩])∧Ending.returned v=.returned y∧RelF X F2 loc2 ⟨t,H'⟩ a w'∧Rep w' F2 loc2 H'.length u y:=by
  intro hend
  obtain ⟨vs,us,⟨i,rfl,hi⟩,hl,hrs,hrun,hlen⟩:=aresults_sound R' _ hend
  obtain ⟨u,rfl⟩:∃u,us=[u]:=by
   match us,hl with
   | [u],_=>exact ⟨u,rfl⟩
  have hr:=hrs 0 _ u rfl rfl
  obtain ⟨huni,vs,hv,hvs,hc⟩:=R'.obj i _ hi
  cases hr with
  | own _ _ _ _ cap hri hk hm hs =>
   have hbel:=R'.below
   have R2:RelF X F loc ⟨t,H.set q none⟩ a w':=R1.stepO (F':=F) (O:=O) (fun b hb=>by rw [hO b hb];exact (R.new q _ hq).symm) (fun b hf hb=>by rw [hO b hb] at hf;exact R.nF q _ hq hf) (fun r p hp hb=>hnl ⟨r,p,hp,hO _ hb⟩) hbel (fun _ h=>h) (fun b hb=>Nat.lt_of_lt_of_le (R.hF b hb) hbel.size) (fun b h=>.inl h)
   have hnew:w.heap.size≤(loc' i).1∨(loc' i).1=(loc q).1:=(R'.new i _ hi).imp id fun h=>hO _ h
   have R3:=R2.adopt (g:=(loc' i).1) (o:=⟨e,sz,es.map .f⟩) (vs:=vs) (hnew.elim (fun h=>.inl (Nat.le_trans R.below.size h)) fun h=>by rw [h];exact R.new q _ hq)
    (fun hf=>hnew.elim (fun h=>by have:=R.hF _ hf;omega) fun h=>R.nF q _ hq (h▸hf)) (fun hl=>hnew.elim (fun h=>by have:=R1.live_lt (.inr hl);omega) fun h=>hnl (h▸hl)) huni hv (fun j c hj=>by
     obtain ⟨y,h1,h2⟩:=hc j c hj
     replace hj:(flat (es.map AV.f))[j]?=some c:=hj
     rw [flat_f,List.getElem?_map] at hj
     cases hcj:(flatF es)[j]? with
     | none=>rw [hcj] at hj;cases hj
     | some d =>
      rw [hcj] at hj
      cases hj
      obtain ⟨x,hx,hdx⟩:=List.mem_flatMap.1 (List.mem_of_getElem? hcj)
      have hdf:FlatF d:=by
       have hxf:=hfl x hx
       cases hxf with
       | v y=>simp only [FV.cells,List.mem_singleton] at hdx;subst hdx;exact .v y
       | agg cs hcs=>obtain ⟨m,hm⟩:=List.getElem?_of_mem (show d∈cs from hdx);exact hcs m d hm
       | tup cs hcs=>simp only [FV.cells,List.mem_singleton] at hdx;subst hdx;exact .tup cs hcs
      cases h2 with|f _ _ h2=>exact ⟨y,h1,.f _ _ (hdf.rep h2)⟩)
   refine ⟨_,results_run fn a'.tmps _ hrun,_,F,_,_,_,⟨rfl,rfl⟩,rfl,R3,?_⟩
   have:=Rep.own (w:=w') (F:=F) (loc:=ext loc (H.set q none).length ((loc' i).1,vs.size)) (N:=(H.set q none++[some (⟨e,sz,es.map AV.f⟩:AO)]).length) H.length sz 0 k cap (by simp) hk hm (by rw [show H.length=(H.set q none).length from hlen1.symm,ext_self,hvs,hs])
   rw [show ext loc (H.set q none).length ((loc' i).1,vs.size) H.length=((loc' i).1,vs.size) by rw [show H.length=(H.set q none).length from hlen1.symm,ext_self]] at this
   exact this
 cases ex with
 | normal=>exact fin hend
 | ret=>exact fin hend
 | _=>exact hend.elim
end Go.Proofs.YtgjnbcfencallaaDoor
set_option linter.unusedVariables false
set_option linter.unusedSimpArgs false
namespace Go.Proofs.YtgjnbcfencallaaDoor
open Go Go.RowKit
set_option maxRecDepth 100000 in
theorem indexFuncZ_w {l:List Int} {g:FuncId} {b:List FV} {p:Int→Bool} (hl:l.length≤1000) (hg:∀v∈l,Good Tryd.prog g ([]++[I v]++b) (Bo (p v))) :
  Good Tryd.prog 76 [ints l,.fn g [] b] (I (frsI (fun i=>p (l.getD i 0)) l.length)):=by
 refine good_of Tryd.func76 rfl (by kernel_rfl) fun X hO hrd=>?_;rw [Tryd.ntmps76,Tryd.results76];simp only [ast0,List.map_cons,List.map_nil,List.length_cons,List.length_nil,Nat.reduceAdd,Nat.reduceSub,List.replicate_succ,List.replicate_zero,List.cons_append,List.nil_append]
 (repeat (with_reducible first|refine W_seq fun K hK=>?_|refine J_block ?_|refine J_region ?_ |(refine Kont.go (by assumption) ?_)|(simp (config:={ maxSteps:=3000000 }) (disch:=omega) only [go_sem,List.length_map])))
 refine W_loop [4,5,8,9,10,11,12,13,14,15,16,17,18] (fun x:Nat=>[(8,.f (I x))]) (fun x:Nat=>[]) (fun x:Nat=>x≤l.length∧∀j,j<x→p (l.getD j 0)=false) (fun x:Nat=>l.length-x) (0) (⟨Nat.zero_le _,fun j h=>by omega⟩) (by refine weak_of ?_ ?_<;>simp (disch:=omega) only [go_sem]<;>first|rfl|exact ⟨rfl,rfl⟩|exact Or.inl rfl|exact ⟨Or.inl rfl,Or.inl rfl⟩|trivial|assumption|omega|(symm;assumption)|((repeat' apply And.intro)<;>first|rfl|omega|trivial|exact .inl rfl|exact .inr ⟨rfl,rfl⟩|exact .inr rfl|(right;symm;assumption)|(symm;assumption)|assumption)) ?_
 rintro i ⟨hi,hp⟩
 simp only [go_sem]
 (repeat (with_reducible first|refine W_seq fun K hK=>?_|refine J_region ?_ |refine J_c ?_|(refine Kont.go (by assumption) ?_)|(simp (config:={ maxSteps:=3000000 }) (disch:=omega) only [go_sem])))
 refine Jc_if (fun hlt=>?_) (fun hlt=>?_)<;>try simp only [decide_eq_true_eq,decide_eq_false_iff_not] at hlt
 ·have hx:=map_get I l hlt
  have g3:l.getD i 0=l[i]:=lget_lt l 0 hlt
  have hc:=hg l[i] (List.getElem_mem _)
  (repeat (with_reducible first|refine W_seq fun K hK=>?_|refine J_block ?_|refine J_skip ?_|refine J_region ?_ |(refine Kont.go (by assumption) ?_)|(simp (config:={ maxSteps:=3000000 }) (disch:=omega) only [go_sem,↓reduceIte,hx])))
  refine call_f hc (by simp) ?_
  (repeat (with_reducible first|refine J_c ?_|(refine Kont.go (by assumption) ?_)|(simp (config:={ maxSteps:=3000000 }) (disch:=omega) only [go_sem])))
  refine Jc_if (fun hpi=>?_) (fun hpi=>?_)<;>try simp only [decide_eq_true_eq,decide_eq_false_iff_not,Bool.not_eq_true',Bool.not_eq_false',Bool.not_true,Bool.not_false,Int.ofNat_lt,Int.ofNat_le,Int.natCast_inj,Classical.not_not] at hpi
  ·have e:frsI (fun i=>p (l.getD i 0)) l.length=i:=frsI_some hlt (by rw [g3];exact hpi) hp
   (repeat (with_reducible first|refine W_seq fun K hK=>?_|refine J_ret ?_|refine J_region ?_ |(refine Kont.go (by assumption) ?_)|(simp (config:={ maxSteps:=3000000 }) (disch:=omega) only [go_sem])))
   rw [e]
   exact Frz.f _
  ·have hpf:p l[i]=false:=by simpa using hpi
   (repeat (with_reducible first|refine J_skip ?_|refine J_region ?_ |(refine Kont.go (by assumption) ?_)|(simp (config:={ maxSteps:=3000000 }) (disch:=omega) only [go_sem])))
   refine ⟨i+1,⟨by omega,upto_next (p:=fun j=>p (l.getD j 0)=false) hp (by rw [g3];exact hpf)⟩,by omega,weak_of ?_ ?_⟩<;>(try simp (disch:=omega) only [go_sem])<;>(try first|done|omega|rfl|exact ⟨rfl,rfl⟩|trivial)
 ·have he:i=l.length:=by omega
  subst he
  have e:frsI (fun i=>p (l.getD i 0)) l.length=-1:=frsI_none hp
  (repeat (with_reducible first|refine W_seq fun K hK=>?_|refine J_exit ?_|refine J_ret ?_|refine J_region ?_ |(refine Kont.go (by assumption) ?_)|(simp (config:={ maxSteps:=3000000 }) (disch:=omega) only [go_sem,↓reduceIte,Int.reduceNeg])))
  rw [e]
  exact Frz.f _
theorem aClear_go {T:TI} {H:AH} {r n off:Nat} {k:AH→Prop} (z:Value) (o:AO) (h1:T.size=1) (hn:0<n) (hz:T.zero=some (.v z)) (hzc:z.cells=#[z]) (hzo:z.oneCell'=true) (ho:H[r]?=some (some o)) (hos:o.sz=1) (hle:off+n≤o.es.length)
  (hk:k (H.set r (some ⟨o.e,1,o.es.take off++(List.replicate n (.f (.v z))++o.es.drop (off+n))⟩))):aClear T H (.own r 1 off n) k:=⟨h1,rfl,hn,z,hz,hzc,hzo,o,ho,hos,hle,hk⟩
def kepT (p:Int→Bool) (l:List Int):List Int:=l.filter fun v=>!p v
def delL (p:Int→Bool) (l:List Int):List Int:=kepT p l++List.replicate (l.length-(kepT p l).length) 0
theorem kepT_len {p:Int→Bool} {l:List Int}:(kepT p l).length≤l.length:=List.length_filter_le _ _
theorem kepT_all {p:Int→Bool} {l:List Int} (h:∀j,j<l.length→p (l.getD j 0)=false):kepT p l=l:=List.filter_eq_self.2 fun v hv=>by
 obtain ⟨j,hj,rfl⟩:=List.getElem_of_mem hv
 have:=h j hj
 rw [lget_lt l 0 hj] at this
 rw [this];rfl
theorem kepT_next {p:Int→Bool} {l:List Int} {j:Nat} (h:j<l.length):kepT p (l.take (j+1))=kepT p (l.take j)++if p l[j]=true then [] else [l[j]]:=by
 unfold kepT
 rw [List.take_add_one,List.getElem?_eq_getElem h,List.filter_append]
 congr 1
 cases e:p l[j]<;>simp [e]
theorem first_or (p:Nat→Bool) (n:Nat):(∀j,j<n→p j=false)∨∃i,i<n∧p i=true∧∀j,j<i→p j=false:=by
 induction n with
 | zero=>exact .inl fun j h=>by omega
 | succ n ih =>
  rcases ih with h|⟨i,h1,h2,h3⟩
  ·cases hn:p n with
   | true=>exact .inr ⟨n,by omega,hn,h⟩
   | false=>exact .inl fun j hj=>(Nat.lt_or_eq_of_le (Nat.le_of_lt_succ hj)).elim (h j) fun e=>by rw [e];exact hn
  ·exact .inr ⟨i,by omega,h2,h3⟩
set_option maxRecDepth 100000 in
set_option maxHeartbeats 4000000 in
theorem deleteFunc_u {H:AH} {q:Nat} {l:List Int} {g:FuncId} {cs:List FV} {xf:AV} {p:Int→Bool} (hl:l.length≤1000) (hq:H[q]?=some (some ⟨3,1,(l.map I).map .f⟩)) (hx:Frz (H.set q none) xf (.fn g [] cs))
  (hg:∀v∈l,Good Tryd.prog g ([]++[I v]++cs) (Bo (p v))) :
  CallU Tryd.prog 61 [.own q 1 0 l.length,xf] H (fun u G=>u=.own H.length 1 0 (kepT p l).length∧G=H.set q none++[some ⟨3,1,((delL p l).map I).map .f⟩]):=by
 refine callU_MO (zs:=[.own 0 1 0 l.length,.f (.fn g [] cs)]) (es0:=l.map I) (e:=3) (sz:=1) (k:=(kepT p l).length) (es:=(delL p l).map I) Tryd.func61 rfl (by kernel_rfl) (fun x hx=>by
  obtain ⟨z,_,rfl⟩:=List.mem_map.1 hx;exact .v _) (fun X hrd=>?_) hq rfl (fun j x z hxj hzj=>?_)
 ·have hif:=indexFuncZ_w hl hg
  have hfz:Frz [some (⟨3,1,(l.map I).map AV.f⟩:AO)] (.own 0 1 0 l.length) (ints l):=Frz.own0 rfl (by rw [List.length_map])
  rw [Tryd.ntmps61,Tryd.results61];simp only [ast0M,List.map_cons,List.map_nil,List.length_cons,List.length_nil,Nat.reduceAdd,Nat.reduceSub,List.replicate_succ,List.replicate_zero,List.cons_append,List.nil_append]
  rcases first_or (fun i=>p (l.getD i 0)) l.length with hno|⟨i,hil,hpi,hlo⟩
  ·rw [frsI_none hno] at hif
   have hk:=kepT_all hno
   have hd:delL p l=l:=by unfold delL;rw [hk,Nat.sub_self];simp
   rw [hd,hk]
   (repeat (with_reducible first|refine W_seq fun K hK=>?_|refine J_region ?_ |(refine Kont.go (by assumption) ?_)|(simp (config:={ maxSteps:=3000000 }) (disch:=omega) only [go_sem])))
   refine call_fl hif (.v _) (FrzL.cons hfz (FrzL.cons (.f _) (FrzL.nil _))) ?_
   (repeat (with_reducible first|refine W_seq fun K hK=>?_|refine J_ret ?_|refine J_region ?_ |refine J_c ?_|refine Jc_true ?_|(refine Kont.go (by assumption) ?_)|(simp (config:={ maxSteps:=3000000 }) (disch:=omega) only [go_sem,Int.reduceNeg])))
   exact ⟨0,rfl,rfl⟩
  ·rw [frsI_some hil hpi hlo] at hif
   have hi0:¬(i:Int)=-1:=by omega
   (repeat (with_reducible first|refine W_seq fun K hK=>?_|refine J_region ?_ |(refine Kont.go (by assumption) ?_)|(simp (config:={ maxSteps:=3000000 }) (disch:=omega) only [go_sem])))
   refine call_fl hif (.v _) (FrzL.cons hfz (FrzL.cons (.f _) (FrzL.nil _))) ?_
   (repeat (with_reducible first|refine W_seq fun K hK=>?_|refine J_block ?_|refine J_skip ?_|refine J_region ?_ |refine J_c ?_|refine Jc_false ?_|(refine Kont.go (by assumption) ?_)|(simp (config:={ maxSteps:=3000000 }) (disch:=omega) only [go_sem,Int.reduceNeg,hi0])))
   have hkt:kepT p (l.take i)=l.take i:=by
    refine (kepT_all fun j hj=>?_).trans rfl
    rw [List.length_take] at hj
    have:=hlo j (by omega)
    rw [List.getD_eq_getElem?_getD,List.getElem?_take,if_pos (by omega),←List.getD_eq_getElem?_getD];exact this
   have g3:l.getD i 0=l[i]:=lget_lt l 0 hil
   rw [g3] at hpi
   have hk1:kepT p (l.take (i+1))=l.take i:=by rw [kepT_next hil,if_pos hpi,List.append_nil,hkt]
   have hE0:l=kepT p (l.take (i+1))++([l[i]]++l.drop (i+1)):=by
    rw [hk1]
    have:=List.take_append_drop i l
    rw [List.drop_eq_getElem_cons hil] at this
    exact this.symm
   have hI0:I (i:Int)=I ((kepT p (l.take (i+1))).length:Nat):=by rw [hk1,List.length_take,Nat.min_eq_left (by omega)]
   have hI1:(((kepT p (l.take (i+1))).length:Nat):Int)=(i:Int):=by rw [hk1,List.length_take,Nat.min_eq_left (by omega)]
   have hO0:(l.map I).map AV.f=((kepT p (l.take (i+1))++([l[i]]++l.drop (i+1))).map I).map AV.f:=by rw [←hE0]
   refine W_loop [5,6,7,16,17,18,19,20,21,22,23,24,25,26,27,28,29,30,31,32,33,34,35] (fun x:Nat × List Int=>[(5,.f (I ((kepT p (l.take x.1)).length:Nat))),(6,.f (I (x.1:Nat)))]) (fun x:Nat × List Int=>[some ⟨3,1,((kepT p (l.take x.1)++(x.2++l.drop x.1)).map I).map .f⟩]) (fun x:Nat × List Int=>x.1≤l.length∧0<x.2.length∧(kepT p (l.take x.1)).length+x.2.length=x.1) (fun x:Nat × List Int=>l.length-x.1) ((i+1,[l[i]])) (⟨by show i+1≤_;omega,by simp,by rw [hk1,List.length_take];show min i l.length+1=i+1;omega⟩) (by refine weak_of ?_ ?_<;>simp (disch:=omega) only [go_sem]<;>first|rfl|exact ⟨rfl,rfl⟩|exact Or.inl rfl|exact ⟨Or.inl rfl,Or.inl rfl⟩|trivial|assumption|omega|(symm;assumption)|((repeat' apply And.intro)<;>first|rfl|omega|trivial|exact .inl rfl|exact .inr ⟨rfl,rfl⟩|exact .inr rfl|(right;symm;assumption)|(symm;assumption)|assumption)) ?_
   rintro ⟨j,junk⟩ ⟨h1,h2,h3⟩
   replace h1:j≤l.length:=h1
   replace h2:0<junk.length:=h2
   replace h3:(kepT p (l.take j)).length+junk.length=j:=h3
   obtain ⟨K0,hK0⟩:∃K0,K0=kepT p (l.take j):=⟨_,rfl⟩
   have hEl:((K0++(junk++l.drop j)).map I).length=l.length:=by rw [List.length_map,List.length_append,List.length_append,List.length_drop];rw [←hK0] at h3;omega
   simp only [go_sem]
   rw [←hK0] at h3 ⊢
   (repeat (with_reducible first|refine W_seq fun K hK=>?_|refine J_region ?_ |refine J_c ?_|(refine Kont.go (by assumption) ?_)|(simp (config:={ maxSteps:=3000000 }) (disch:=omega) only [go_sem])))
   refine Jc_if (fun hjl=>?_) (fun hjl=>?_)<;>try simp only [decide_eq_true_eq,decide_eq_false_iff_not] at hjl
   ·have hkn:=kepT_next (p:=p) hjl
    rw [←hK0] at hkn
    have hdr:l.drop j=l[j]::l.drop (j+1):=List.drop_eq_getElem_cons hjl
    have gj:(((K0++(junk++l.drop j)).map I).map AV.f)[j]?=some (.f (I l[j])):=by
     rw [List.getElem?_map,List.getElem?_map,List.getElem?_append_right (by omega),List.getElem?_append_right (by omega),show j-K0.length-junk.length=0 by omega,hdr];rfl
    have hc:=hg l[j] (List.getElem_mem _)
    (repeat (first|(with_reducible first|refine W_seq fun K hK=>?_|refine J_block ?_|refine J_skip ?_|refine J_region ?_ |(refine Kont.go (by assumption) ?_)|(simp (config:={ maxSteps:=3000000 }) (disch:=omega) only [go_sem,↓reduceIte,gj]))|refine And.intro (by omega) ?_))
    refine call_f hc (by simp) ?_
    cases hp:p l[j] with
    | true =>
     rw [if_pos hp,List.append_nil] at hkn
     have hEn:K0++(junk++l.drop j)=kepT p (l.take (j+1))++((junk++[l[j]])++l.drop (j+1)):=by rw [hkn,hdr];simp
     have hIn:I (K0.length:Nat)=I ((kepT p (l.take (j+1))).length:Nat):=by rw [hkn]
     (repeat (with_reducible first|refine J_skip ?_|refine J_region ?_ |refine J_c ?_|refine Jc_false ?_|(refine Kont.go (by assumption) ?_)|(simp (config:={ maxSteps:=3000000 }) (disch:=omega) only [go_sem])))
     rw [hEn]
     refine ⟨(j+1,junk++[l[j]]),⟨by show j+1≤_;omega,by simp,by rw [hkn,List.length_append];show _+(junk.length+1)=j+1;omega⟩,by show l.length-(j+1)<l.length-j;omega,weak_of ?_ ?_⟩<;>(try simp (disch:=omega) only [go_sem,hIn])<;>(try first|done|omega|rfl|exact ⟨rfl,rfl⟩|trivial)
    | false =>
     rw [if_neg (by rw [hp];decide)] at hkn
     obtain ⟨x0,junk',rfl⟩:∃x0 junk',junk=x0::junk':=by
      cases junk with
      | nil=>simp at h2
      | cons x0 junk'=>exact ⟨_,_,rfl⟩
     have hKl:K0.length<l.length:=by simp only [List.length_cons] at h3;omega
     have hset:(((K0++x0::(junk'++l.drop j)).map I).map AV.f).set K0.length (.f (I l[j]))=((kepT p (l.take (j+1))++((junk'++[l[j]])++l.drop (j+1))).map I).map AV.f:=by
      rw [←List.map_set,←List.map_set,hkn,hdr]
      congr 2
      rw [List.set_append_right _ _ (Nat.le_refl _),Nat.sub_self]
      simp
     have gk:∀y,(((K0++x0::(junk'++l.drop j)).map I).map AV.f)[K0.length]?=some y→True:=fun _ _=>trivial
     have gK:(((K0++x0::(junk'++l.drop j)).map I).map AV.f)[K0.length]?=some (.f (I x0)):=by
      rw [List.getElem?_map,List.getElem?_map,List.getElem?_append_right (Nat.le_refl _),Nat.sub_self];rfl
     have hIn:I ((K0.length:Int)+1)=I ((kepT p (l.take (j+1))).length:Nat):=by rw [hkn,List.length_append];rfl
     (repeat (with_reducible first|refine W_seq fun K hK=>?_|refine J_region ?_ |refine J_c ?_|refine Jc_true ?_|(refine Kont.go (by assumption) ?_)|(simp (config:={ maxSteps:=3000000 }) (disch:=omega) only [go_sem,↓reduceIte,gK,hset,hKl])))
     refine ⟨(j+1,junk'++[l[j]]),⟨by show j+1≤_;omega,by simp,by rw [hkn,List.length_append,List.length_append];simp only [List.length_cons] at h3;show K0.length+1+(junk'.length+1)=j+1;omega⟩,by show l.length-(j+1)<l.length-j;omega,weak_of ?_ ?_⟩<;>(try simp (disch:=omega) only [go_sem,hIn])<;>(try first|done|omega|rfl|exact ⟨rfl,rfl⟩|trivial)
   ·have he:j=l.length:=by omega
    have hKe:K0=kepT p l:=by rw [hK0,he,List.take_length]
    have hdn:l.drop j=[]:=by rw [he];exact List.drop_length
    have hKl:K0.length<l.length:=by omega
    rw [hdn,List.append_nil] at hEl ⊢
    rw [←hKe]
    (repeat (first|(with_reducible first|refine W_seq fun K hK=>?_|refine J_exit ?_|refine J_region ?_ |(refine Kont.go (by assumption) ?_)|(simp (config:={ maxSteps:=3000000 }) (disch:=omega) only [go_sem,↓reduceIte,hKl]))|refine And.intro (by omega) ?_))
    refine aClear_go (.int .i64 0) _ rfl (by omega) rfl rfl rfl rfl rfl (by simp only [List.length_map,List.length_append];omega) ?_
    have hfin:(((K0++junk).map I).map AV.f).take K0.length++(List.replicate (l.length-K0.length) (AV.f (.v (.int .i64 0)))++(((K0++junk).map I).map AV.f).drop (K0.length+(l.length-K0.length)))=((delL p l).map I).map AV.f:=by
     unfold delL
     rw [←hKe,List.drop_eq_nil_of_le (by simp only [List.length_map,List.length_append];omega),List.append_nil,List.map_append,List.map_append,List.take_append_of_le_length (by simp),List.take_of_length_le (by simp)]
     simp
    have hsub:((l.length:Int)-(K0.length:Int)).toNat=l.length-K0.length:=by omega
    have hsub2:((K0.length:Int)-0).toNat=K0.length:=by omega
    (repeat (first|(with_reducible first|refine W_seq fun K hK=>?_|refine J_ret ?_|refine J_region ?_ |(refine Kont.go (by assumption) ?_)|(simp (config:={ maxSteps:=3000000 }) (disch:=omega) only [go_sem,↓reduceIte,Int.reduceLE,hsub,hsub2,hfin]))|refine And.intro (by omega) ?_))
    exact ⟨0,by rw [←hKe];rfl,rfl⟩
 ·cases j with
  | zero=>cases hxj;cases hzj;exact .inl ⟨rfl,rfl⟩
  | succ j =>
   cases j with
   | zero=>cases hxj;cases hzj;exact .inr ⟨_,rfl,hx⟩
   | succ j=>simp at hxj
end Go.Proofs.YtgjnbcfencallaaDoor
