/- hidden.Unroll: walked. Conditions: numbers of 1000 bytes each. -/
import Derived.Test.YtfjgijkhmhhkdaaGreatDoorYB24
import Derived.Test.YtfjgijkhmhhkdaaGreatDoorYRUr
import Derived.Test.YtfjgijkhmhhkdaaGreatDoorYB17
set_option linter.unusedVariables false
set_option linter.unusedSimpArgs false
namespace Go.Proofs.YtfjgijkhmhhkdaaGreatDoor
open Go Go.RowKit
-- NOOWN
def rw2 (f m s:List FV) (i:Nat):List FV:=[.fz 3 (if i=0 then f else m),.fz 3 s]
def rwT (f m s:List FV) (t:Nat):List FV:=(List.range t).flatMap (rw2 f m s)
theorem rwT_next {f m s:List FV} {t:Nat}:rwT f m s t++rw2 f m s t=rwT f m s (t+1):=by simp [rwT,List.range_succ]
theorem rwT_len {f m s:List FV} {t:Nat}:(rwT f m s t).length=2*t:=by induction t with|zero=>rfl|succ t ih=>rw [←rwT_next,List.length_append,ih];rfl
def uA (t:Nat):AV:=if t=0 then .f (.agg [nilV,nilV,nilV]) else ntA (2*t) 3 4 5
theorem concat_g (R:List (List FV)) (hR:R.length≤1000) (h0:1≤R.flatten.length) (hn:R.flatten.length≤1000) (hf:∀x∈R.flatten,FlatF x) :
  Good Tryz.prog 53 [.fz 1 (R.map (FV.fz 3))] (.fz 3 R.flatten):=by
 have h:=concat_w R hR h0 hn hf
 have e:RV.own 30 3 R.flatten=rvG 30 3 R.flatten:=by unfold rvG;rw [if_neg (fun e=>by rw [e] at h0;simp at h0)]
 rw [e] at h
 exact (freshO h).good (by kernel_rfl)
theorem frs_flat {k:Nat} {xs:List FV} {l:List Rat} (h:Frs k xs l):∀x∈xs,FlatF x:=fun x hx=>by
 obtain ⟨i,hi,rfl⟩:=List.getElem_of_mem hx
 have:=h.len
 obtain ⟨g,n,d,e,_⟩:=h.at3 (i:=i) (by omega)
 rw [List.getElem?_eq_getElem hi] at e
 rw [Option.some.inj e]
 exact .agg _ (fun j c hj=>by
  rcases j with _|_|_|j<;>first|(cases hj;exact .v _)|simp at hj)
theorem frm_rows {k:Nat} {ms:List FV} {l:List (List Rat)} (h:FrM k ms l):∃R:List (List FV),ms=R.map (FV.fz 3)∧R.length=l.length∧∀i (hi:i<l.length),∃xs,R[i]?=some xs∧Frs k xs l[i]:=by
 refine ⟨ms.map fun x=>match x with|.fz _ xs=>xs|_=>[],?_,by rw [List.length_map,h.len],fun i hi=>?_⟩
 ·apply List.ext_getElem?
  intro i
  rw [List.getElem?_map,List.getElem?_map]
  by_cases hi:i<l.length
  ·obtain ⟨xs,h1,_⟩:=h.at hi
   rw [h1];rfl
  ·rw [List.getElem?_eq_none (by rw [h.len];omega)];rfl
 ·obtain ⟨xs,h1,h2⟩:=h.at hi
  exact ⟨xs,by rw [List.getElem?_map,h1];rfl,h2⟩
theorem rows_flat {k:Nat} {l:List (List Rat)}:∀{R:List (List FV)},R.length=l.length→(∀i (hi:i<l.length),∃xs,R[i]?=some xs∧Frs k xs l[i])→Frs k R.flatten l.flatten:=by
 induction l with
 | nil=>intro R h _;have:R=[]:=List.length_eq_zero_iff.1 h;subst this;exact ⟨rfl,fun i q hi=>by simp at hi⟩
 | cons q l ih =>
  intro R h hr
  cases R with
  | nil=>simp at h
  | cons r R =>
   obtain ⟨xs,h1,h2⟩:=hr 0 (by simp)
   cases h1
   have h3:=ih (R:=R) (by simpa using h) fun i hi=>by
    obtain ⟨xs,h4,h5⟩:=hr (i+1) (by simp;omega)
    exact ⟨xs,h4,h5⟩
   refine ⟨by simp only [List.flatten_cons,List.length_append];rw [h2.len,h3.len];rfl,fun i y hi=>?_⟩
   have hl:r.length=q.length:=h2.len
   simp only [List.flatten_cons] at hi ⊢
   by_cases hq:i<q.length
   ·rw [List.getElem?_append_left hq] at hi
    rw [List.getElem?_append_left (by omega)]
    exact h2.get i y hi
   ·rw [List.getElem?_append_right (by omega)] at hi
    rw [List.getElem?_append_right (by omega),hl]
    exact h3.get _ y hi
theorem leftH_net {H:AH} {gl:List Nat} {p c:Nat} {e0 e1 e2 e3:TypeId} {l1 l2 l3:List FV} :
  leftH H gl p ⟨e0,3,[ntA c 1 2 3]⟩ [⟨e1,2,l1.map .f⟩,⟨e2,1,l2.map .f⟩,⟨e3,1,l3.map .f⟩]=(kllH H gl).set p (some ⟨e0,3,[ntA c H.length (H.length+1) (H.length+2)]⟩)++[some ⟨e1,2,l1.map .f⟩,some ⟨e2,1,l2.map .f⟩,some ⟨e3,1,l3.map .f⟩]:=by
 unfold leftH
 simp only [List.map_cons,List.map_nil,map_ren_f]
 rfl
theorem kllH_cons {H:AH} {a:Nat} {gl:List Nat}:kllH H (a::gl)=kllH (H.set a none) gl:=rfl
theorem kllH_nil {H:AH}:kllH H []=H:=rfl
theorem add0_g {n:Nat} {xs V1 P1 R1:List FV} {nm:ByteArray} (hn1:1≤n) (hn4:n≤4) (hR:Good Tryz.prog 53 [.fz 1 [.fz 3 xs]] (.fz 3 xs)) (h1:V1=[FV.agg [St nm,.fz 1 (vls n)]]) (h2:P1=[nilV]) (h3:R1=[FV.fz 3 xs]) :
  GoodP Tryz.prog 51 [.f (St nm),.f (I n),.f nilV,.own 1 1 0 1,.ptr 0 3 0 0] [⟨44,3,[.f (.agg [nilV,nilV,nilV])]⟩,⟨22,1,[.f (.fz 3 xs)]⟩] [4] (fun _=>3) []
   [some ⟨44,3,[ntA 1 1 2 3]⟩,some ⟨73,2,V1.map .f⟩,some ⟨26,1,P1.map .f⟩,some ⟨22,1,R1.map .f⟩]:=by
 subst h1 h2 h3
 exact add0_j hn1 hn4 hR
theorem add1_t {c n:Nat} {nm:ByteArray} {z:Int} {V Pa Ro V' Pa' Ro':List FV} {R:List (List FV)} (hc1:1≤c) (hc8:c≤8) (hn1:1≤n) (hn4:n≤4) (lv:V.length=c) (lp:Pa.length=c) (lr:Ro.length=c)
  (hR:Good Tryz.prog 53 [.fz 1 (R.map (FV.fz 3))] (.fz 3 R.flatten)) (h1:V'=V++[FV.agg [St nm,.fz 1 (vls n)]]) (h2:Pa'=Pa++[ints [z]]) (h3:Ro'=Ro++[FV.fz 3 R.flatten])
  {s:AS} {a b d e:Nat} (g0:s.H[2]?=some (some ⟨44,3,[ntA c a b d]⟩)) (ga:s.H[a]?=some (some ⟨73,2,V.map .f⟩)) (gb:s.H[b]?=some (some ⟨26,1,Pa.map .f⟩)) (gd:s.H[d]?=some (some ⟨22,1,Ro.map .f⟩)) (ge:s.H[e]?=some (some ⟨3,1,[.f (I z)]⟩))
  (hn:[2,a,b,d,e].Nodup) (not:s.t.all (AV.noOwn fun r=>r==2)=true) (noh:∀(r:Nat) o,s.H[r]?=some (some o)→r∉[2,a,b,d,e]→∀e∈flat o.es,e.noOwn (fun r=>r==2)=true) :
  CallT Tryz.prog 51 [.f (St nm),.f (I n),.own e 1 0 1,.f (.fz 1 (R.map (FV.fz 3))),.ptr 2 3 0 0] s (fun v s'=>v=.f (.v (.tuple #[]))∧s'=⟨s.t,(kllH s.H [2,a,b,d,e]).set 2 (some ⟨44,3,[ntA (c+1) s.H.length (s.H.length+1) (s.H.length+2)]⟩)++[some ⟨73,2,V'.map .f⟩,some ⟨26,1,Pa'.map .f⟩,some ⟨22,1,Ro'.map .f⟩]⟩):=by
 subst h1 h2 h3
 have hg:=add1_j (nm:=nm) (z:=z) hc1 hc8 hn1 hn4 lv lp lr hR
 have key:=callP_t (s:=s) (gl:=[2,a,b,d,e]) (o0:=⟨44,3,[ntA (c+1) 1 2 3]⟩) (Hr:=[⟨73,2,(V++[FV.agg [St nm,.fz 1 (vls n)]]).map .f⟩,⟨26,1,(Pa++[ints [z]]).map .f⟩,⟨22,1,(Ro++[FV.fz 3 R.flatten]).map .f⟩]) (xs:=[.f (St nm),.f (I n),.own e 1 0 1,.f (.fz 1 (R.map (FV.fz 3))),.ptr 2 3 0 0]) hg rfl rfl hn (by simp) (fun i o hi=>?_) rfl (fun z hz=>?_) not noh (fun o ho=>?_)
 ·rw [leftH_net] at key
  exact key
 ·match i,hi with
  | 0,hi=>cases hi;exact ⟨g0,fun e he=>by rw [List.mem_singleton.1 he];rfl⟩
  | 1,hi=>cases hi;exact ⟨by show _=some (some (AO.mk _ 2 ((V.map AV.f).map _)));rw [map_ren_f];exact ga,lt0_fs⟩
  | 2,hi=>cases hi;exact ⟨by show _=some (some (AO.mk _ 1 ((Pa.map AV.f).map _)));rw [map_ren_f];exact gb,lt0_fs⟩
  | 3,hi=>cases hi;exact ⟨by show _=some (some (AO.mk _ 1 ((Ro.map AV.f).map _)));rw [map_ren_f];exact gd,lt0_fs⟩
  | 4,hi=>cases hi;exact ⟨ge,lt0_fs (l:=[I z])⟩
  | i+5,hi=>simp at hi
 ·simp only [List.mem_cons,List.not_mem_nil,or_false] at hz
  rcases hz with rfl|rfl|rfl|rfl|rfl<;>rfl
 ·simp only [List.mem_cons,List.not_mem_nil,or_false] at ho
  rcases ho with rfl|rfl|rfl|rfl
  ·intro e he;rw [List.mem_singleton.1 he];rfl
  ·exact lt0_fs
  ·exact lt0_fs
  ·exact lt0_fs
theorem noh2 {x0 x1:AO} {l0 l1:List FV} {L:AH} {gl:List Nat} {q:Nat→Bool} (e0:x0.es=l0.map .f) (e1:x1.es=l1.map .f) (hL:∀(r:Nat) o,L[r]?=some (some o)→r+2∈gl):∀(r:Nat) o,(some x0::some x1::L)[r]?=some (some o)→r∉gl→∀e∈flat o.es,e.noOwn q=true:=fun r o hr hn=>by
 match r,hr with
 | 0,hr=>cases hr;rw [e0];exact flat_noOwn
 | 1,hr=>cases hr;rw [e1];exact flat_noOwn
 | r+2,hr=>exact absurd (hL r o hr) hn
theorem pairs_get {a b:Nat→FV}:∀{t j:Nat},j<t→((List.range t).flatMap fun i=>[a i,b i])[2*j]?=some (a j)∧((List.range t).flatMap fun i=>[a i,b i])[2*j+1]?=some (b j):=by
 intro t
 induction t with
 | zero=>intro j h;omega
 | succ t ih =>
  intro j hj
  have hl:((List.range t).flatMap fun i=>[a i,b i]).length=2*t:=by
   clear ih hj
   induction t with
   | zero=>rfl
   | succ t ih=>rw [List.range_succ,List.flatMap_append,List.length_append,ih];simp;omega
  rw [List.range_succ,List.flatMap_append]
  by_cases h:j<t
  ·rw [List.getElem?_append_left (by omega),List.getElem?_append_left (by omega)]
   exact ih h
  ·have:j=t:=by omega
   subst this
   rw [List.getElem?_append_right (by omega),List.getElem?_append_right (by omega),hl,Nat.sub_self,show 2*j+1-2*j=1 by omega]
   exact ⟨rfl,rfl⟩
theorem half (i:Nat):(∃j,i=2*j)∨∃j,i=2*j+1:=by
 rcases Nat.mod_two_eq_zero_or_one i with h|h
 ·exact .inl ⟨i/2,by omega⟩
 ·exact .inr ⟨i/2,by omega⟩
theorem pairs_all {a b:Nat→FV} {t:Nat} {p:Nat→FV→Prop} (ha:∀j,j<t→p (2*j) (a j)) (hb:∀j,j<t→p (2*j+1) (b j)):∀i,i<2*t→∃x,((List.range t).flatMap fun i=>[a i,b i])[i]?=some x∧p i x:=fun i hi=>by
 rcases half i with ⟨j,rfl⟩|⟨j,rfl⟩
 ·exact ⟨_,(pairs_get (by omega)).1,ha j (by omega)⟩
 ·exact ⟨_,(pairs_get (by omega)).2,hb j (by omega)⟩
theorem cloneS_g {n:Nat} (h1:1≤n) (hn:n≤1000):Good Tryz.prog 81 [.fz 1 (vls n)] (.fz 1 (vls n)):=by
 have e:vls n=(vlB n).map St:=vls_B n
 obtain ⟨z,l,hz⟩:∃z l,vlB n=z::l:=by
  cases hv:vlB n with
  | nil=>have:=congrArg List.length hv;simp [vlB] at this;omega
  | cons z l=>exact ⟨z,l,rfl⟩
 have hl:l.length≤1000:=by have:=congrArg List.length hz;simp [vlB] at this;omega
 rw [e,hz]
 have h:=cloneS_w z l hl
 rw [show RV.own 9 1 ((z::l).map St)=rvG 9 1 ((z::l).map St) from rfl] at h
 exact (freshO h).good (by kernel_rfl)
theorem cloneI_g (z:Int):Good Tryz.prog 82 [ints [z]] (ints [z]):=by
 have h:=cloneI_w z [] (by simp)
 rw [show RV.own 3 1 ([z].map I)=rvG 3 1 ([z].map I) from rfl] at h
 exact (freshO h).good (by kernel_rfl)
theorem copy_un {k n m T:Nat} {fs fm gs:List FV} {st:List Rat} {mv sh:List (List Rat)} (h1:1≤k) (hk:k≤1000) (hT:1≤T) (hT4:T≤4) (hn:1≤n) (hn4:n≤4) (hm:1≤m) (hm4:m≤4) (h0:Frs k fs st) (hM:Frs k fm mv.flatten) (hS:Frs k gs sh.flatten) (l0:st.length≤1000) (lM:mv.flatten.length≤1000) (lS:sh.flatten.length≤1000) :
  Good Tryz.prog 54 [.agg [.fz 2 (vrT n m T),.fz 1 (paT T),.fz 1 (rwT fs fm gs T)]] (netF n m T st mv sh):=by
 have eP:paT T=(List.range T).flatMap fun i:Nat=>[if i=0 then nilV else ints [2*(i:Int)-2],ints [2*(i:Int)]]:=by
  unfold paT
  refine congrArg (fun f=>(List.range T).flatMap f) (funext fun i=>?_)
  unfold pa2
  by_cases hi:i=0
  ·subst hi;rfl
  ·rw [if_neg hi,if_neg hi]
 have eO:roT st mv sh T=(List.range T).flatMap fun i=>[.fz 3 (if i=0 then flF [st] else flF mv),.fz 3 (flF sh)]:=rfl
 have eW:rwT fs fm gs T=(List.range T).flatMap fun i=>[.fz 3 (if i=0 then fs else fm),.fz 3 gs]:=rfl
 refine copy_w (N:=2*T) h1 hk (by omega) (by omega) vrT_len paT_len rwT_len roT_len (fun i hi=>?_) (fun i hi=>?_) (fun i hi=>?_)
 ·obtain ⟨x,h2,nm,vals,rfl,h3⟩:=pairs_all (t:=T) (a:=fun i=>.agg [St (nmd 115 i),.fz 1 (vls n)]) (b:=fun i=>.agg [St (nmd 111 i),.fz 1 (vls m)]) (p:=fun _ x=>∃nm vals,x=.agg [St nm,.fz 1 vals]∧Good Tryz.prog 81 [.fz 1 vals] (.fz 1 vals)) (fun j _=>⟨_,_,rfl,cloneS_g hn (by omega)⟩) (fun j _=>⟨_,_,rfl,cloneS_g hm (by omega)⟩) i hi
  exact ⟨nm,vals,h2,h3⟩
 ·rw [eP]
  refine pairs_all (p:=fun _ p=>Good Tryz.prog 82 [p] p∧p.cells=[p]∧p.st=true) (fun j _=>?_) (fun j _=>⟨cloneI_g _,rfl,rfl⟩) i hi
  split
  ·exact ⟨cloneI0_w,rfl,rfl⟩
  ·exact ⟨cloneI_g _,rfl,rfl⟩
 ·rw [eO,eW]
  rcases half i with ⟨j,rfl⟩|⟨j,rfl⟩
  ·have g1:=(pairs_get (a:=fun i=>FV.fz 3 (if i=0 then fs else fm)) (b:=fun i=>.fz 3 gs) (t:=T) (j:=j) (by omega)).1
   have g2:=(pairs_get (a:=fun i=>FV.fz 3 (if i=0 then flF [st] else flF mv)) (b:=fun i=>.fz 3 (flF sh)) (t:=T) (j:=j) (by omega)).1
   by_cases hj:j=0
   ·refine ⟨fs,st,?_,?_,h0,l0⟩
    ·rw [g1];show some (FV.fz 3 (if j=0 then fs else fm))=_;rw [if_pos hj]
    ·rw [g2];show some (FV.fz 3 (if j=0 then flF [st] else flF mv))=_;rw [if_pos hj];unfold flF;simp only [List.flatten_cons,List.flatten_nil,List.append_nil]
   ·refine ⟨fm,mv.flatten,?_,?_,hM,lM⟩
    ·rw [g1];show some (FV.fz 3 (if j=0 then fs else fm))=_;rw [if_neg hj]
    ·rw [g2];show some (FV.fz 3 (if j=0 then flF [st] else flF mv))=_;rw [if_neg hj];rfl
  ·have g1:=(pairs_get (a:=fun i=>FV.fz 3 (if i=0 then fs else fm)) (b:=fun i=>.fz 3 gs) (t:=T) (j:=j) (by omega)).2
   have g2:=(pairs_get (a:=fun i=>FV.fz 3 (if i=0 then flF [st] else flF mv)) (b:=fun i=>.fz 3 (flF sh)) (t:=T) (j:=j) (by omega)).2
   exact ⟨gs,sh.flatten,g1,g2,hS,lS⟩
set_option maxRecDepth 100000 in
set_option maxHeartbeats 8000000 in
theorem unroll_w {k:Nat} {fs ms ss:List FV} {st:List Rat} {mv sh:List (List Rat)} (h:HidF k fs ms ss st mv sh) (h1:1≤k) (hk:k≤1000) (s:Int) (hs:-9223372036854775808≤s∧s≤9223372036854775807) :
  Good Tryz.prog 20 [hidV fs ms ss,I s] (.tup [unV st mv sh s,I (unE st mv sh s)]):=by
 have hc:=hcheck_w h h1 (by omega)
 by_cases h0:hidE st mv sh=0
 case neg =>
  rw [show unE st mv sh s=hidE st mv sh by unfold unE;rw [if_pos h0],show unV st mv sh s=net0 by unfold unV;rw [if_neg (by unfold unE;rw [if_pos h0];exact h0)]]
  refine good_of Tryz.func20 rfl (by kernel_rfl) fun X hO hrd=>?_;rw [Tryz.ntmps20,Tryz.results20];simp only [ast0,List.map_cons,List.map_nil,List.length_cons,List.length_nil,Nat.reduceAdd,Nat.reduceSub,List.replicate_succ,List.replicate_zero,List.cons_append,List.nil_append]
  (repeat (with_reducible first|refine W_seq fun K hK=>?_|refine J_region ?_|(refine Kont.go (by assumption) ?_)|(simp (config:={ maxSteps:=3000000 }) (disch:=omega) only [go_sem,↓reduceIte,Nat.reduceAdd])))
  (first|refine call_f (hc) rfl ?_|refine callQ_f (hc) rfl ?_|refine callHK_f (hc) rfl ?_|refine callH_f (hc) rfl ?_)
  (repeat (with_reducible first|refine W_seq fun K hK=>?_|refine J_ret ?_|refine J_region ?_|refine J_c ?_|refine Jc_true ?_|(refine Kont.go (by assumption) ?_)|(simp (config:={ maxSteps:=3000000 }) (disch:=omega) only [go_sem,↓reduceIte,Nat.reduceAdd,h0])))
  exact ⟨_,rfl,FrzL.fs [_,_]⟩
 obtain ⟨a1,a2,a3,a4,a5,a6,a7,_⟩:=hidE_ok h0
 by_cases hs1:s<1
 ·rw [show unE st mv sh s=2 by unfold unE;rw [if_neg (by omega),if_pos (.inl hs1)],show unV st mv sh s=net0 by unfold unV;rw [if_neg (by unfold unE;rw [if_neg (by omega),if_pos (.inl hs1)];decide)]]
  refine good_of Tryz.func20 rfl (by kernel_rfl) fun X hO hrd=>?_;rw [Tryz.ntmps20,Tryz.results20];simp only [ast0,List.map_cons,List.map_nil,List.length_cons,List.length_nil,Nat.reduceAdd,Nat.reduceSub,List.replicate_succ,List.replicate_zero,List.cons_append,List.nil_append]
  (repeat (with_reducible first|refine W_seq fun K hK=>?_|refine J_region ?_|(refine Kont.go (by assumption) ?_)|(simp (config:={ maxSteps:=3000000 }) (disch:=omega) only [go_sem,↓reduceIte,Nat.reduceAdd])))
  (first|refine call_f (hc) rfl ?_|refine callQ_f (hc) rfl ?_|refine callHK_f (hc) rfl ?_|refine callH_f (hc) rfl ?_)
  (repeat (with_reducible first|refine W_seq fun K hK=>?_|refine J_skip ?_|refine J_ret ?_|refine J_region ?_|refine J_c ?_|refine Jc_true ?_|refine Jc_false ?_|(refine Kont.go (by assumption) ?_)|(simp (config:={ maxSteps:=3000000 }) (disch:=omega) only [go_sem,↓reduceIte,Nat.reduceAdd,h0,hs1,decide_true,true_and,and_self])))
  exact ⟨_,rfl,FrzL.fs [_,_]⟩
 by_cases hs4:4<s
 ·rw [show unE st mv sh s=2 by unfold unE;rw [if_neg (by omega),if_pos (.inr hs4)],show unV st mv sh s=net0 by unfold unV;rw [if_neg (by unfold unE;rw [if_neg (by omega),if_pos (.inr hs4)];decide)]]
  refine good_of Tryz.func20 rfl (by kernel_rfl) fun X hO hrd=>?_;rw [Tryz.ntmps20,Tryz.results20];simp only [ast0,List.map_cons,List.map_nil,List.length_cons,List.length_nil,Nat.reduceAdd,Nat.reduceSub,List.replicate_succ,List.replicate_zero,List.cons_append,List.nil_append]
  (repeat (with_reducible first|refine W_seq fun K hK=>?_|refine J_region ?_|(refine Kont.go (by assumption) ?_)|(simp (config:={ maxSteps:=3000000 }) (disch:=omega) only [go_sem,↓reduceIte,Nat.reduceAdd])))
  (first|refine call_f (hc) rfl ?_|refine callQ_f (hc) rfl ?_|refine callHK_f (hc) rfl ?_|refine callH_f (hc) rfl ?_)
  (repeat (with_reducible first|refine W_seq fun K hK=>?_|refine J_skip ?_|refine J_ret ?_|refine J_region ?_|refine J_c ?_|refine Jc_true ?_|refine Jc_false ?_|(refine Kont.go (by assumption) ?_)|(simp (config:={ maxSteps:=3000000 }) (disch:=omega) only [go_sem,↓reduceIte,Nat.reduceAdd,h0,hs1,hs4,decide_true,decide_false,true_and,and_self])))
  exact ⟨_,rfl,FrzL.fs [_,_]⟩
 have hE:unE st mv sh s=0:=by unfold unE;rw [if_neg (by omega),if_neg (by omega)]
 obtain ⟨T,rfl⟩:∃T:Nat,s=(T:Int):=⟨s.toNat,by omega⟩
 have hV:unV st mv sh (T:Int)=netF st.length (hidN sh) T st mv sh:=by unfold unV;rw [if_pos hE,Int.toNat_natCast]
 rw [hE,hV]
 have hfl:fs.length=st.length:=h.ist.len
 have hsl:ss.length=sh.length:=h.ish.len
 obtain ⟨x0,y0,z0⟩:=h.ish.at (i:=0) (by omega)
 have hx0:x0.length=hidN sh:=by rw [z0.len];unfold hidN;rw [lget_lt sh [] (by omega)]
 have hmr:∀r∈mv,r.length≤4:=fun r hr=>by
  obtain ⟨j,hj,rfl⟩:=List.getElem_of_mem hr
  have:=(a7 j (by omega)).1
  rw [lget_lt mv [] hj] at this;omega
 have hsr:∀r∈sh,r.length≤4:=fun r hr=>by
  obtain ⟨j,hj,rfl⟩:=List.getElem_of_mem hr
  have:=(a7 j (by omega)).2
  rw [lget_lt sh [] hj] at this;omega
 obtain ⟨Rm,em,lm,gm⟩:=frm_rows h.imv
 obtain ⟨Rs,es,ls,gs⟩:=frm_rows h.ish
 subst em es
 have fm:=rows_flat lm gm
 have fS:=rows_flat ls gs
 have l16:∀{l:List (List Rat)},l.length≤4→(∀r∈l,r.length≤4)→l.flatten.length≤16:=fun {l} h1 h2=>by
  have:=fl1_len (l:=l) (i:=l.length) (j:=0) h2 (Nat.le_refl _)
  rw [fl1_end] at this
  unfold flF at this
  rw [List.length_map] at this
  omega
 have g1:∀{l:List (List Rat)} (h:0<l.length),1≤l[0].length→1≤l.flatten.length:=fun {l} h hl=>by
  cases l with
  | nil=>simp at h
  | cons r l=>simp only [List.flatten_cons,List.length_append];have:1≤r.length:=hl;omega
 have lm16:=l16 (by omega) hmr
 have ls16:=l16 (by omega) hsr
 have lm1:1≤mv.flatten.length:=g1 (by omega) (by have:=(a7 0 (by omega)).1;rw [lget_lt mv [] (by omega)] at this;omega)
 have ls1:1≤sh.flatten.length:=g1 (by omega) (by have:=(a7 0 (by omega)).2;rw [lget_lt sh [] (by omega)] at this;omega)
 have cM:=concat_g Rm (by omega) (by rw [fm.len];omega) (by rw [fm.len];omega) (frs_flat fm)
 have cS:=concat_g Rs (by omega) (by rw [fS.len];omega) (by rw [fS.len];omega) (frs_flat fS)
 have c0:Good Tryz.prog 53 [.fz 1 [.fz 3 fs]] (.fz 3 fs):=by
  have e:[fs].flatten=fs:=by simp
  have:=concat_g [fs] (by simp) (by rw [e];omega) (by rw [e];omega) (by rw [e];exact frs_flat h.ist)
  rw [e] at this
  exact this
 have hcp:=copy_un (T:=T) (fs:=fs) (fm:=Rm.flatten) (gs:=Rs.flatten) h1 hk (by omega) (by omega) a1 a2 a5 a6 h.ist fm fS (by omega) (by omega) (by omega)
 refine good_of Tryz.func20 rfl (by kernel_rfl) fun X hO hrd=>?_;rw [Tryz.ntmps20,Tryz.results20];simp only [ast0,List.map_cons,List.map_nil,List.length_cons,List.length_nil,Nat.reduceAdd,Nat.reduceSub,List.replicate_succ,List.replicate_zero,List.cons_append,List.nil_append]
 (repeat (with_reducible first|refine W_seq fun K hK=>?_|refine J_region ?_|(refine Kont.go (by assumption) ?_)|(simp (config:={ maxSteps:=3000000 }) (disch:=omega) only [go_sem,↓reduceIte,Nat.reduceAdd])))
 (first|refine call_f (hc) rfl ?_|refine callQ_f (hc) rfl ?_|refine callHK_f (hc) rfl ?_|refine callH_f (hc) rfl ?_)
 (repeat (with_reducible first|refine W_seq fun K hK=>?_|refine J_block ?_|refine J_skip ?_|refine J_region ?_|refine J_c ?_|refine Jc_false ?_|(refine Kont.go (by assumption) ?_)|(simp (config:={ maxSteps:=3000000 }) (disch:=omega) only [go_sem,Nat.reduceAdd,h0,hs1,hs4,decide_false,true_and])))
 refine J_reserve ?_
 refine J_reserve ?_
 refine J_reserve ?_
 simp only [go_sem]
 refine W_loop [9,25,26,27,28,29,30,31,32,33,34,35,36,37,38,39,40,41,42,43,44,45,46,47,48,49,50,51,52,53,54,55,56,57,58,59,60,61,62,63,64,65,66,67] (fun t:Nat=>[(25,.f (I t))]) (fun t:Nat=>[some ⟨25,3,[.f (hidV fs (Rm.map (FV.fz 3)) (Rs.map (FV.fz 3)))]⟩,some ⟨44,3,[.f (.agg [nilV,nilV,nilV])]⟩,some ⟨44,3,[uA t]⟩,ob 73 2 (vrT st.length (hidN sh) t),ob 26 1 (paT t),ob 22 1 (rwT fs Rm.flatten Rs.flatten t)]) (fun t:Nat=>t≤T) (fun t:Nat=>T-t) (0) (Nat.zero_le _) (by refine weak_of ?_ ?_<;>simp (disch:=omega) only [go_sem,Nat.reduceAdd]<;>first|rfl|exact ⟨rfl,rfl⟩|exact Or.inl rfl|exact ⟨Or.inl rfl,Or.inl rfl⟩|trivial|assumption|omega|(symm;assumption)|((repeat' apply And.intro)<;>first|rfl|omega|trivial|exact .inl rfl|exact .inr ⟨rfl,rfl⟩|exact .inr rfl|(right;symm;assumption)|(symm;assumption)|assumption)) ?_
 rintro t ht
 simp only [go_sem]
 (repeat (with_reducible first|refine W_seq fun K hK=>?_|refine J_region ?_|refine J_c ?_|(refine Kont.go (by assumption) ?_)|(simp (config:={ maxSteps:=3000000 }) (disch:=omega) only [go_sem])))
 refine Jc_if (fun htT=>?_) (fun htT=>?_)<;>try simp only [decide_eq_true_eq,decide_eq_false_iff_not] at htT
 ·by_cases t0:t=0
  ·subst t0
   have e1:ob 73 2 (vrT st.length (hidN sh) 0)=none:=rfl
   have e2:ob 26 1 (paT 0)=none:=rfl
   have e3:ob 22 1 (rwT fs Rm.flatten Rs.flatten 0)=none:=rfl
   have e5:uA 0=.f (.agg [nilV,nilV,nilV]):=rfl
   rw [e1,e2,e3,e5]
   (repeat (first|(with_reducible first|refine W_seq fun K hK=>?_|refine J_block ?_|refine J_skip ?_|((fail_if_success refine J_region (id:=14) ?_);refine J_region ?_)|refine J_c ?_|refine Jc_true ?_|(refine Kont.go (by assumption) ?_)|(simp (config:={ maxSteps:=3000000 }) (disch:=omega) only [go_sem,↓reduceIte,Nat.reduceAdd,hfl]))|refine And.intro (by omega) ?_))
   have nb1:nmd 115 0=⟨#[115,48]⟩:=rfl
   obtain ⟨V1,hV1⟩:∃L,L=[FV.agg [St ⟨#[115,48]⟩,.fz 1 (vls st.length)]]:=⟨_,rfl⟩
   obtain ⟨P1,hP1⟩:∃L,L=[nilV]:=⟨_,rfl⟩
   obtain ⟨R1,hR1⟩:∃L,L=[FV.fz 3 fs]:=⟨_,rfl⟩
   have add0:=add0_g a1 a2 c0 hV1 hP1 hR1
   refine (show acall Tryz.prog 51 [_,_,_,_,_] _ _ _ from call_t (callP_t (gl:=[2,6]) (o0:=⟨44,3,[ntA 1 1 2 3]⟩) (Hr:=[⟨73,2,V1.map .f⟩,⟨26,1,P1.map .f⟩,⟨22,1,R1.map .f⟩]) add0 rfl rfl (by decide) (by simp) ?_ rfl ?_ rfl ?_ ?_) ?_)
   ·intro i o hi
    match i,hi with
    | 0,hi=>cases hi;exact ⟨rfl,lt0_fs (l:=[.agg [nilV,nilV,nilV]])⟩
    | 1,hi=>cases hi;exact ⟨rfl,lt0_fs (l:=[.fz 3 fs])⟩
    | i+2,hi=>simp at hi
   ·intro z hz
    simp only [List.mem_cons,List.not_mem_nil,or_false] at hz
    rcases hz with rfl|rfl|rfl|rfl|rfl<;>rfl
   ·intro r o hr hn
    match r,hr with
    | 0,hr=>cases hr;exact flat_noOwn (l:=[hidV fs (Rm.map (FV.fz 3)) (Rs.map (FV.fz 3))])
    | 1,hr=>cases hr;exact flat_noOwn (l:=[.agg [nilV,nilV,nilV]])
    | 2,hr=>simp at hn
    | 3,hr=>cases hr
    | 4,hr=>cases hr
    | 5,hr=>cases hr
    | 6,hr=>simp at hn
    | r+7,hr=>simp at hr
   ·intro o ho
    simp only [List.mem_cons,List.not_mem_nil,or_false] at ho
    rcases ho with rfl|rfl|rfl|rfl
    ·intro e he;rw [List.mem_singleton.1 he];rfl
    ·exact lt0_fs
    ·exact lt0_fs
    ·exact lt0_fs
   rintro v s' ⟨rfl,rfl⟩
   rw [leftH_net]
   simp only [kllH_cons,kllH_nil,nth_zero,go_sem,Nat.reduceAdd]
   (repeat (with_reducible first|(refine Kont.go (by assumption) ?_)))
   refine J_eqR (ops':=r14) (by kernel_rfl) ?_
   refine J_r14 ?_
   have hit:=itoa_w (k:=0) (by omega)
   have hd:(dgt 0).size=1:=rfl
   (repeat (with_reducible first|(simp (config:={ maxSteps:=3000000 }) (disch:=omega) only [go_sem,↓reduceIte,Nat.reduceAdd,Int.reduceLE,Int.reduceMul,y0,hx0])))
   (first|refine call_f (hit) rfl ?_|refine callQ_f (hit) rfl ?_|refine callHK_f (hit) rfl ?_|refine callH_f (hit) rfl ?_)
   (repeat (first|(with_reducible first|(simp (config:={ maxSteps:=3000000 }) (disch:=omega) only [go_sem,Nat.reduceAdd,Nat.reduceLeDiff,hd]))|refine And.intro (by omega) ?_))
   obtain ⟨V2,hV2⟩:∃L,L=V1++[FV.agg [St (⟨#[111]⟩++dgt 0),.fz 1 (vls (hidN sh))]]:=⟨_,rfl⟩
   obtain ⟨P2,hP2⟩:∃L,L=P1++[ints [0]]:=⟨_,rfl⟩
   obtain ⟨R2,hR2⟩:∃L,L=R1++[FV.fz 3 Rs.flatten]:=⟨_,rfl⟩
   refine (show acall Tryz.prog 51 [_,_,_,_,_] _ _ _ from call_t (add1_t (a:=7) (b:=8) (d:=9) (e:=10) (c:=1) (Nat.le_refl _) (by omega) a5 a6 (by rw [hV1];rfl) (by rw [hP1];rfl) (by rw [hR1];rfl) cS hV2 hP2 hR2 rfl rfl rfl rfl rfl (by decide) rfl ?_) ?_)
   ·refine noh2 (l0:=[hidV fs (Rm.map (FV.fz 3)) (Rs.map (FV.fz 3))]) (l1:=[.agg [nilV,nilV,nilV]]) rfl rfl ?_
    intro r o hr
    rcases r with _|_|_|_|_|_|_|_|_|r<;>first|(cases hr;done)|(simp;done)|(simp at hr;done)
   rintro v s' ⟨rfl,rfl⟩
   simp only [kllH_cons,kllH_nil,go_sem,Nat.reduceAdd]
   (repeat (with_reducible first|refine J_region ?_|(refine Kont.go (by assumption) ?_)|(simp (config:={ maxSteps:=3000000 }) (disch:=omega) only [go_sem,Int.reduceAdd])))
   have f5:ob 73 2 (vrT st.length (hidN sh) 1)=some ⟨73,2,V2.map .f⟩:=by rw [hV2,hV1];rfl
   have f6:ob 26 1 (paT 1)=some ⟨26,1,P2.map .f⟩:=by rw [hP2,hP1];rfl
   have f7:ob 22 1 (rwT fs Rm.flatten Rs.flatten 1)=some ⟨22,1,R2.map .f⟩:=by rw [hR2,hR1];rfl
   have f8:uA 1=.agg [.own 3 2 0 2,.own 4 1 0 2,.own 5 1 0 2]:=rfl
   have f9:ntA 2 11 12 13=.agg [.own 11 2 0 2,.own 12 1 0 2,.own 13 1 0 2]:=rfl
   refine ⟨1,by omega,by omega,weak_ren [0,1,2,11,12,13] ⟨by decide,by first|decide|(simp;done)⟩ ?_ ?_⟩<;>(try simp (disch:=omega) only [go_sem,Nat.reduceAdd,f5,f6,f7,f8,f9,map_ren_f])<;>(try first|done|omega|rfl|exact ⟨rfl,rfl⟩|trivial)
  ·obtain ⟨u,rfl⟩:∃u,t=u+1:=⟨t-1,by omega⟩
   obtain ⟨V,hV0⟩:∃L,L=vrT st.length (hidN sh) (u+1):=⟨_,rfl⟩
   obtain ⟨Pa,hP0⟩:∃L,L=paT (u+1):=⟨_,rfl⟩
   obtain ⟨Ro,hR0⟩:∃L,L=rwT fs Rm.flatten Rs.flatten (u+1):=⟨_,rfl⟩
   obtain ⟨c,hcc⟩:∃c,c=2*(u+1):=⟨_,rfl⟩
   have lV:V.length=c:=by rw [hV0,hcc];exact vrT_len
   have lP:Pa.length=c:=by rw [hP0,hcc];exact paT_len
   have lR:Ro.length=c:=by rw [hR0,hcc];exact rwT_len
   have e1:ob 73 2 V=some ⟨73,2,V.map .f⟩:=ob_pos fun h=>by rw [h] at lV;simp at lV;omega
   have e2:ob 26 1 Pa=some ⟨26,1,Pa.map .f⟩:=ob_pos fun h=>by rw [h] at lP;simp at lP;omega
   have e3:ob 22 1 Ro=some ⟨22,1,Ro.map .f⟩:=ob_pos fun h=>by rw [h] at lR;simp at lR;omega
   have e5:uA (u+1)=ntA c 3 4 5:=by rw [hcc];rfl
   rw [←hV0,←hP0,←hR0,e1,e2,e3,e5]
   have hd:(dgt (u+1)).size=1:=rfl
   have hit:=itoa_w (k:=u+1) (by omega)
   have hne:¬(((u+1:Nat):Int)=0):=by omega
   (repeat (with_reducible first|refine W_seq fun K hK=>?_|refine J_block ?_|refine J_skip ?_|((fail_if_success refine J_region (id:=13) ?_);refine J_region ?_)|refine J_c ?_|refine Jc_false ?_|(refine Kont.go (by assumption) ?_)|(simp (config:={ maxSteps:=3000000 }) (disch:=omega) only [go_sem,hne])))
   refine J_eqR (ops':=r13) (by kernel_rfl) ?_
   refine J_r13 ?_
   (repeat (with_reducible first|(simp (config:={ maxSteps:=3000000 }) (disch:=omega) only [go_sem,↓reduceIte,Nat.reduceAdd,hfl])))
   (first|refine call_f (hit) rfl ?_|refine callQ_f (hit) rfl ?_|refine callHK_f (hit) rfl ?_|refine callH_f (hit) rfl ?_)
   (repeat (first|(with_reducible first|(simp (config:={ maxSteps:=3000000 }) (disch:=omega) only [go_sem,Nat.reduceAdd,Nat.reduceLeDiff,hd]))|refine And.intro (by omega) ?_))
   obtain ⟨V1,hV1⟩:∃L,L=V++[FV.agg [St (⟨#[115]⟩++dgt (u+1)),.fz 1 (vls st.length)]]:=⟨_,rfl⟩
   obtain ⟨P1,hP1⟩:∃L,L=Pa++[ints [2*((u+1:Nat):Int)-2]]:=⟨_,rfl⟩
   obtain ⟨R1,hR1⟩:∃L,L=Ro++[FV.fz 3 Rm.flatten]:=⟨_,rfl⟩
   refine (show acall Tryz.prog 51 [_,_,_,_,_] _ _ _ from call_t (add1_t (a:=3) (b:=4) (d:=5) (e:=6) (c:=c) (by omega) (by omega) a1 a2 lV lP lR cM hV1 hP1 hR1 rfl rfl rfl rfl rfl (by decide) rfl ?_) ?_)
   ·refine noh2 (l0:=[hidV fs (Rm.map (FV.fz 3)) (Rs.map (FV.fz 3))]) (l1:=[.agg [nilV,nilV,nilV]]) rfl rfl ?_
    intro r o hr
    rcases r with _|_|_|_|_|r<;>first|(cases hr;done)|(simp;done)|(simp at hr;done)
   rintro v s' ⟨rfl,rfl⟩
   simp only [kllH_cons,kllH_nil,go_sem,Nat.reduceAdd]
   (repeat (with_reducible first|(refine Kont.go (by assumption) ?_)))
   refine J_eqR (ops':=r14) (by kernel_rfl) ?_
   refine J_r14 ?_
   (repeat (with_reducible first|(simp (config:={ maxSteps:=3000000 }) (disch:=omega) only [go_sem,↓reduceIte,Nat.reduceAdd,Int.reduceLE,y0,hx0])))
   (first|refine call_f (hit) rfl ?_|refine callQ_f (hit) rfl ?_|refine callHK_f (hit) rfl ?_|refine callH_f (hit) rfl ?_)
   (repeat (first|(with_reducible first|(simp (config:={ maxSteps:=3000000 }) (disch:=omega) only [go_sem,Nat.reduceAdd,Nat.reduceLeDiff,hd]))|refine And.intro (by omega) ?_))
   obtain ⟨V2,hV2⟩:∃L,L=V1++[FV.agg [St (⟨#[111]⟩++dgt (u+1)),.fz 1 (vls (hidN sh))]]:=⟨_,rfl⟩
   obtain ⟨P2,hP2⟩:∃L,L=P1++[ints [2*((u+1:Nat):Int)]]:=⟨_,rfl⟩
   obtain ⟨R2,hR2⟩:∃L,L=R1++[FV.fz 3 Rs.flatten]:=⟨_,rfl⟩
   refine (show acall Tryz.prog 51 [_,_,_,_,_] _ _ _ from call_t (add1_t (a:=7) (b:=8) (d:=9) (e:=10) (c:=c+1) (by omega) (by omega) a5 a6 (by rw [hV1,List.length_append,lV];rfl) (by rw [hP1,List.length_append,lP];rfl) (by rw [hR1,List.length_append,lR];rfl) cS hV2 hP2 hR2 rfl rfl rfl rfl rfl (by decide) rfl ?_) ?_)
   ·refine noh2 (l0:=[hidV fs (Rm.map (FV.fz 3)) (Rs.map (FV.fz 3))]) (l1:=[.agg [nilV,nilV,nilV]]) rfl rfl ?_
    intro r o hr
    rcases r with _|_|_|_|_|_|_|_|_|r<;>first|(cases hr;done)|(simp;done)|(simp at hr;done)
   rintro v s' ⟨rfl,rfl⟩
   simp only [kllH_cons,kllH_nil,go_sem,Nat.reduceAdd]
   (repeat (with_reducible first|refine J_region ?_|(refine Kont.go (by assumption) ?_)|(simp (config:={ maxSteps:=3000000 }) (disch:=omega) only [go_sem])))
   have f5:ob 73 2 (vrT st.length (hidN sh) (u+1+1))=some ⟨73,2,V2.map .f⟩:=by
    rw [hV2,hV1,hV0,List.append_assoc,←vrT_next,ob_pos (by simp [vr2])];rfl
   have f6:ob 26 1 (paT (u+1+1))=some ⟨26,1,P2.map .f⟩:=by
    rw [hP2,hP1,hP0,List.append_assoc,←paT_next,ob_pos (by simp [pa2])];rfl
   have f7:ob 22 1 (rwT fs Rm.flatten Rs.flatten (u+1+1))=some ⟨22,1,R2.map .f⟩:=by
    rw [hR2,hR1,hR0,List.append_assoc,←rwT_next,ob_pos (by simp [rw2])];rfl
   have f8:uA (u+1+1)=.agg [.own 3 2 0 (c+1+1),.own 4 1 0 (c+1+1),.own 5 1 0 (c+1+1)]:=by rw [hcc];rfl
   have f9:ntA (c+1+1) 11 12 13=.agg [.own 11 2 0 (c+1+1),.own 12 1 0 (c+1+1),.own 13 1 0 (c+1+1)]:=rfl
   refine ⟨u+1+1,by omega,by omega,weak_ren [0,1,2,11,12,13] ⟨by decide,by first|decide|(simp;done)⟩ ?_ ?_⟩<;>(try simp (disch:=omega) only [go_sem,Nat.reduceAdd,f5,f6,f7,f8,f9,map_ren_f])<;>(try first|done|omega|rfl|exact ⟨rfl,rfl⟩|trivial)
 ·have he:t=T:=by omega
  subst he
  obtain ⟨u,rfl⟩:∃u,t=u+1:=⟨t-1,by omega⟩
  obtain ⟨V,hV0⟩:∃L,L=vrT st.length (hidN sh) (u+1):=⟨_,rfl⟩
  obtain ⟨Pa,hP0⟩:∃L,L=paT (u+1):=⟨_,rfl⟩
  obtain ⟨Ro,hR0⟩:∃L,L=rwT fs Rm.flatten Rs.flatten (u+1):=⟨_,rfl⟩
  obtain ⟨c,hcc⟩:∃c,c=2*(u+1):=⟨_,rfl⟩
  have lV:V.length=c:=by rw [hV0,hcc];exact vrT_len
  have lP:Pa.length=c:=by rw [hP0,hcc];exact paT_len
  have lR:Ro.length=c:=by rw [hR0,hcc];exact rwT_len
  have e1:ob 73 2 V=some ⟨73,2,V.map .f⟩:=ob_pos fun h=>by rw [h] at lV;simp at lV;omega
  have e2:ob 26 1 Pa=some ⟨26,1,Pa.map .f⟩:=ob_pos fun h=>by rw [h] at lP;simp at lP;omega
  have e3:ob 22 1 Ro=some ⟨22,1,Ro.map .f⟩:=ob_pos fun h=>by rw [h] at lR;simp at lR;omega
  have e5:uA (u+1)=.agg [.own 3 2 0 c,.own 4 1 0 c,.own 5 1 0 c]:=by rw [hcc];rfl
  rw [←hV0,←hP0,←hR0] at hcp
  rw [←hV0,←hP0,←hR0,e1,e2,e3,e5]
  (repeat (with_reducible first|refine W_seq fun K hK=>?_|refine J_exit ?_|(refine Kont.go (by assumption) ?_)|(simp (config:={ maxSteps:=3000000 }) (disch:=omega) only [go_sem,↓reduceIte])))
  refine J_freezeA (r:=3) (sz:=2) (e:=73) (l:=V) (by rfl) ?_
  simp only [go_sem,Nat.reduceEqDiff,lV,if_true]
  refine J_freezeA (r:=4) (sz:=1) (e:=26) (l:=Pa) (by rfl) ?_
  simp only [go_sem,Nat.reduceEqDiff,lP,if_true]
  refine J_freezeA (r:=5) (sz:=1) (e:=22) (l:=Ro) (by rfl) ?_
  simp only [go_sem,Nat.reduceEqDiff,lR,if_true]
  refine J_flat (r:=2) (o:=⟨44,3,[.agg [.f (.fz 2 V),.f (.fz 1 Pa),.f (.fz 1 Ro)]]⟩) (o':=⟨44,3,[.f (.agg [.fz 2 V,.fz 1 Pa,.fz 1 Ro])]⟩) rfl rfl rfl (fun e he=>by rw [List.mem_singleton.1 he];exact ⟨rfl,rfl⟩) ?_
  simp only [go_sem]
  obtain ⟨N',hN'⟩:∃N',N'=netF st.length (hidN sh) (u+1) st mv sh:=⟨_,rfl⟩
  (repeat (with_reducible first|refine J_region ?_|(simp (config:={ maxSteps:=3000000 }) (disch:=omega) only [go_sem,↓reduceIte,Nat.reduceAdd])))
  (first|refine call_f (hcp) rfl ?_|refine callQ_f (hcp) rfl ?_|refine callHK_f (hcp) rfl ?_|refine callH_f (hcp) rfl ?_)
  unfold netF
  (repeat (with_reducible first|refine J_ret ?_|(refine Kont.go (by assumption) ?_)|(simp (config:={ maxSteps:=3000000 }) (disch:=omega) only [go_sem,↓reduceIte,Nat.reduceAdd])))
  exact ⟨_,rfl,FrzL.fs [_,_]⟩
end Go.Proofs.YtfjgijkhmhhkdaaGreatDoor
