/- The document's Made: a net of raw numbers: walked. Conditions: what slices may hold. -/
import Derived.Test.YthehegidpamldaaGreatDoorZB19
import Derived.Test.YthehegidpamldaaGreatDoorZB14
import Derived.Test.YthehegidpamldaaGreatDoorZB20
set_option linter.unusedVariables false
set_option linter.unusedSimpArgs false
namespace Go.Proofs.YthehegidpamldaaGreatDoor
open Go Go.RowKit
theorem J_agg3 {X:Cx} {P:Program} {Q:Exit→AS→Prop} {t:List AV} {H:AH} {c:Code} (r:Nat) {e:TypeId} {a b d:FV} (hr:H[r]?=some (some ⟨e,3,[.agg [.f a,.f b,.f d]]⟩)) (hu:(FV.agg [a,b,d]).cells.length=3∧(AV.f (.agg [a,b,d])).st=true) (hc:(FV.agg [a,b,d]).cells=[a,b,d]) (h:J X P c Q ⟨t,H.set r (some ⟨e,3,[.f (.agg [a,b,d])]⟩)⟩):J X P c Q ⟨t,H⟩ :=
 J_wkO (r:=r) (o':=⟨e,3,[.f (.agg [a,b,d])]⟩) hr rfl (fun j c' hj=>by
  have e1:flat [AV.f (.agg [a,b,d])]=flat [AV.agg [.f a,.f b,.f d]]:=by
   show (AV.f (.agg [a,b,d])).cells++[]=[.f a,.f b,.f d]++[]
   rw [cells_f,hc];rfl
  exact ⟨c',by rw [←e1];exact hj,CellLe.refl _⟩) (fun e he=>by rw [List.mem_singleton.1 he];exact ⟨by rw [cells_f_len];exact hu.1,hu.2⟩) h
theorem J_agg3r {X:Cx} {P:Program} {Q:Exit→AS→Prop} {t:List AV} {H:AH} {c:Code} (r:Nat) {e:TypeId} {a b d:FV} (hr:H[r]?=some (some ⟨e,3,[.f (.agg [a,b,d])]⟩)) (hu:(AV.agg [.f a,.f b,.f d]).st=true) (hc:(FV.agg [a,b,d]).cells=[a,b,d]) (h:J X P c Q ⟨t,H.set r (some ⟨e,3,[.agg [.f a,.f b,.f d]]⟩)⟩):J X P c Q ⟨t,H⟩ :=
 J_wkO (r:=r) (o':=⟨e,3,[.agg [.f a,.f b,.f d]]⟩) hr rfl (fun j c' hj=>by
  have e1:flat [AV.f (.agg [a,b,d])]=flat [AV.agg [.f a,.f b,.f d]]:=by
   show (AV.f (.agg [a,b,d])).cells++[]=[.f a,.f b,.f d]++[]
   rw [cells_f,hc];rfl
  exact ⟨c',by rw [e1];exact hj,CellLe.refl _⟩) (fun e he=>by rw [List.mem_singleton.1 he];exact ⟨rfl,hu⟩) h
abbrev rawO (sz E W:List Int) (back:Bool):FV:=.agg [ints sz,ints E,ints W,Bo back]
abbrev oRaw (sz E W:List Int) (back:Bool):Option AO:=some ⟨49,4,[.f (rawO sz E W back)]⟩
abbrev net0:FV:=.agg [.v (.slice none 0 0),.v (.slice none 0 0),.v (.slice none 0 0)]
abbrev oN0:Option AO:=some ⟨26,3,[.f net0]⟩
def nvA (r:Nat) (P:List FV):AV:=if P=[] then .f net0 else .agg [.own r 2 0 P.length,.f (.v (.slice none 0 0)),.f (.v (.slice none 0 0))]
theorem nvA_pos {r:Nat} {P:List FV} (h:P≠[]):nvA r P=.agg [.own r 2 0 P.length,.f (.v (.slice none 0 0)),.f (.v (.slice none 0 0))]:=if_neg h
theorem nvA_lt {r N:Nat} {P:List FV} (h:r<N):AV.lt0 N (nvA r P)=true:=by
 unfold nvA
 split
 ·rfl
 ·show (decide (r<N)&&(true&&(true&&true)))=true;rw [decide_eq_true h];rfl
def vaF (sz:List Int) (x:Nat):List FV:=(List.range x).map fun v=>varF (nmd 110 v,vlB (mdK sz v))
theorem vaF_len {sz:List Int} {x:Nat}:(vaF sz x).length=x:=by simp [vaF]
theorem vaF_next {sz:List Int} {x:Nat}:vaF sz x++[varF (nmd 110 x,vlB (mdK sz x))]=vaF sz (x+1):=by simp [vaF,List.range_succ]
theorem vaF_all {sz:List Int} {n:Nat}:vaF sz n=(mdV sz n).map varF:=by unfold vaF mdV;rw [List.map_map];rfl
theorem mdK5:∀i,i<5→([AV.f (.v (.int .i64 2)),.f (.v (.int .i64 2)),.f (.v (.int .i64 3)),.f (.v (.int .i64 2)),.f (.v (.int .i64 1))]:List AV)[i]?=some (.f (I (([2,2,3,2,1].getD i 0:Nat):Int))):=by
 intro i hi
 match i with
 | 0=>rfl
 | 1=>rfl
 | 2=>rfl
 | 3=>rfl
 | 4=>rfl
 | i+5=>omega
theorem Good.nil3 {P:Program} {f:FuncId} {a r:FV} {m n:Nat} (h:Good P f [.agg [a,.fz m [],.fz n []]] r):Good P f [.agg [a,.v (.slice none 0 0),.v (.slice none 0 0)]] r:=by
 refine ⟨h.1,fun w G ys h1 h2 h3=>h.2 w G ys h1 h2 ⟨h3.1,fun j x hj=>?_⟩⟩
 match j with
 | 0 =>
  cases hj
  have h0:=h3.2 0 _ rfl
  generalize ys.getD 0 undef=y at h0 ⊢
  cases h0 with
  | agg _ vs hl hc =>
   refine .agg _ vs hl fun i c hi=>?_
   match i with
   | 0=>exact hc 0 c hi
   | 1 =>
    cases hi
    have h1:=hc 1 _ rfl
    generalize vs.getD 1 undef=y at h1 ⊢
    cases h1
    exact .fz0 _ _ _ (by unfold maxLen;omega)
   | 2 =>
    cases hi
    have h1:=hc 2 _ rfl
    generalize vs.getD 2 undef=y at h1 ⊢
    cases h1
    exact .fz0 _ _ _ (by unfold maxLen;omega)
   | i+3=>simp at hi
 | j+1=>simp at hj
def ntA (vf:FV):Nat→AV
 | 0=>.agg [.f vf,.f (.v (.slice none 0 0)),.f (.v (.slice none 0 0))]
 | x+1=>.agg [.f vf,.own 4 1 0 (x+1),.own 5 1 0 (x+1)]
def ntB (vf:FV):Nat→AV
 | 0=>.agg [.f vf,.own 4 1 0 1,.f (.v (.slice none 0 0))]
 | x+1=>.agg [.f vf,.own 4 1 0 (x+2),.own 5 1 0 (x+1)]
theorem ntA_zero {vf:FV}:ntA vf 0=.agg [.f vf,.f (.v (.slice none 0 0)),.f (.v (.slice none 0 0))]:=rfl
theorem ntA_succ {vf:FV} {x:Nat}:ntA vf (x+1)=.agg [.f vf,.own 4 1 0 (x+1),.own 5 1 0 (x+1)]:=rfl
theorem ntB_zero {vf:FV}:ntB vf 0=.agg [.f vf,.own 4 1 0 1,.f (.v (.slice none 0 0))]:=rfl
theorem ntB_succ {vf:FV} {x:Nat}:ntB vf (x+1)=.agg [.f vf,.own 4 1 0 (x+2),.own 5 1 0 (x+1)]:=rfl
theorem ntA_lt {vf:FV} {N:Nat} (h:5<N):∀{x:Nat},AV.lt0 N (ntA vf x)=true
 | 0=>rfl
 | x+1=>by show (true&&(decide (4<N)&&(decide (5<N)&&true)))=true;rw [decide_eq_true h,decide_eq_true (show 4<N by omega)];rfl
theorem ntB_lt {vf:FV} {N:Nat} (h:5<N):∀{x:Nat},AV.lt0 N (ntB vf x)=true
 | 0=>by show (true&&(decide (4<N)&&(true&&true)))=true;rw [decide_eq_true (show 4<N by omega)];rfl
 | x+1=>by show (true&&(decide (4<N)&&(decide (5<N)&&true)))=true;rw [decide_eq_true h,decide_eq_true (show 4<N by omega)];rfl
theorem ntA_kill {vf:FV}:∀{x:Nat},AV.kill1 6 (ntA vf x)=ntA vf x
 | 0=>rfl
 | x+1=>rfl
theorem ntB_kill {vf:FV}:∀{x:Nat},AV.kill1 6 (ntB vf x)=ntB vf x
 | 0=>rfl
 | x+1=>rfl
def lpF (E:List Int) (back:Bool) (n x:Nat):List FV:=(List.range x).map fun v=>.fz 1 (Ns (mdP E back n v))
def lrF (sz E W:List Int) (back:Bool) (n x:Nat):List FV:=(List.range x).map fun v=>frs (mdR W (mdZ sz n) (mdP E back n) v)
section
variable {sz E W : List Int} {back : Bool} {n x v u : Nat}
theorem lpF_len:(lpF E back n x).length=x:=by simp [lpF]
theorem lrF_len:(lrF sz E W back n x).length=x:=by simp [lrF]
theorem lpF_next:lpF E back n x++[.fz 1 (Ns (mdP E back n x))]=lpF E back n (x+1):=by simp [lpF,List.range_succ]
theorem lrF_next:lrF sz E W back n x++[frs (mdR W (mdZ sz n) (mdP E back n) x)]=lrF sz E W back n (x+1):=by simp [lrF,List.range_succ]
theorem lpF_all:lpF E back n n=(mdI E back n).map ints:=by
 unfold lpF mdI
 rw [List.map_map]
 refine List.map_congr_left fun v _=>?_
 show FV.fz 1 _=FV.fz 1 _
 rw [List.map_map];rfl
theorem lrF_all:lrF sz E W back n n=(mdM sz E W back n).map frs:=by unfold lrF mdM;rw [List.map_map];rfl
theorem edS_next {s:Nat × List Nat}:edS E back v (u+1) s=if skB back v u (edS E back v u s).2=true then edS E back v u s else ((edS E back v u s).1+1,if edB E (edS E back v u s).1=true then (edS E back v u s).2++[u] else (edS E back v u s).2):=rfl
end
set_option maxRecDepth 100000 in
set_option maxHeartbeats 16000000 in
theorem made_w (sz E W:List Int) (back:Bool) (hs:sz.length≤140737488355328) (hE:E.length≤140737488355328) (hW:W.length≤140737488355328) (hsw:∀x∈sz,-9223372036854775808≤x∧x≤9223372036854775807) (hEw:∀x∈E,-9223372036854775808≤x∧x≤9223372036854775807) (hWw:∀x∈W,-9223372036854775808≤x∧x≤9223372036854775807) :
  Good Tryz.prog 20 [rawO sz E W back] (netV (mdV sz (mdN sz)) ((mdI E back (mdN sz)).map ints) ((mdM sz E W back (mdN sz)).map frs)):=by
 obtain ⟨n,hn⟩:∃n,n=mdN sz:=⟨_,rfl⟩
 have hnb:=mdN_le (sz:=sz)
 rw [←hn] at hnb ⊢
 obtain ⟨h1,h6⟩:=hnb
 refine good_of Tryz.func20 rfl (by kernel_rfl) fun X hO hrd=>?_;rw [Tryz.ntmps20,Tryz.results20];simp only [ast0,List.map_cons,List.map_nil,List.length_cons,List.length_nil,Nat.reduceAdd,Nat.reduceSub,List.replicate_succ,List.replicate_zero,List.cons_append,List.nil_append]
 (repeat (with_reducible first|refine W_seq fun K hK=>?_|refine J_region ?_|refine J_c ?_|(refine Kont.go (by assumption) ?_)|(simp (config:={ maxSteps:=3000000 }) (disch:=omega) only [go_sem,↓reduceIte,Nat.reduceAdd,List.length_map])))
 refine Jc_join (by assumption) [3] (fun z:Unit=>[(3,.f (I ((if sz.length<1 then 1 else sz.length:Nat):Int)))]) (fun z:Unit=>[oRaw sz E W back,oN0]) (fun z:Unit=>True) ?_ ?_
 ·by_cases hz:sz.length<1
  ·have hz':(sz.length:Int)<1:=by omega
   rw [if_pos hz]
   (repeat (with_reducible first|refine J_region ?_|refine Jc_true ?_|(simp (config:={ maxSteps:=3000000 }) (disch:=omega) only [go_sem,hz'])))
   (refine weak_of ?_ ?_<;>(try simp only [go_sem,Nat.reduceAdd])<;>(try first|done|omega|rfl|exact ⟨rfl,rfl⟩|trivial))
  ·have hz':¬(sz.length:Int)<1:=by omega
   rw [if_neg hz]
   (repeat (with_reducible first|refine J_skip ?_|refine Jc_false ?_|(simp (config:={ maxSteps:=3000000 }) (disch:=omega) only [go_sem,hz'])))
   (refine weak_of ?_ ?_<;>(try simp only [go_sem,Nat.reduceAdd])<;>(try first|done|omega|rfl|exact ⟨rfl,rfl⟩|trivial))
 rintro _ _
 simp only [go_sem]
 obtain ⟨m,hm⟩:∃m:Nat,m=if sz.length<1 then 1 else sz.length:=⟨_,rfl⟩
 have hnm:n=if 6<m then 6 else m:=by
  rw [hn,hm];unfold mdN
  by_cases h1:sz.length<1
  ·rw [if_pos h1,if_pos h1];rfl
  ·rw [if_neg h1,if_neg h1]
 rw [←hm]
 (repeat (with_reducible first|refine W_seq fun K hK=>?_|refine J_region ?_|refine J_c ?_|(refine Kont.go (by assumption) ?_)|(simp (config:={ maxSteps:=3000000 }) (disch:=omega) only [go_sem])))
 refine Jc_join (by assumption) [3] (fun z:Unit=>[(3,.f (I (n:Int)))]) (fun z:Unit=>[oRaw sz E W back,oN0]) (fun z:Unit=>True) ?_ ?_
 ·by_cases hz:6<m
  ·have hz':6<(m:Int):=by omega
   rw [if_pos hz] at hnm
   rw [hnm]
   (repeat (with_reducible first|refine J_region ?_|refine Jc_true ?_|(simp (config:={ maxSteps:=3000000 }) (disch:=omega) only [go_sem,hz'])))
   (refine weak_of ?_ ?_<;>(try simp only [go_sem,Nat.reduceAdd])<;>(try first|done|omega|rfl|exact ⟨rfl,rfl⟩|trivial))
  ·have hz':¬6<(m:Int):=by omega
   rw [if_neg hz] at hnm
   rw [hnm]
   (repeat (with_reducible first|refine J_skip ?_|refine Jc_false ?_|(simp (config:={ maxSteps:=3000000 }) (disch:=omega) only [go_sem,hz'])))
   (refine weak_of ?_ ?_<;>(try simp only [go_sem,Nat.reduceAdd])<;>(try first|done|omega|rfl|exact ⟨rfl,rfl⟩|trivial))
 rintro _ _
 simp only [go_sem]
 (repeat (with_reducible first|refine W_seq fun K hK=>?_|((fail_if_success refine J_region (id:=7) ?_);refine J_region ?_)|(refine Kont.go (by assumption) ?_)|(simp (config:={ maxSteps:=3000000 }) (disch:=omega) only [go_sem,↓reduceIte,Nat.reduceAdd])))
 refine J_reserve ?_
 simp only [go_sem]
 have h00:AV.f net0=nvA 3 (vaF sz 0):=rfl
 (repeat (with_reducible first|refine J_block ?_|refine J_region ?_|(refine Kont.go (by assumption) ?_)|(simp (config:={ maxSteps:=3000000 }) (disch:=omega) only [go_sem])))
 refine J_mask [26] (by refine weak_of ?_ ?_<;>simp (disch:=omega) only [go_sem,Nat.reduceAdd]<;>first|rfl|exact ⟨rfl,rfl⟩|exact Or.inl rfl|exact ⟨Or.inl rfl,Or.inl rfl⟩|trivial|assumption|omega|(symm;assumption)|((repeat' apply And.intro)<;>first|rfl|omega|trivial|exact .inr ⟨rfl,rfl⟩|exact .inr rfl|(right;symm;assumption)|(symm;assumption)|assumption)) ?_;simp only [go_sem]
 have hH:([some ⟨26,3,[AV.f net0]⟩]:AH)=[oN0]:=rfl
 refine W_loop [5,6,7,27,28,29,30,31,32,33,34,35,36,37,38,39,40,41,42,43,44,45,46,47,48,49,50,51,52,53,54,55,56,57,58] (fun x:Nat=>[(5,.f (I x))]) (fun x:Nat=>[oRaw sz E W back,oN0,some ⟨26,3,[nvA 3 (vaF sz x)]⟩,ob 63 2 (vaF sz x)]) (fun x:Nat=>x≤n) (fun x:Nat=>n-x) (0) (Nat.zero_le _) (by refine weak_of ?_ ?_<;>simp (disch:=omega) only [go_sem,Nat.reduceAdd]<;>first|rfl|exact ⟨rfl,rfl⟩|exact Or.inl rfl|exact ⟨Or.inl rfl,Or.inl rfl⟩|trivial|assumption|omega|(symm;assumption)|((repeat' apply And.intro)<;>first|rfl|omega|trivial|exact .inl rfl|exact .inr ⟨rfl,rfl⟩|exact .inr rfl|(right;symm;assumption)|(symm;assumption)|assumption)) ?_
 ·rintro x hx
  simp only [go_sem]
  (repeat (with_reducible first|refine W_seq fun K hK=>?_|refine J_region ?_|refine J_c ?_|(refine Kont.go (by assumption) ?_)|(simp (config:={ maxSteps:=3000000 }) (disch:=omega) only [go_sem])))
  refine Jc_if (fun hxn=>?_) (fun hxn=>?_)<;>try simp only [decide_eq_true_eq,decide_eq_false_iff_not] at hxn
  ·(repeat (with_reducible first|refine W_seq fun K hK=>?_|refine J_block ?_|refine J_skip ?_|refine J_region ?_|refine J_c ?_|(refine Kont.go (by assumption) ?_)|(simp (config:={ maxSteps:=3000000 }) (disch:=omega) only [go_sem,↓reduceIte,List.length_map])))
   refine Jc_join (by assumption) [6,37,38,39,40,41,42,43,44,45] (fun z:Unit=>[(6,.f (I ((mdK sz x:Nat):Int)))]) (fun z:Unit=>[oRaw sz E W back,oN0,some ⟨26,3,[nvA 3 (vaF sz x)]⟩,ob 63 2 (vaF sz x)]) (fun z:Unit=>True) ?_ ?_
   ·by_cases hxs:x<sz.length
    ·have hxs':(x:Int)<(sz.length:Int):=by omega
     have hg:=map_get I sz hxs
     have hb:=hsw _ (List.getElem_mem hxs)
     have hk:mdK sz x=[2,2,3,2,1].getD (pickN sz[x] 5) 0:=by unfold mdK;rw [if_pos hxs,lget_lt sz 0 hxs]
     have hp5:pickN sz[x] 5<5:=by unfold pickN;exact Nat.mod_lt _ (by omega)
     have hm5:=mdK5 _ hp5
     rw [←hk] at hm5
     generalize sz[x]=y at hg hb hm5 hp5
     (repeat (first|(with_reducible first|refine J_region ?_|refine Jc_true ?_|(simp (config:={ maxSteps:=3000000 }) (disch:=omega) only [go_sem,↓reduceIte,Nat.reduceAdd,Int.reduceToNat,hxs,hg,hp5,hm5]))|refine call_f (pickI _ _ (by omega) (by omega) (by omega) (by omega)) rfl ?_|refine And.intro (by omega) ?_))
     (refine weak_of ?_ ?_<;>(try simp only [go_sem,Nat.reduceAdd,Nat.reduceLT])<;>(try first|done|omega|rfl|exact ⟨rfl,rfl⟩|trivial))
     exact nvA_lt (by decide)
    ·have hxs':¬(x:Int)<(sz.length:Int):=by omega
     have hk:mdK sz x=2:=by unfold mdK;rw [if_neg hxs]
     rw [hk]
     (repeat (with_reducible first|refine J_skip ?_|refine Jc_false ?_|(simp (config:={ maxSteps:=3000000 }) (disch:=omega) only [go_sem,hxs])))
     (refine weak_of ?_ ?_<;>(try simp only [go_sem,Nat.reduceAdd,Nat.reduceLT])<;>(try first|done|omega|rfl|exact ⟨rfl,rfl⟩|trivial))
     exact nvA_lt (by decide)
   rintro _ _
   simp only [go_sem]
   have hof:=rof_good (n:=(x:Int)) (by omega) (by omega)
   have htx:=rtext_w (k:=x) (by omega)
   rw [Int.toNat_natCast] at hof
   have hkl:=mdK_le (sz:=sz) (v:=x)
   have hcl:=called_w (n:=mdK sz x) (by omega)
   have hvl:FV.agg [.v (.string (⟨#[110]⟩++dgt x)),.fz 1 (vls (mdK sz x))]=varF (nmd 110 x,vlB (mdK sz x)):=by
    unfold varF txF vls vlB;rw [List.map_map];rfl
   have hst:(AV.f (varF (nmd 110 x,vlB (mdK sz x)))).st=true:=rfl
   have hst2:(varF (nmd 110 x,vlB (mdK sz x))).st=true:=rfl
   have hce:(varF (nmd 110 x,vlB (mdK sz x))).cells.length=2:=rfl
   have hnx:=vaF_next (sz:=sz) (x:=x)
   have hln:=vaF_len (sz:=sz) (x:=x)
   have hd:(dgt x).size=1:=rfl
   (repeat (with_reducible first|refine W_seq fun K hK=>?_|refine J_region ?_|(simp (config:={ maxSteps:=3000000 }) (disch:=omega) only [go_sem])))
   (first|refine call_f (hof) rfl ?_|refine callQ_f (hof) rfl ?_|refine callHK_f (hof) rfl ?_|refine callH_f (hof) rfl ?_)
   (repeat (with_reducible first|(simp (config:={ maxSteps:=3000000 }) (disch:=omega) only [go_sem])))
   (first|refine call_f (htx) rfl ?_|refine callQ_f (htx) rfl ?_|refine callHK_f (htx) rfl ?_|refine callH_f (htx) rfl ?_)
   (repeat (with_reducible first|refine J_orders (id:=14) [8] (.one 0 (.one 1 (.one 2 (.one 3 (.one 4 (.one 5 (.one 6 (.one 7 (.one 8 (.one 9 (.one 10 .leaf))))))))))) mixed (by kernel_rfl) ?_ |(refine Kont.go (by assumption) ?_)|(simp (config:={ maxSteps:=3000000 }) (disch:=omega) only [go_sem,Nat.reduceEqDiff,↓reduceIte,Nat.reduceAdd,Nat.reduceLeDiff])))
   by_cases hx0:x=0
   ·subst hx0
    have e0:vaF sz 0=[]:=rfl
    have e1:ob 63 2 (vaF sz 0)=none:=rfl
    rw [e0,List.nil_append] at hnx
    have e2:vaF sz (0+1)=[varF (nmd 110 0,vlB (mdK sz 0))]:=hnx.symm
    have e3:ob 63 2 [varF (nmd 110 0,vlB (mdK sz 0))]=some ⟨63,2,[.f (varF (nmd 110 0,vlB (mdK sz 0)))]⟩:=rfl
    have e4:nvA 3 [varF (nmd 110 0,vlB (mdK sz 0))]=.agg [.own 3 2 0 1,.f (.v (.slice none 0 0)),.f (.v (.slice none 0 0))]:=rfl
    rw [←h00,e1]
    (repeat (with_reducible first|(simp (config:={ maxSteps:=3000000 }) (disch:=omega) only [go_sem,Nat.reduceAdd,Nat.reduceLeDiff,hd])))
    (first|refine call_f (hcl) rfl ?_|refine callQ_f (hcl) rfl ?_|refine callHK_f (hcl) rfl ?_|refine callH_f (hcl) rfl ?_)
    (repeat (first|(with_reducible first|refine J_region ?_|(refine Kont.go (by assumption) ?_)|(simp (config:={ maxSteps:=3000000 }) (disch:=omega) only [go_sem,↓reduceIte,Nat.reduceAdd,Nat.reduceLeDiff,Int.reduceAdd,hvl,hst2,hce]))|refine And.intro (by omega) ?_))
    refine ⟨0+1,by omega,by omega,weak_ren [0,1,2,5] ⟨by decide,by first|decide|(simp;done)⟩ ?_ ?_⟩<;>(try simp (disch:=omega) only [go_sem,Nat.reduceAdd,e2,e3,e4,List.map_cons,List.map_nil])<;>(try first|done|omega|rfl|exact ⟨rfl,rfl⟩|trivial)
   ·have hne:vaF sz x≠[]:=fun h=>by rw [h] at hln;simp at hln;omega
    have hne1:vaF sz (x+1)≠[]:=by rw [←hnx];simp
    have hln1:(vaF sz (x+1)).length=x+1:=vaF_len
    obtain ⟨T,hT⟩:∃T,T=vaF sz x:=⟨_,rfl⟩
    rw [←hT] at hne hln hnx ⊢
    have e1:ob 63 2 T=some ⟨63,2,T.map .f⟩:=ob_pos hne
    have e2:nvA 3 T=.agg [.own 3 2 0 x,.f (.v (.slice none 0 0)),.f (.v (.slice none 0 0))]:=by rw [nvA_pos hne,hln]
    have e3:ob 63 2 (vaF sz (x+1))=some ⟨63,2,T.map .f++[.f (varF (nmd 110 x,vlB (mdK sz x)))]⟩:=by rw [ob_pos hne1,←hnx,List.map_append];rfl
    have e4:nvA 3 (vaF sz (x+1))=.agg [.own 3 2 0 (x+1),.f (.v (.slice none 0 0)),.f (.v (.slice none 0 0))]:=by rw [nvA_pos hne1,hln1]
    have e5:(T.map AV.f).take x=T.map .f:=List.take_of_length_le (by rw [List.length_map];omega)
    have e6:(x+1)*40≤140737488355328:=by omega
    rw [e1,e2]
    (repeat (with_reducible first|(simp (config:={ maxSteps:=3000000 }) (disch:=omega) only [go_sem,Nat.reduceAdd,Nat.reduceLeDiff,hd])))
    (first|refine call_f (hcl) rfl ?_|refine callQ_f (hcl) rfl ?_|refine callHK_f (hcl) rfl ?_|refine callH_f (hcl) rfl ?_)
    (repeat (first|(with_reducible first|refine J_region ?_|(refine Kont.go (by assumption) ?_)|(simp (config:={ maxSteps:=3000000 }) (disch:=omega) only [go_sem,↓reduceIte,Nat.reduceAdd,Nat.reduceLeDiff,hvl,hst2,hce,hln,e5,e6,List.length_map]))|refine And.intro (by omega) ?_))
    refine ⟨x+1,by omega,by omega,weak_ren [0,1,2,5] ⟨by decide,by first|decide|(simp;done)⟩ ?_ ?_⟩<;>(try simp (disch:=omega) only [go_sem,Nat.reduceAdd,e3,e4,map_ren_f,List.map_append,List.map_cons,List.map_nil])<;>(try first|done|omega|rfl|exact ⟨rfl,rfl⟩|trivial)
  ·have hex:x=n:=by omega
   rw [hex]
   have hne:vaF sz n≠[]:=fun h=>by have:=vaF_len (sz:=sz) (x:=n);rw [h] at this;simp at this;omega
   have hln:(vaF sz n).length=n:=vaF_len
   have e1:ob 63 2 (vaF sz n)=some ⟨63,2,(vaF sz n).map .f⟩:=ob_pos hne
   rw [e1,nvA_pos hne]
   refine J_freezeA (r:=3) (sz:=2) (e:=63) (l:=vaF sz n) (by rfl) ?_
   simp only [go_sem,Nat.reduceEqDiff]
   refine J_agg3 2 rfl ⟨rfl,rfl⟩ rfl ?_
   simp only [go_sem]
   obtain ⟨vf,hvf⟩:∃vf,vf=FV.fz 2 (vaF sz n):=⟨_,rfl⟩
   have hsz:=rsizes_w (mdV sz n) [] [] (by rw [mdV_len];omega)
   rw [szN_mdV,←vaF_all] at hsz
   have hsz0:=hsz.nil3
   have hvst:vf.st=true:=by rw [hvf];rfl
   have hvce:vf.cells.length=1:=by rw [hvf];rfl
   rw [←hvf] at hsz0 ⊢
   (repeat (with_reducible first|refine W_seq fun K hK=>?_|refine J_exit ?_|refine J_region ?_|(refine Kont.go (by assumption) ?_)|(simp (config:={ maxSteps:=3000000 }) (disch:=omega) only [go_sem,↓reduceIte,Nat.reduceAdd])))
   (first|refine call_f (hsz0) rfl ?_|refine callQ_f (hsz0) rfl ?_|refine callHK_f (hsz0) rfl ?_|refine callH_f (hsz0) rfl ?_)
   (repeat (with_reducible first|refine W_seq fun K hK=>?_|refine J_block ?_|refine J_region ?_|(refine Kont.go (by assumption) ?_)|(simp (config:={ maxSteps:=3000000 }) (disch:=omega) only [go_sem])))
   refine J_agg3r (a:=vf) (b:=.v (.slice none 0 0)) (d:=.v (.slice none 0 0)) 2 rfl (by rw [hvf];rfl) (by rw [hvf];rfl) ?_
   simp only [go_sem]
   refine J_reserve ?_
   refine J_reserve ?_
   simp only [go_sem]
   (skip)
   refine W_loop [8,9,11,12,13,14,15,16,17,18,61,62,63,64,65,66,67,68,69,70,71,72,73,74,75,76,77,78,79,80,81,82,83,84,85,86,87,88,89,90,91,92,93,94,95,96,97,98,99,100,101,102,103,104,105,106,107,108,109,110,111,112,113,114,115,116,117,118,119,120,121,122,123,124,125,126,127,128,129,130,131,132,133,134,135,136,137,138,139,140,141,142,143,144,145,146,147,148,149,150,151,152,153,154,155] (fun x:Nat=>[(11,.f (I x)),(8,.f (I (mdE E back n x))),(9,.f (I (mdA (mdZ sz n) (mdP E back n) x)))]) (fun x:Nat=>[oRaw sz E W back,oN0,some ⟨26,3,[ntA vf x]⟩,none,ob 31 1 (lpF E back n x),ob 32 1 (lrF sz E W back n x)]) (fun x:Nat=>x≤n) (fun x:Nat=>n-x) (0) (Nat.zero_le _) (by refine weak_of ?_ ?_<;>simp (disch:=omega) only [go_sem,Nat.reduceAdd]<;>first|rfl|exact ⟨rfl,rfl⟩|exact Or.inl rfl|exact ⟨Or.inl rfl,Or.inl rfl⟩|trivial|assumption|omega|(symm;assumption)|((repeat' apply And.intro)<;>first|rfl|omega|trivial|exact .inl rfl|exact .inr ⟨rfl,rfl⟩|exact .inr rfl|(right;symm;assumption)|(symm;assumption)|assumption)) ?_
   ·rintro x hx
    simp only [go_sem]
    (repeat (with_reducible first|refine W_seq fun K hK=>?_|refine J_region ?_|refine J_c ?_|(refine Kont.go (by assumption) ?_)|(simp (config:={ maxSteps:=3000000 }) (disch:=omega) only [go_sem])))
    refine Jc_if (fun hxn=>?_) (fun hxn=>?_)<;>try simp only [decide_eq_true_eq,decide_eq_false_iff_not] at hxn
    ·(repeat (with_reducible first|refine W_seq fun K hK=>?_|refine J_block ?_|refine J_skip ?_|(refine Kont.go (by assumption) ?_)|(simp (config:={ maxSteps:=3000000 }) (disch:=omega) only [go_sem])))
     refine J_reserve ?_
     simp only [go_sem]
     (repeat (with_reducible first|refine W_seq fun K hK=>?_|refine J_block ?_|refine J_region ?_|(refine Kont.go (by assumption) ?_)|(simp (config:={ maxSteps:=3000000 }) (disch:=omega) only [go_sem])))
     obtain ⟨s0,hs0⟩:∃s0,s0=(mdE E back n x,([]:List Nat)):=⟨_,rfl⟩
     have hsp:=fun m=>edS_spec (E:=E) (back:=back) (v:=x) (m:=m) (s:=s0) (by rw [hs0];intro u hu;cases hu)
     have hlt6:=ntA_lt (vf:=vf) (N:=6) (by decide) (x:=x)
     have hlt7:=ntA_lt (vf:=vf) (N:=7) (by decide) (x:=x)
     have hlt8:=ntA_lt (vf:=vf) (N:=8) (by decide) (x:=x)
     have hEb:mdE E back n x≤36:=Nat.le_trans mdE_le (by have:=Nat.mul_le_mul (show x≤6 by omega) h6;omega)
     refine W_loop [8,12,13,66,67,68,69,70,71,72,73,74,75,76,77,78,79,80,81,82,83,84,85,86,87,88,89,90,91,92,93,94,95,96,97,98,99,100,101,102,103,104,105,106,107,108,109,110,111,112,113,114,115] (fun y:Nat=>[(13,.f (I y)),(8,.f (I (edS E back x y (mdE E back n x,[])).1)),(12,sl 6 1 (Ns (edS E back x y (mdE E back n x,[])).2))]) (fun y:Nat=>[oRaw sz E W back,oN0,some ⟨26,3,[ntA vf x]⟩,none,ob 31 1 (lpF E back n x),ob 32 1 (lrF sz E W back n x),ob 3 1 (Ns (edS E back x y (mdE E back n x,[])).2)]) (fun y:Nat=>y≤n) (fun y:Nat=>n-y) (0) (Nat.zero_le _) (by refine weak_of ?_ ?_<;>simp (disch:=omega) only [go_sem,Nat.reduceAdd]<;>first|rfl|exact ⟨rfl,rfl⟩|exact Or.inl rfl|exact ⟨Or.inl rfl,Or.inl rfl⟩|trivial|assumption|omega|(symm;assumption)|((repeat' apply And.intro)<;>first|rfl|omega|trivial|exact .inl rfl|exact .inr ⟨rfl,rfl⟩|exact .inr rfl|(right;symm;assumption)|(symm;assumption)|assumption)) ?_
     ·rintro y hy
      simp only [go_sem]
      (repeat (with_reducible first|refine W_seq fun K hK=>?_|refine J_region ?_|refine J_c ?_|(refine Kont.go (by assumption) ?_)|(simp (config:={ maxSteps:=3000000 }) (disch:=omega) only [go_sem])))
      refine Jc_if (fun hyn=>?_) (fun hyn=>?_)<;>try simp only [decide_eq_true_eq,decide_eq_false_iff_not] at hyn
      ·have hnx:=edS_next (E:=E) (back:=back) (v:=x) (u:=y) (s:=s0)
       have hsy:=hsp y
       have hs01:s0.1≤36:=by rw [hs0];exact hEb
       rw [←hs0]
       obtain ⟨p,hp⟩:∃p,p=edS E back x y s0:=⟨_,rfl⟩
       rw [←hp] at hnx hsy ⊢
       obtain ⟨e,l⟩:=p
       obtain ⟨hl1,hl2,hl3,hl4⟩:=hsy
       simp only at hnx hl1 hl3 hl4 ⊢
       rw [hs0] at hnx
       have hen:e≤42:=by omega
       (repeat (with_reducible first|refine W_seq fun K hK=>?_|refine J_block ?_|refine J_skip ?_|(refine Kont.go (by assumption) ?_)|(simp (config:={ maxSteps:=3000000 }) (disch:=omega) only [go_sem])))
       refine J_cutZ (by assumption) [71,72,73,74,75,76,77,78,79,80,81,82,83,84,85,86,87,88,89,90,91,92] (fun z:Unit=>[(92,.f (Bo (skB back x y l)))]) (fun z:Unit=>[oRaw sz E W back,oN0,some ⟨26,3,[ntA vf x]⟩,none,ob 31 1 (lpF E back n x),ob 32 1 (lrF sz E W back n x),ob 3 1 (Ns l)]) (fun z:Unit=>True) ?_ ?_
       ·have he3:((l.length:Int)=3)=(l.length=3):=propext (by omega)
        rcases Bool.eq_false_or_eq_true back with hb|hb
        ·by_cases hyx:y≤x
         ·have hk:skB back x y l=true:=by unfold skB;rw [hb];simp [hyx]
          rw [hk]
          (repeat (with_reducible first|refine J_region ?_|(simp (config:={ maxSteps:=3000000 }) (disch:=omega) only [go_sem,↓reduceIte,hb,hyx])))
          (refine weak_of ?_ ?_<;>(try simp only [go_sem,Nat.reduceAdd,Nat.reduceLT])<;>(try first|done|omega|rfl|exact ⟨rfl,rfl⟩|trivial))
         ·have hk:skB back x y l=decide (l.length=3):=by unfold skB;rw [hb];simp [hyx]
          rw [hk]
          (repeat (with_reducible first|refine J_region ?_|(simp (config:={ maxSteps:=3000000 }) (disch:=omega) only [go_sem,↓reduceIte,hb,hyx,Ns_len,he3])))
          (refine weak_of ?_ ?_<;>(try simp only [go_sem,Nat.reduceAdd,Nat.reduceLT])<;>(try first|done|omega|rfl|exact ⟨rfl,rfl⟩|trivial))
        ·by_cases hyx:x≤y
         ·have hk:skB back x y l=true:=by unfold skB;rw [hb];simp [hyx]
          rw [hk]
          (repeat (with_reducible first|refine J_region ?_|(simp (config:={ maxSteps:=3000000 }) (disch:=omega) only [go_sem,↓reduceIte,hb,hyx])))
          (refine weak_of ?_ ?_<;>(try simp only [go_sem,Nat.reduceAdd,Nat.reduceLT])<;>(try first|done|omega|rfl|exact ⟨rfl,rfl⟩|trivial))
         ·have hk:skB back x y l=decide (l.length=3):=by unfold skB;rw [hb];simp [hyx]
          rw [hk]
          (repeat (with_reducible first|refine J_region ?_|(simp (config:={ maxSteps:=3000000 }) (disch:=omega) only [go_sem,↓reduceIte,hb,hyx,Ns_len,he3])))
          (refine weak_of ?_ ?_<;>(try simp only [go_sem,Nat.reduceAdd,Nat.reduceLT])<;>(try first|done|omega|rfl|exact ⟨rfl,rfl⟩|trivial))
       ·rintro _ _
        simp only [go_sem]
        (repeat (with_reducible first|refine J_c ?_|(simp (config:={ maxSteps:=3000000 }) (disch:=omega) only [go_sem])))
        refine Jc_if (fun hsk=>?_) (fun hsk=>?_)<;>try simp only [decide_eq_true_eq,decide_eq_false_iff_not,Bool.not_eq_true',Bool.not_eq_false',Bool.not_true,Bool.not_false,Int.ofNat_lt,Int.ofNat_le,Int.natCast_inj,Classical.not_not] at hsk
        ·rw [if_pos hsk] at hnx
         (repeat (with_reducible first|refine J_exit ?_|refine J_region ?_|(refine Kont.go (by assumption) ?_)|(simp (config:={ maxSteps:=3000000 }) (disch:=omega) only [go_sem,↓reduceIte])))
         refine ⟨y+1,by omega,by omega,weak_of ?_ ?_⟩<;>(try simp (disch:=omega) only [go_sem,Nat.reduceAdd,hnx])<;>(try first|done|omega|rfl|exact ⟨rfl,rfl⟩|trivial)
        ·rw [if_neg (by rw [hsk];decide)] at hnx
         (repeat (with_reducible first|refine W_seq fun K hK=>?_|refine J_skip ?_|(refine Kont.go (by assumption) ?_)|(simp (config:={ maxSteps:=3000000 }) (disch:=omega) only [go_sem])))
         refine J_cutZ (by assumption) [93,94,95,96,97,98,99,100,101,102,103,104,105,106,107,108,109] (fun z:Unit=>[(109,.f (Bo (edB E e)))]) (fun z:Unit=>[oRaw sz E W back,oN0,some ⟨26,3,[ntA vf x]⟩,none,ob 31 1 (lpF E back n x),ob 32 1 (lrF sz E W back n x),ob 3 1 (Ns l)]) (fun z:Unit=>True) ?_ ?_
         ·by_cases hE0:0<E.length
          ·have hm:e%E.length<E.length:=Nat.mod_lt _ hE0
           have hk:edB E e=decide (pickN (E[e%E.length]) 2=0):=by unfold edB;rw [decide_eq_true hE0,lget_lt E 0 hm];rfl
           have hg:=map_get I E hm
           have hb:=hEw _ (List.getElem_mem hm)
           have htm:(e:Int).tmod (E.length:Int)=((e%E.length:Nat):Int):=rfl
           have hne:¬((E.length:Int)=0):=by omega
           have hne2:¬E.length=0:=by omega
           rw [hk]
           generalize E[e%E.length]=q at hg hb
           have hpe:(((pickN q 2:Nat):Int)=0)=(pickN q 2=0):=propext (by omega)
           (repeat (first|(with_reducible first|refine J_drawn mixed (by kernel_rfl) ?_|(simp (config:={ maxSteps:=3000000 }) (disch:=omega) only [go_sem,↓reduceIte,Int.reduceToNat,hE0,List.length_map,hg,htm,hne,hpe]))|refine callQ_f (pickI _ _ (by omega) (by omega) (by omega) (by omega)) rfl ?_))
           (refine weak_of ?_ ?_<;>(try simp only [go_sem,Nat.reduceAdd,Nat.reduceLT])<;>(try first|done|omega|rfl|exact ⟨rfl,rfl⟩|trivial))
          ·have hk:edB E e=false:=by unfold edB;rw [decide_eq_false hE0];rfl
           rw [hk]
           (repeat (with_reducible first|refine J_drawn mixed (by kernel_rfl) ?_|(simp (config:={ maxSteps:=3000000 }) (disch:=omega) only [go_sem,↓reduceIte,hE0,List.length_map])))
           (refine weak_of ?_ ?_<;>(try simp only [go_sem,Nat.reduceAdd,Nat.reduceLT])<;>(try first|done|omega|rfl|exact ⟨rfl,rfl⟩|trivial))
         ·rintro _ _
          simp only [go_sem]
          have hap:Ns l++[I (y:Int)]=Ns (l++[y]):=by unfold Ns;rw [List.map_append];rfl
          have hb8:(l.length+1)*8≤140737488355328:=by omega
          (repeat (with_reducible first|refine J_c ?_|(simp (config:={ maxSteps:=3000000 }) (disch:=omega) only [go_sem])))
          refine Jc_if (fun hed=>?_) (fun hed=>?_)<;>try simp only [decide_eq_true_eq,decide_eq_false_iff_not,Bool.not_eq_true',Bool.not_eq_false',Bool.not_true,Bool.not_false,Int.ofNat_lt,Int.ofNat_le,Int.natCast_inj,Classical.not_not] at hed
          ·rw [if_pos hed] at hnx
           (repeat (first|(with_reducible first|refine J_region ?_|refine aApp_sl ?_|(refine Kont.go (by assumption) ?_)|(simp (config:={ maxSteps:=3000000 }) (disch:=omega) only [go_sem,Nat.reduceEqDiff,↓reduceIte,Nat.reduceAdd,Nat.reduceLeDiff,Ns_len,hb8,hap]))|refine And.intro (by omega) ?_))
           refine ⟨y+1,by omega,by omega,weak_of ?_ ?_⟩<;>(try simp (disch:=omega) only [go_sem,Nat.reduceAdd,hnx,ntA_kill,hlt7])<;>(try first|done|omega|rfl|exact ⟨rfl,rfl⟩|trivial)
          ·rw [if_neg (by rw [hed];decide)] at hnx
           (repeat (with_reducible first|refine J_skip ?_|refine J_region ?_|(refine Kont.go (by assumption) ?_)|(simp (config:={ maxSteps:=3000000 }) (disch:=omega) only [go_sem])))
           refine ⟨y+1,by omega,by omega,weak_of ?_ ?_⟩<;>(try simp (disch:=omega) only [go_sem,Nat.reduceAdd,hnx])<;>(try first|done|omega|rfl|exact ⟨rfl,rfl⟩|trivial)
      ·have hey:n=y:=by omega
       subst hey
       have hE1:(edS E back x n (mdE E back n x,[])).1=mdE E back n (x+1):=rfl
       have hP1:(edS E back x n (mdE E back n x,[])).2=mdP E back n x:=rfl
       rw [hE1,hP1]
       (repeat (with_reducible first|refine W_seq fun K hK=>?_|refine J_exit ?_|(refine Kont.go (by assumption) ?_)|(simp (config:={ maxSteps:=3000000 }) (disch:=omega) only [go_sem,↓reduceIte])))
       refine J_freeze (j:=12) rfl rfl ?_
       simp only [go_sem,Nat.reduceEqDiff]
       rw [ntA_kill]
       have hlpn:=lpF_next (E:=E) (back:=back) (n:=n) (x:=x)
       have hlpl:=lpF_len (E:=E) (back:=back) (n:=n) (x:=x)
       have hlrl:=lrF_len (sz:=sz) (E:=E) (W:=W) (back:=back) (n:=n) (x:=x)
       have hlpl1:=lpF_len (E:=E) (back:=back) (n:=n) (x:=x+1)
       have hT:=md_okT (sz:=sz) (E:=E) (back:=back) (v:=x) h1 h6
       have hfst:(AV.f (.fz 1 (Ns (mdP E back n x)))).st=true:=rfl
       have hfst2:(FV.fz 1 (Ns (mdP E back n x))).st=true:=rfl
       have hfce:(FV.fz 1 (Ns (mdP E back n x))).cells.length=1:=rfl
       refine J_cutZ (by assumption) [116,117,118,119,120,121] (fun z:Unit=>[]) (fun z:Unit=>[oRaw sz E W back,oN0,some ⟨26,3,[ntB vf x]⟩,none,ob 31 1 (lpF E back n (x+1)),ob 32 1 (lrF sz E W back n x)]) (fun z:Unit=>True) ?_ ?_
       ·by_cases hx0:x=0
        ·subst hx0
         have e0:lpF E back n 0=[]:=rfl
         have e1:ob 31 1 (lpF E back n 0)=none:=rfl
         rw [e0,List.nil_append] at hlpn
         have e2:ob 31 1 (lpF E back n (0+1))=some ⟨31,1,[.f (.fz 1 (Ns (mdP E back n 0)))]⟩:=by rw [←hlpn];rfl
         rw [e1,e2,ntA_zero,ntB_zero]
         (repeat (first|(with_reducible first|refine J_region ?_|refine aApp_old ?_|(simp (config:={ maxSteps:=3000000 }) (disch:=omega) only [go_sem,Nat.reduceEqDiff,↓reduceIte,Nat.reduceAdd,Nat.reduceLeDiff,hfst]))|refine And.intro (by omega) ?_))
         (first|refine weak_ren [0,1,2,3,8,5] ⟨by decide,by first|decide|(simp;done)⟩ ?_ ?_|refine ⟨(),trivial,weak_ren [0,1,2,3,8,5] ⟨by decide,by first|decide|(simp;done)⟩ ?_ ?_⟩)<;>(try simp (disch:=omega) only [go_sem,Nat.reduceAdd])<;>(try first|done|omega|rfl|exact ⟨rfl,rfl⟩|trivial)
        ·obtain ⟨x',rfl⟩:∃x',x=x'+1:=⟨x-1,by omega⟩
         obtain ⟨T,hT0⟩:∃T,T=lpF E back n (x'+1):=⟨_,rfl⟩
         rw [←hT0] at hlpn hlpl ⊢
         have hne:T≠[]:=fun h=>by rw [h] at hlpl;simp at hlpl
         have e1:ob 31 1 T=some ⟨31,1,T.map .f⟩:=ob_pos hne
         have e3:ob 31 1 (lpF E back n (x'+1+1))=some ⟨31,1,T.map .f++[.f (.fz 1 (Ns (mdP E back n (x'+1))))]⟩:=by rw [←hlpn,ob_pos (by simp),List.map_append];rfl
         have e5:(T.map AV.f).take (x'+1)=T.map .f:=List.take_of_length_le (by rw [List.length_map];omega)
         have e6:(x'+1+1)*24≤140737488355328:=by omega
         rw [e1,e3,ntA_succ,ntB_succ]
         (repeat (first|(with_reducible first|refine J_region ?_|refine aApp_old ?_|(simp (config:={ maxSteps:=3000000 }) (disch:=omega) only [go_sem,Nat.reduceEqDiff,↓reduceIte,Nat.reduceAdd,Nat.reduceLeDiff,hfst,hlpl,e5,e6,List.length_map]))|refine And.intro (by omega) ?_))
         (first|refine weak_ren [0,1,2,3,8,5] ⟨by decide,by first|decide|(simp;done)⟩ ?_ ?_|refine ⟨(),trivial,weak_ren [0,1,2,3,8,5] ⟨by decide,by first|decide|(simp;done)⟩ ?_ ?_⟩)<;>(try simp (disch:=omega) only [go_sem,Nat.reduceAdd,map_ren_f,List.map_append,List.map_cons,List.map_nil])<;>(try first|done|omega|rfl|exact ⟨rfl,rfl⟩|trivial)
       ·rintro _ _
        simp only [go_sem]
        have hrc:=rcountT_w hT
        (repeat (with_reducible first|refine W_seq fun K hK=>?_|refine J_region ?_|(simp (config:={ maxSteps:=3000000 }) (disch:=omega) only [go_sem])))
        (first|refine call_f (hrc) rfl ?_|refine callQ_f (hrc) rfl ?_|refine callHK_f (hrc) rfl ?_|refine callH_f (hrc) rfl ?_)
        (repeat (with_reducible first|refine W_seq fun K hK=>?_|(refine Kont.go (by assumption) ?_)|(simp (config:={ maxSteps:=3000000 }) (disch:=omega) only [go_sem])))
        refine J_reserve ?_
        simp only [go_sem]
        (repeat (with_reducible first|refine W_seq fun K hK=>?_|refine J_block ?_|refine J_region ?_|(refine Kont.go (by assumption) ?_)|(simp (config:={ maxSteps:=3000000 }) (disch:=omega) only [go_sem])))
        have hltB:=ntB_lt (vf:=vf) (N:=7) (by decide) (x:=x)
        have hltB8:=ntB_lt (vf:=vf) (N:=8) (by decide) (x:=x)
        have hAe:mdA (mdZ sz n) (mdP E back n) (x+1)=mdA (mdZ sz n) (mdP E back n) x+cntS (szT (mdZ sz n)) (mdP E back n x)*szT (mdZ sz n) x:=rfl
        have hRe:mdR W (mdZ sz n) (mdP E back n) x=mdL W (mdA (mdZ sz n) (mdP E back n) x) (szT (mdZ sz n) x) (cntS (szT (mdZ sz n)) (mdP E back n x)):=rfl
        have hAb:=mdA_le (sz:=sz) (E:=E) (back:=back) h1 h6 (v:=x) (by omega)
        have hxZ:x<(mdZ sz n).length:=by rw [mdZ_len];exact hxn
        have hs1:=hT.szp hxZ
        have hs4:=hT.sz4 hxZ
        have hcb:=hT.cnt
        have gz:=Ns_get (l:=mdZ sz n) hxZ
        have hszg:(mdZ sz n).getD x 0=szT (mdZ sz n) x:=rfl
        rw [hszg] at gz
        have hml:∀j,(mdL W (mdA (mdZ sz n) (mdP E back n) x) (szT (mdZ sz n) x) j).length=j*szT (mdZ sz n) x:=fun j=>mdL_len
        have hmn:∀j,mdL W (mdA (mdZ sz n) (mdP E back n) x) (szT (mdZ sz n) x) (j+1)=mdL W (mdA (mdZ sz n) (mdP E back n) x) (szT (mdZ sz n) x) j++rowOf W (mdA (mdZ sz n) (mdP E back n) x+j*szT (mdZ sz n) x) (szT (mdZ sz n) x):=fun j=>rfl
        have hrn:=lrF_next (sz:=sz) (E:=E) (W:=W) (back:=back) (n:=n) (x:=x)
        rw [hRe] at hrn
        have hZl:(Ns (mdZ sz n)).length=n:=by rw [Ns_len,mdZ_len]
        generalize hcc:cntS (szT (mdZ sz n)) (mdP E back n x)=c at *
        generalize hss:szT (mdZ sz n) x=s at *
        generalize haa:mdA (mdZ sz n) (mdP E back n) x=a at *
        refine W_loop [9,16,17,18,128,129,130,131,132,133,134,135,136,137,138,139,140,141,142,143,144,145,146,147,148,149] (fun j:Nat=>[(17,.f (I j)),(9,.f (I ((a+j*s:Nat):Int))),(16,sl 6 3 ((mdL W a s j).map fr))]) (fun j:Nat=>[oRaw sz E W back,oN0,some ⟨26,3,[ntB vf x]⟩,none,ob 31 1 (lpF E back n (x+1)),ob 32 1 (lrF sz E W back n x),ob 39 3 ((mdL W a s j).map fr)]) (fun j:Nat=>j≤c) (fun j:Nat=>c-j) (0) (Nat.zero_le _) (by refine weak_of ?_ ?_<;>simp (disch:=omega) only [go_sem,Nat.reduceAdd]<;>first|rfl|exact ⟨rfl,rfl⟩|exact Or.inl rfl|exact ⟨Or.inl rfl,Or.inl rfl⟩|trivial|assumption|omega|(symm;assumption)|((repeat' apply And.intro)<;>first|rfl|omega|trivial|exact .inl rfl|exact .inr ⟨rfl,rfl⟩|exact .inr rfl|(right;symm;assumption)|(symm;assumption)|assumption)) ?_
        ·rintro j hj
         simp only [go_sem]
         (repeat (with_reducible first|refine W_seq fun K hK=>?_|refine J_region ?_|refine J_c ?_|(refine Kont.go (by assumption) ?_)|(simp (config:={ maxSteps:=3000000 }) (disch:=omega) only [go_sem])))
         refine Jc_if (fun hjc=>?_) (fun hjc=>?_)<;>try simp only [decide_eq_true_eq,decide_eq_false_iff_not] at hjc
         ·have hjb:j*s≤262144:=Nat.le_trans (Nat.mul_le_mul (show j≤65536 by omega) hs4) (by decide)
          have hrow:=rowOf_good W (a+j*s) s hWw (by omega) hs1 (by omega) hW
          have hnj:=hmn j
          have hlj:=hml j
          have hrl:=rowOf_len W (a+j*s) s
          have hap:(mdL W a s j).map fr++(rowOf W (a+j*s) s).map fr=(mdL W a s (j+1)).map fr:=by rw [hnj,List.map_append]
          have hnt:((a+j*s:Nat):Int)+(s:Int)=((a+(j+1)*s:Nat):Int):=by rw [Nat.succ_mul];omega
          have hbb:(j*s+s)*48≤140737488355328:=by omega
          (repeat (with_reducible first|refine W_seq fun K hK=>?_|refine J_block ?_|refine J_skip ?_|refine J_drawn mixed (by kernel_rfl) ?_|(refine Kont.go (by assumption) ?_)|(simp (config:={ maxSteps:=3000000 }) (disch:=omega) only [go_sem,↓reduceIte,gz])))
          (first|refine call_f (hrow) rfl ?_|refine callQ_f (hrow) rfl ?_|refine callHK_f (hrow) rfl ?_|refine callH_f (hrow) rfl ?_)
          (repeat (first|(with_reducible first|refine W_seq fun K hK=>?_|refine J_region ?_|refine aApp_sl ?_|(refine Kont.go (by assumption) ?_)|(simp (config:={ maxSteps:=3000000 }) (disch:=omega) only [go_sem,Nat.reduceEqDiff,↓reduceIte,Nat.reduceAdd,gz,List.length_map,hlj,hrl,hap,hnt]))|refine And.intro (by omega) ?_))
          refine ⟨j+1,by omega,by omega,weak_of ?_ ?_⟩<;>(try simp (disch:=omega) only [go_sem,Nat.reduceAdd,ntB_kill,hltB])<;>(try first|done|omega|rfl|exact ⟨rfl,rfl⟩|trivial)
         ·have hec:c=j:=by omega
          subst hec
          rw [←hAe]
          (repeat (with_reducible first|refine J_exit ?_|(refine Kont.go (by assumption) ?_)|(simp (config:={ maxSteps:=3000000 }) (disch:=omega) only [go_sem,↓reduceIte])))
          refine J_freeze (j:=16) rfl rfl ?_
          simp only [go_sem,Nat.reduceEqDiff]
          rw [ntB_kill]
          have gst:(AV.f (frs (mdL W a s c))).st=true:=rfl
          have gst2:(frs (mdL W a s c)).st=true:=rfl
          have gce:(frs (mdL W a s c)).cells.length=1:=rfl
          by_cases hx0:x=0
          ·subst hx0
           have e0:lrF sz E W back n 0=[]:=rfl
           have e1:ob 32 1 (lrF sz E W back n 0)=none:=rfl
           rw [e0,List.nil_append] at hrn
           have e2:ob 32 1 (lrF sz E W back n (0+1))=some ⟨32,1,[.f (frs (mdL W a s c))]⟩:=by rw [←hrn];rfl
           rw [e1,ntB_zero]
           (repeat (first|(with_reducible first|refine J_region ?_|refine aApp_old ?_|(refine Kont.go (by assumption) ?_)|(simp (config:={ maxSteps:=3000000 }) (disch:=omega) only [go_sem,Nat.reduceEqDiff,↓reduceIte,Nat.reduceAdd,Nat.reduceLeDiff,Int.reduceAdd,gst]))|refine And.intro (by omega) ?_))
           refine ⟨0+1,by omega,by omega,weak_ren [0,1,2,3,4,8] ⟨by decide,by first|decide|(simp;done)⟩ ?_ ?_⟩<;>(try simp (disch:=omega) only [go_sem,Nat.reduceAdd,e2,ntA_succ])<;>(try first|done|omega|rfl|exact ⟨rfl,rfl⟩|trivial)
          ·obtain ⟨x',rfl⟩:∃x',x=x'+1:=⟨x-1,by omega⟩
           obtain ⟨T,hT0⟩:∃T,T=lrF sz E W back n (x'+1):=⟨_,rfl⟩
           rw [←hT0] at hrn hlrl ⊢
           have hne:T≠[]:=fun h=>by rw [h] at hlrl;simp at hlrl
           have e1:ob 32 1 T=some ⟨32,1,T.map .f⟩:=ob_pos hne
           have e3:ob 32 1 (lrF sz E W back n (x'+1+1))=some ⟨32,1,T.map .f++[.f (frs (mdL W a s c))]⟩:=by rw [←hrn,ob_pos (by simp),List.map_append];rfl
           have e5:(T.map AV.f).take (x'+1)=T.map .f:=List.take_of_length_le (by rw [List.length_map];omega)
           have e6:(x'+1+1)*24≤140737488355328:=by omega
           rw [e1,ntB_succ]
           (repeat (first|(with_reducible first|refine J_region ?_|refine aApp_old ?_|(refine Kont.go (by assumption) ?_)|(simp (config:={ maxSteps:=3000000 }) (disch:=omega) only [go_sem,Nat.reduceEqDiff,↓reduceIte,Nat.reduceAdd,Nat.reduceLeDiff,gst,hlrl,e5,e6,List.length_map]))|refine And.intro (by omega) ?_))
           refine ⟨x'+1+1,by omega,by omega,weak_ren [0,1,2,3,4,8] ⟨by decide,by first|decide|(simp;done)⟩ ?_ ?_⟩<;>(try simp (disch:=omega) only [go_sem,Nat.reduceAdd,e3,ntA_succ,map_ren_f,List.map_append,List.map_cons,List.map_nil])<;>(try first|done|omega|rfl|exact ⟨rfl,rfl⟩|trivial)
    ·have hex:n=x:=by omega
     subst hex
     obtain ⟨n',hn'⟩:∃n',n=n'+1:=⟨n-1,by omega⟩
     have hlp:(lpF E back n n).length=n:=lpF_len
     have hlr:(lrF sz E W back n n).length=n:=lrF_len
     have hp0:lpF E back n n≠[]:=fun h=>by rw [h] at hlp;simp at hlp;omega
     have hr0:lrF sz E W back n n≠[]:=fun h=>by rw [h] at hlr;simp at hlr;omega
     have e1:ob 31 1 (lpF E back n n)=some ⟨31,1,(lpF E back n n).map .f⟩:=ob_pos hp0
     have e2:ob 32 1 (lrF sz E W back n n)=some ⟨32,1,(lrF sz E W back n n).map .f⟩:=ob_pos hr0
     have e3:ntA vf n=.agg [.f vf,.own 4 1 0 n,.own 5 1 0 n]:=by rw [hn'];rfl
     have hoc:vf.oc=true:=by rw [hvf];rfl
     rw [e1,e2,e3]
     (repeat (with_reducible first|refine W_seq fun K hK=>?_|refine J_exit ?_|refine J_ret ?_|refine J_region ?_|(refine Kont.go (by assumption) ?_)|(simp (config:={ maxSteps:=3000000 }) (disch:=omega) only [go_sem,↓reduceIte,Nat.reduceAdd,hoc])))
     have e4:netV (mdV sz n) ((mdI E back n).map ints) ((mdM sz E W back n).map frs)=.agg [vf,.fz 1 (lpF E back n n),.fz 1 (lrF sz E W back n n)]:=by rw [lpF_all,lrF_all,hvf,vaF_all]
     rw [e4]
     exact Frz.aggL (FrzL.cons (.f _) (FrzL.cons (Frz.own0 rfl (by rw [hlp])) (FrzL.cons (Frz.own0 rfl (by rw [hlr])) (FrzL.nil _))))
end Go.Proofs.YthehegidpamldaaGreatDoor
