/- Graphs without some ways: in order still; what doors and rules tell. Plain Lean. Conditions: none. -/
import Derived.Test.YtgjnbcfencallaaDoorZB13
import Derived.Test.YtgjnbcfencallaaDoorZB06
import Derived.Test.YtgjnbcfencallaaDoorZB05
import Derived.Laws.StructEq
import Derived.MapKept
import Derived.WideKeyRuns
set_option linter.unusedVariables false
set_option linter.unusedSimpArgs false
namespace Go.Proofs.YtgjnbcfencallaaDoor
open Go Go.RowKit
theorem ris_pw {n:Nat} {l:List Int}:risB n l=true↔l.Pairwise (·< ·)∧∀x∈l,0≤x∧x<(n:Int):=by
 rw [risB_iff]
 constructor
 ·intro h
  have hlt:∀i j,i<j→j<l.length→l.getD i 0<l.getD j 0:=by
   intro i j
   induction j with
   | zero=>intro h;omega
   | succ j ih =>
    intro hij hj
    have h1:=(h (j+1) hj).1
    rw [prevI_next] at h1
    by_cases e:i=j
    ·subst e;exact h1
    ·have:=ih (by omega) (by omega);omega
  have hnn:∀j,j<l.length→0≤l.getD j 0:=by
   intro j hj
   have h0:=(h 0 (by omega)).1
   have e:prevI l 0=-1:=rfl
   rw [e] at h0
   by_cases e:j=0
   ·subst e;omega
   ·have:=hlt 0 j (by omega) hj;omega
  refine ⟨List.pairwise_iff_getElem.2 fun i j hi hj hij=>?_,fun x hx=>?_⟩
  ·have:=hlt i j hij hj
   rwa [lget_lt l 0 hi,lget_lt l 0 hj] at this
  ·obtain ⟨j,hj,rfl⟩:=List.getElem_of_mem hx
   have h1:=hnn j hj
   have h2:=(h j hj).2
   rw [lget_lt l 0 hj] at h1 h2
   exact ⟨h1,h2⟩
 ·rintro ⟨h1,h2⟩ x hx
  have hp:=List.pairwise_iff_getElem.1 h1
  rw [lget_lt l 0 hx]
  refine ⟨?_,(h2 _ (List.getElem_mem hx)).2⟩
  cases x with
  | zero =>
   have e:prevI l 0=-1:=rfl
   rw [e]
   have:=(h2 _ (List.getElem_mem hx)).1
   omega
  | succ x=>rw [prevI_next,lget_lt l 0 (by omega)];exact hp x (x+1) (by omega) hx (by omega)
theorem ris_filter {n:Nat} {l:List Int} {p:Int→Bool} (h:risB n l=true):risB n (l.filter p)=true:=by
 rw [ris_pw] at h ⊢
 exact ⟨h.1.filter _,fun x hx=>h.2 x (List.mem_filter.1 hx).1⟩
theorem ord_some {n:Nat} {P:List Nat} (hg:GP n P) {rk:Nat→Nat} (hrk:∀u v,paO P u v=true→rk u<rk v):(ordN P n n []).isSome=true:=by
 suffices h:∀(k:Nat) (done:List Nat),OrdI P n done→done.length+k=n→(ordN P n k done).isSome=true from h n [] OrdI.nil (by simp)
 intro k
 induction k with
 | zero=>intro done _ _;rfl
 | succ k ih =>
  intro done hd hk
  have hfree:∃v,v<n∧freB P n done v=true:=by
   have hex:∃v,v<n∧v∉done:=by
    refine Classical.byContradiction fun hn=>?_
    have hsub:∀v,v∈List.range n→v∈done:=fun v hv=>by
     refine Classical.byContradiction fun h=>hn ⟨v,List.mem_range.1 hv,h⟩
    have:=List.Nodup.length_le_of_subset (List.nodup_range (n:=n)) hsub
    simp at this
    omega
   suffices h:∀(m:Nat) (v:Nat),rk v<m→v<n→v∉done→∃v,v<n∧freB P n done v=true by
    obtain ⟨v,hv,hvd⟩:=hex
    exact h _ v (Nat.lt_succ_self _) hv hvd
   intro m
   induction m with
   | zero=>intro v h;omega
   | succ m ih2 =>
    intro v hm hv hvd
    by_cases hp:∀u,paO P u v=true→u∈done
    ·exact ⟨v,hv,(freB_iff hg.pa).2 ⟨hvd,hp⟩⟩
    ·obtain ⟨u,hu⟩:=Classical.not_forall.1 hp
     obtain ⟨hu1,hu2⟩:=Classical.not_imp.1 hu
     exact ih2 u (by have:=hrk u v hu1;omega) (hg.pa u v hu1).1 hu2
  show (match nxtV P n done with|none=>none|some v=>ordN P n k (done++[v])).isSome=true
  cases hv:nxtV P n done with
  | none =>
   obtain ⟨v,hv1,hv2⟩:=hfree
   unfold nxtV at hv
   rw [List.find?_eq_none] at hv
   exact absurd hv2 (hv v (List.mem_range.2 hv1))
  | some v=>exact ih (done++[v]) (hd.next hg.pa hv) (by simp;omega)
section
variable {L : List (List Int)} {A B : List Int} {u v : Nat}
theorem cutI_len:(cutI L A B).length=L.length:=by simp [cutI]
theorem cutI_get (h:v<L.length):(cutI L A B).getD v []=(L.getD v []).filter (keepI v A B):=by
 rw [lget_lt _ [] (by rw [cutI_len];exact h)]
 simp [cutI]
theorem cutI_mem {l:List Int} (h:l∈cutI L A B):∃v,v<L.length∧l=(L.getD v []).filter (keepI v A B):=by
 obtain ⟨v,hv,e⟩:=List.mem_map.1 h
 exact ⟨v,List.mem_range.1 hv,e.symm⟩
theorem cutI_ok (h:OkIss L):OkIss (cutI L A B):=by
 refine ⟨by rw [cutI_len];exact h.1,fun l hl=>?_⟩
 obtain ⟨v,hv,rfl⟩:=cutI_mem hl
 have hm:=h.2 _ (List.getElem_mem hv)
 rw [lget_lt L [] hv]
 exact ⟨Nat.le_trans (List.length_filter_le _ _) hm.1,fun x hx=>hm.2 x (List.mem_filter.1 hx).1⟩
theorem cutI_cut {C D:List Int}:cutI (cutI L A B) C D=cutI L (A++C) (B++D):=by
 unfold cutI
 rw [show ((List.range L.length).map fun v=>(L.getD v []).filter (keepI v A B)).length=L.length by simp]
 refine List.map_congr_left fun v hv=>?_
 have e:=cutI_get (L:=L) (A:=A) (B:=B) (List.mem_range.1 hv)
 unfold cutI at e
 rw [e,List.filter_filter]
 congr 1
 funext u
 unfold keepI
 rw [Bool.eq_iff_iff]
 simp only [Bool.and_eq_true,Bool.not_eq_true',decide_eq_false_iff_not,List.mem_append,not_or]
 exact ⟨fun ⟨⟨a,b⟩,c,d⟩=>⟨⟨c,a⟩,d,b⟩,fun ⟨⟨c,a⟩,d,b⟩=>⟨⟨a,b⟩,c,d⟩⟩
theorem node_ris (h:nodeB L v=true):risB L.length (L.getD v [])=true:=(Bool.and_eq_true_iff.1 h).1
theorem cut_pa (hb:listsB L=true) (hv:v<L.length) (h:paO (setsOf (cutI L A B)) u v=true) (hr:risB L.length ((L.getD v []).filter (keepI v A B))=true):paO (setsOf L) u v=true:=by
 obtain ⟨⟨h1,h8⟩,hn⟩:=listsB_iff.1 hb
 unfold paO at h ⊢
 rw [setsOf_get hv]
 rw [setsOf_get (by rw [cutI_len];exact hv)] at h
 have e:=cutI_get (L:=L) (A:=A) (B:=B) hv
 rw [lget_lt _ [] (by rw [cutI_len];exact hv)] at e
 rw [e,cutI_len] at h
 have hr0:=node_ris (hn v hv)
 unfold readS at h ⊢
 rw [if_pos hr,set_mem hr] at h
 rw [←lget_lt L [] hv,if_pos hr0,set_mem hr0]
 exact decide_eq_true (List.mem_filter.1 (of_decide_eq_true h)).1
theorem cut_lists (hb:listsB L=true):listsB (cutI L A B)=true:=by
 obtain ⟨⟨h1,h8⟩,hn⟩:=listsB_iff.1 hb
 refine listsB_iff.2 ⟨by rw [cutI_len];exact ⟨h1,h8⟩,fun v hv=>?_⟩
 rw [cutI_len] at hv
 have hr:=ris_filter (p:=keepI v A B) (node_ris (hn v hv))
 have hnv:=hn v hv
 unfold nodeB at hnv ⊢
 rw [cutI_len,cutI_get hv,hr,Bool.true_and]
 rw [node_ris (hn v hv),Bool.true_and] at hnv
 unfold readS at hnv ⊢
 rw [if_pos hr,set_mem hr]
 rw [if_pos (node_ris (hn v hv)),set_mem (node_ris (hn v hv))] at hnv
 rw [Bool.not_eq_true',decide_eq_false_iff_not] at hnv ⊢
 exact fun h=>hnv (List.mem_filter.1 h).1
theorem cut_ord (h:ordE L=0):ordE (cutI L A B)=0:=by
 obtain ⟨hb,o,ho⟩:=ord_ok h
 have hcb:=cut_lists (A:=A) (B:=B) hb
 obtain ⟨rk,_,hrk⟩:=ord_rank (GP.of hb).pa ho
 have hg:=GP.of hcb
 obtain ⟨⟨h1,h8⟩,hn⟩:=listsB_iff.1 hb
 have hs:=ord_some hg (rk:=rk) fun u v huv=>by
  have hv:v<L.length:=by have:=(hg.pa u v huv).2;rwa [cutI_len] at this
  exact hrk u v (cut_pa hb hv huv (ris_filter (node_ris (hn v hv))))
 unfold ordE
 rw [if_pos hcb,if_pos hs]
theorem cut_rows8 (h:ordE L=0):∀l∈L,l.length≤8:=by
 obtain ⟨hb,_⟩:=ord_ok h
 obtain ⟨⟨h1,h8⟩,hn⟩:=listsB_iff.1 hb
 intro l hl
 obtain ⟨v,hv,rfl⟩:=List.getElem_of_mem hl
 have:=ris_len8 h8 (node_ris (hn v hv))
 rwa [lget_lt L [] hv] at this
end
def belT (L:List (List Int)) (x:Int) (u:Nat):Bool:=decide ((u:Int)≠x)&&decide (x∈(abvL L [(u:Int)]).map Int.ofNat)
def belK (L:List (List Int)) (x:Int) (k:Nat):List Int:=((List.range k).filter (belT L x)).map fun u:Nat=>(u:Int)
def belI (L:List (List Int)) (x:Int):List Int:=belK L x L.length
theorem belK_next {L:List (List Int)} {x:Int} {k:Nat}:belK L x (k+1)=belK L x k++if belT L x k=true then [(k:Int)] else []:=by
 unfold belK
 rw [List.range_succ,List.filter_append,List.map_append]
 congr 1
 cases e:belT L x k<;>simp [e]
theorem belK_len {L:List (List Int)} {x:Int} {k:Nat}:(belK L x k).length≤k:=by
 unfold belK
 rw [List.length_map]
 exact Nat.le_trans (List.length_filter_le _ _) (by simp)
def setsX (L:List (List Int)) (x y:Int) (z:List Int):Int:=setsE L [[x],[y],z]
def bdX (L:List (List Int)) (x:Int) (z:List Int):Bool:=z.any fun v=>wsh (paO (setsOf L)) L.length x.toNat v.toNat
def bdB (L:List (List Int)) (x y:Int) (z:List Int):Bool:=if setsX L x y z≠0 then false else if bdX L x z=true then false else aprB (cutI L [] [x]) [x] [y] z
def bdE (L:List (List Int)) (x y:Int) (z:List Int):Int:=if setsX L x y z≠0 then setsX L x y z else 0
theorem sets_ok {L LL:List (List Int)} (h:setsE L LL=0):ordE L=0∧apOk L.length LL=true:=by
 unfold setsE at h
 split at h
 ·rename_i h1;exact absurd h h1
 ·rename_i h1
  split at h
  ·rename_i h2;exact ⟨Classical.not_not.1 h1,h2⟩
  ·cases h
theorem one_els {n:Nat} {x:Int} (h:risB n [x]=true):0≤x∧x<(n:Int):=(ris_pw.1 h).2 x (by simp)
theorem abv_one {L:List (List Int)} {u:Nat} {x:Int} (h0:ordE L=0) (hu:u<L.length) (hx:0≤x∧x<(L.length:Int)):x∈(abvL L [(u:Int)]).map Int.ofNat↔wsh (paO (setsOf L)) L.length x.toNat u=true:=by
 have hr:risB L.length [(u:Int)]=true:=ris_pw.2 ⟨by simp,fun y hy=>by rw [List.mem_singleton.1 hy];omega⟩
 obtain ⟨hb,_⟩:=ord_ok h0
 have hg:=GP.of hb
 unfold abvL
 rw [if_pos ⟨h0,hr⟩]
 have e:x=Int.ofNat x.toNat:=by simp;omega
 rw [List.mem_map]
 have hsu:∀v,(setI [(u:Int)]).testBit v=decide (v=u):=fun v=>by
  rw [set_mem hr]
  by_cases e:v=u
  ·subst e;simp
  ·have:¬((v:Int)=(u:Int)):=by omega
   simp [this,e]
 constructor
 ·rintro ⟨a,ha,rfl⟩
  have ha:=(els_mem.1 ha).2
  rw [abv_bit,Bool.and_eq_true,decide_eq_true_eq] at ha
  obtain ⟨z,hz,h1,h2⟩:=(anO_iff ha.1).1 ha.2
  rw [hsu] at h1
  have:=of_decide_eq_true h1
  subst this
  exact (wsh_iff ha.1 hz).2 h2
 ·intro h
  refine ⟨x.toNat,els_mem.2 ⟨by have:=hg.n8;omega,?_⟩,e.symm⟩
  rw [abv_bit,Bool.and_eq_true,decide_eq_true_eq]
  exact ⟨by omega,(anO_iff (by omega)).2 ⟨u,hu,by rw [hsu];simp,(wsh_iff (by omega) hu).1 h⟩⟩
theorem bel_mem {L:List (List Int)} {x v:Int} (h0:ordE L=0) (hx:0≤x∧x<(L.length:Int)):v∈belI L x↔v≠x∧0≤v∧v<(L.length:Int)∧wsh (paO (setsOf L)) L.length x.toNat v.toNat=true:=by
 unfold belI belK
 rw [List.mem_map]
 constructor
 ·rintro ⟨u,hu,rfl⟩
  obtain ⟨hu,h⟩:=List.mem_filter.1 hu
  have hu:=List.mem_range.1 hu
  obtain ⟨h1,h2⟩:=Bool.and_eq_true_iff.1 h
  exact ⟨of_decide_eq_true h1,by omega,by omega,by rw [Int.toNat_natCast];exact (abv_one h0 hu hx).1 (of_decide_eq_true h2)⟩
 ·rintro ⟨h1,h2,h3,h4⟩
  obtain ⟨u,rfl⟩:∃u:Nat,v=(u:Int):=⟨v.toNat,by omega⟩
  rw [Int.toNat_natCast] at h4
  refine ⟨u,List.mem_filter.2 ⟨List.mem_range.2 (by omega),?_⟩,rfl⟩
  exact Bool.and_eq_true_iff.2 ⟨decide_eq_true h1,decide_eq_true ((abv_one (L:=L) h0 (by omega) hx).2 h4)⟩
theorem apr_zero {L:List (List Int)} {A B x y z:List Int} (h:ordE L=0) (ha:apOk L.length [x,y,z]=true):aprE (cutI L A B) x y z=0:=by
 unfold aprE
 rw [if_neg (by rw [cut_ord h];decide),if_pos (by rw [cutI_len];exact ha)]
theorem bd_in {L:List (List Int)} {x y:Int} {z:List Int} (h:setsX L x y z=0):(0≤x∧x<(L.length:Int))∧(0≤y∧y<(L.length:Int))∧risB L.length z=true∧x∉z∧y∉z∧x≠y:=by
 obtain ⟨h0,ha⟩:=sets_ok h
 obtain ⟨h1,h2,h3⟩:=ap_ris ha
 have hn:=of_decide_eq_true (Bool.and_eq_true_iff.1 ha).2
 have hn:(x::y::z).Nodup:=by simpa using hn
 rw [List.nodup_cons,List.nodup_cons] at hn
 refine ⟨one_els h1,one_els h2,h3,fun h=>hn.1 (by simp [h]),hn.2.1,fun h=>hn.1 (by simp [h])⟩
theorem bd_any {L:List (List Int)} {x y:Int} {z:List Int} (h:setsX L x y z=0):bdX L x z=(belI L x).any fun v=>decide (v∈z):=by
 obtain ⟨hx,hy,hz,hxz,hyz,hxy⟩:=bd_in h
 have h0:=(sets_ok h).1
 have hzr:=(ris_pw.1 hz).2
 unfold bdX
 rw [Bool.eq_iff_iff,List.any_eq_true,List.any_eq_true]
 constructor
 ·rintro ⟨v,hv,hw⟩
  exact ⟨v,(bel_mem h0 hx).2 ⟨fun e=>hxz (e▸hv),(hzr v hv).1,(hzr v hv).2,hw⟩,decide_eq_true hv⟩
 ·rintro ⟨v,hv,hd⟩
  exact ⟨v,of_decide_eq_true hd,((bel_mem h0 hx).1 hv).2.2.2⟩
end Go.Proofs.YtgjnbcfencallaaDoor
set_option linter.unusedVariables false
set_option linter.unusedSimpArgs false
namespace Go.Proofs.YtgjnbcfencallaaDoor
open Go Go.RowKit
theorem Frz.grow {H H':List (Option AO)} (hH:∀(r:Nat) o,H[r]?=some (some o)→H'[r]?=some (some o)) {x:AV} {y:FV} (h:Frz H x y):Frz H' x y:=by
 induction h with
 | f x=>exact .f x
 | nil sz=>exact .nil sz
 | agg cs ds hl _ ih=>exact .agg cs ds hl ih
 | tup cs ds hl _ ih=>exact .tup cs ds hl ih
 | own r sz off k o ds ho hs hk hl _ ih=>exact .own r sz off k o ds (hH r o ho) hs hk hl ih
 | ptr r sz i j o e d ho hs he _ ih=>exact .ptr r sz i j o e d (hH r o ho) hs he ih
 | fn f a b a' b' h1 _ h3 _ ih1 ih2=>exact .fn f a b a' b' h1 ih1 h3 ih2
theorem callU_fz {P:Program} {f:FuncId} {zs:List FV} {r:FV} (hg:Good P f zs r) {q:Nat} {o:AO} {H:AH} (hq:H[q]?=some (some o)) {xs:List AV} (hz:FrzL (List.replicate q none++[some o]) xs zs) :
  CallU P f xs H (fun u G=>u=.f r∧G=H.set q none):=by
 refine ⟨hg.1,fun X w F loc t a ys R hys=>?_⟩
 have hqN:=hlt hq
 obtain ⟨H1,hH1⟩:∃H1:AH,H1=(List.replicate H.length none).set q (some o):=⟨_,rfl⟩
 have hl1:H1.length=H.length:=by rw [hH1];simp
 have h1:∀(r:Nat) p,H1[r]?=some (some p)→r=q∧p=o:=fun r p h=>by
  rw [hH1] at h
  by_cases e:r=q
  ·subst e
   rw [List.getElem?_set_self (by simpa using hqN)] at h
   cases h;exact ⟨rfl,rfl⟩
  ·rw [List.getElem?_set_ne (Ne.symm e),List.getElem?_replicate] at h
   split at h<;>cases h
 have h1q:H1[q]?=some (some o):=by rw [hH1,List.getElem?_set_self (by simpa using hqN)]
 have R1:RelF X F loc ⟨t,H1⟩ a w:=R.drop hl1 fun r p h=>by obtain ⟨rfl,rfl⟩:=h1 r p h;exact hq
 have R2:=R.freeze hq
 have hzz:FrzL H1 xs zs:=⟨hz.1,fun j x z hx hz'=>(hz.2 j x z hx hz').grow fun r p h=>by
  have hr:=glt h
  rw [List.length_append,List.length_replicate] at hr
  simp at hr
  by_cases e:r=q
  ·subst e
   rw [List.getElem?_append_right (by simp)] at h
   simp at h
   subst h;exact h1q
  ·rw [List.getElem?_append_left (by simp;omega),List.getElem?_replicate] at h
   split at h<;>cases h⟩
 have hargs:(zs.map AV.f).length=ys.size∧∀(j:Nat) x,(zs.map AV.f)[j]?=some x→Rep w (fun b=>F b∨b=(loc q).1) loc (H.set q none).length x (ys.getD j undef):=by
  refine ⟨by rw [List.length_map,←hz.1];exact hys.1,fun j x hj=>?_⟩
  rw [List.getElem?_map] at hj
  cases hzj:zs[j]? with
  | none=>rw [hzj] at hj;cases hj
  | some z =>
   rw [hzj] at hj
   cases hj
   have hjl:=glt hzj
   have hxj:=List.getElem?_eq_getElem (l:=xs) (i:=j) (by rw [hz.1];exact hjl)
   have:=((hzz.2 j _ z hxj hzj).rep R1).1 _ (by show Rep w F loc H1.length _ _;rw [hl1];exact hys.2 j _ hxj)
   refine .f _ _ (this.mono (fun b hb=>?_) fun _ _ _ _ h=>h)
   rcases hb with hb|⟨r,p,hr,e⟩
   ·exact .inl hb
   ·obtain ⟨rfl,_⟩:=h1 r p hr
    exact .inr e.symm
 refine (hg.2 w _ ys R2.tabW R2.hF ⟨by rw [←hz.1];exact hys.1,fun j z hj=>?_⟩).mono ?_
 ·have:=hargs.2 j (.f z) (by rw [List.getElem?_map,hj];rfl)
  cases this with|f _ _ h=>exact h
 ·rintro e w' ⟨v,rfl,hb,hr⟩
  refine ⟨v,_,loc,.f r,H.set q none,⟨rfl,rfl⟩,rfl,R2.step (F':=fun b=>(F b∨b=(loc q).1)∨(w.heap.size≤b∧b<w'.heap.size)) hb (fun b h=>.inl h) (fun b h=>?_) (fun b h=>?_),.f _ _ hr⟩
  ·rcases h with h|h
   ·exact beyond_step_le hb b (R2.hF b h)
   ·exact h.2
  ·rcases h with h|h
   ·exact .inl h
   ·exact .inr h.1
theorem call_ff {P:Program} {s:AS} {K:AS→Prop} {f:FuncId} {d:Option Tmp} {vs zs:List FV} {r:FV} (hg:Good P f zs r) (hz:FrzL s.H (vs.map .f) zs) (hK:K (s.put d (.f r))):acall P f (vs.map .f) s d K :=
 .inl ⟨zs,r,hz,hg,.inl fun x hx=>by obtain ⟨y,_,rfl⟩:=List.mem_map.1 hx;exact ⟨y,rfl⟩,hK⟩
theorem J_drop {X:Cx} {P:Program} (ws:List Nat) {c:Code} {Q:Exit→AS→Prop} {t:List AV} {H:AH} (hw:Weak ⟨t,H⟩ ⟨msk ws t,[]⟩) (hJ:J X P c Q ⟨msk ws t,[]⟩):J X P c Q ⟨t,H⟩:=J_weak hw hJ
theorem Good.ofO {P:Program} {f:FuncId} {xs:List FV} {l:List Int} (h:GoodO P f xs (rvZ l)):Good P f xs (ints l):=by
 refine ⟨h.1,fun w G ys h1 h2 h3=>(h.2 w G ys h1 h2 h3).mono ?_⟩
 rintro e w' ⟨v,he,hb,hr⟩
 refine ⟨v,he,hb,?_⟩
 unfold rvZ at hr
 split at hr
 ·rename_i hl
  subst hl
  cases hr with
  | f _ _ hf h=>cases h;exact .fz0 _ _ _ (by unfold maxLen;omega)
 ·cases hr with
  | own _ _ _ g cap hbg hk hm hf hu vs hv hs hc =>
   have hg:=(Array.getElem?_eq_some_iff.1 (show w'.heap[g]?=some _ from hv)).1
   refine .fz 1 (l.map I) g 0 cap (.inr ⟨hbg,hg⟩) hk hm hu (fun j=>vs.getD j undef) (fun j c hj=>?_) (fun j c hj=>?_)
   ·obtain ⟨u,h1,_⟩:=hc j c hj
    show w'.cell? ⟨g,0+j,none⟩=some (vs.getD j undef)
    rw [Nat.zero_add]
    unfold World.cell?
    rw [show w'.heap[(⟨g,j,none⟩:Addr).block]?=_ from hv]
    simp only [Option.isSome_none,Bool.false_eq_true,if_false]
    rw [h1,Array.getD_eq_getD_getElem?,h1];rfl
   ·obtain ⟨u,h1,h2⟩:=hc j c hj
    show RepF w' _ c (vs.getD j undef)
    rw [Array.getD_eq_getD_getElem?,h1]
    exact h2.mono (fun _ h=>h.elim) (fun _ _ _ h=>h.elim)
end Go.Proofs.YtgjnbcfencallaaDoor
set_option linter.unusedVariables false
set_option linter.unusedSimpArgs false
namespace Go.Proofs.YtgjnbcfencallaaDoor
open Go Go.RowKit
abbrev Hd:=Nat→Option Obj
def Cx.wh (X:Cx) (h:Hd):Cx:={ X with hold:=h }
def Hd.put (h:Hd) (b:Nat) (o:Obj):Hd:=fun k=>if k=b then some o else h k
def Hd.one (b:Nat) (o:Obj):Hd:=fun k=>if k=b then some o else none
theorem Hd.one_put {b:Nat} {o o':Obj}:(Hd.one b o).put b o'=Hd.one b o':=by
 funext k;unfold Hd.put Hd.one;split<;>rfl
theorem Hd.one_self {b:Nat} {o:Obj}:Hd.one b o b=some o:=if_pos rfl
section
variable {P : Program} {X : Cx} {w : World} {F : Nat → Prop} {loc : Nat → Nat × Nat} {s : AS} {a : Act} {h h' : Hd}
theorem RelF.unhold (R:RelF (X.wh h) F loc s a w) (hX:X.hold=fun _=>none):RelF X F loc s a w :=
 ⟨R.hF,R.hG,R.hN,R.below,⟨R.defers.1,R.defers.2.1,R.defers.2.2.1,R.defers.2.2.2.1,fun b o hb=>by rw [hX] at hb;cases hb⟩,R.len,R.tmps,R.obj,R.new,R.nF,R.inj⟩
theorem wh_none (hX:X.hold=fun _=>none):X.wh (fun _=>none)=X:=by unfold Cx.wh;rw [←hX]
theorem RelF.newMap (R:RelF (X.wh h) F loc s a w) (o:Obj) (ho:∃es c,o=.map es c) :
  RelF (X.wh (h.put w.heap.size o)) (fun b=>F b∨b=w.heap.size) loc s a (w.alloc o):=by
 have R1:=R.allocO o
 have hsz:(w.alloc o).heap.size=w.heap.size+1:=by simp
 have T:Tr F loc s.H.length (w.alloc o) (fun b=>F b∨b=w.heap.size) loc s.H.length (w.alloc o):=Tr.old (fun _ _=>rfl) (fun _ h=>.inl h) (by simp) (fun _ _=>rfl)
 have hX:X.w0.heap.size≤w.heap.size:=R.below.size
 refine ⟨fun b hb=>?_,fun b hb=>.inl (R1.hG b hb),fun b hb=>?_,R1.below,⟨R1.defers.1.mono (fun _ h=>.inl h) fun _ _=>rfl,R1.defers.2.1,R1.defers.2.2.1,R1.defers.2.2.2.1,fun b o' hb=>?_⟩,R1.len,fun j x hx=>(R1.tmps j x hx).tr T,fun r p hr=>(R1.obj r p hr).tr T (hlt hr) rfl,R1.new,fun r p hr hf=>?_,R1.inj⟩
 ·rcases hb with hb|rfl
  ·exact R1.hF b hb
  ·rw [hsz];omega
 ·rcases hb with hb|rfl
  ·exact R1.hN b hb
  ·exact .inr (.inr hX)
 ·have hb:(if b=w.heap.size then some o else h b)=some o':=hb
  split at hb
  ·rename_i e;cases hb;subst e;exact ⟨ho,.inr rfl,by have:=World.alloc_heap_new w o;exact this⟩
  ·obtain ⟨h1,h2,h3⟩:=R1.defers.2.2.2.2 b o' hb
   exact ⟨h1,.inl h2,h3⟩
 ·rcases hf with hf|hf
  ·exact R1.nF r p hr hf
  ·obtain ⟨vs,hv⟩:=own_cells R hr
   have:=(Array.getElem?_eq_some_iff.1 hv).1
   omega
theorem RelF.setMap (R:RelF (X.wh h) F loc s a w) {b:Nat} {o o':Obj} (hb:h b=some o) (hb0:X.w0.heap.size≤b) (ho:∃es c,o'=.map es c):RelF (X.wh (h.put b o')) F loc s a (w.putObj b o'):=by
 obtain ⟨⟨es,c,rfl⟩,hbF,hbw⟩:=R.defers.2.2.2.2 b o hb
 have hoth:∀k,k≠b→(w.putObj b o').heap[k]?=w.heap[k]?:=fun k hk=>World.putObj_heap_other hk
 have hcell:∀k q u,w.cell? ⟨k,q,none⟩=some u→k≠b:=fun k q u hc e=>by
  subst e
  unfold World.cell? at hc
  rw [hbw] at hc
  cases hc
 have T:Tr F loc s.H.length w F loc s.H.length (w.putObj b o'):=⟨fun _ h=>h,fun k q u _ hc=>by rw [cell_of_block (hoth k (hcell k q u hc))];exact hc,Nat.le_refl _,fun _ _=>rfl⟩
 refine ⟨fun k hk=>by rw [World.putObj_size];exact R.hF k hk,R.hG,R.hN,R.below.trans ⟨rfl,rfl,rfl,by rw [World.putObj_size];exact Nat.le_refl _,fun k _ hno=>hoth k fun e=>hno (.inr (by rw [e];exact hb0))⟩,⟨⟨fun d hd=>?_,R.defers.1.2⟩,R.defers.2.1,R.defers.2.2.1,R.defers.2.2.2.1,fun k p hk=>?_⟩,R.len,fun j x hj=>(R.tmps j x hj).tr T,fun r q hr=>?_,R.new,R.nF,R.inj⟩
 ·obtain ⟨D,e,hf,hB,hD⟩:=R.defers.1.1 d hd
  exact ⟨D,e,hf,hB,(hoth D fun e=>by rw [e,hbw] at hD;cases hD).trans hD⟩
 ·have hk:(if k=b then some o' else h k)=some p:=hk
  split at hk
  ·rename_i e;cases hk;subst e;exact ⟨ho,hbF,World.putObj_heap_same (R.hF _ hbF)⟩
  ·rename_i e
   obtain ⟨h1,h2,h3⟩:=R.defers.2.2.2.2 k p hk
   exact ⟨h1,h2,(hoth k e).trans h3⟩
 ·obtain ⟨vs,hv⟩:=own_cells R hr
  exact (R.obj r q hr).tr T (hlt hr) (hoth _ fun e=>by rw [e,hbw] at hv;cases hv)
def aopX (X:Cx) (P:Program) (o:Oper) (K:Hd→AS→Prop) (h:Hd) (s:AS):Prop :=
 match o.op with
 | .makeMap t none=>∀b,X.w0.heap.size≤b→K (h.put b (.map #[] 0)) (s.put o.dst (.f (.v (.map (some b)))))
 | .lookup t m k false=>∃(b:Nat) (ob:Obj) (x:FV) (kv r:Value),s.ev m=.f (.v (.map (some b)))∧h b=some ob∧s.ev k=.f x∧x.val=some kv∧(∀w:World,w.heap[b]?=some ob→(Instr.lookup t (.map (some b)) kv false).run P w=.ok r w)∧K h (s.put o.dst (.f (.v r)))
 | .mapUpdate t m k x=>∃(b:Nat) (ob ob':Obj) (y z:FV) (kv xv:Value),s.ev m=.f (.v (.map (some b)))∧h b=some ob∧X.w0.heap.size≤b∧s.ev k=.f y∧y.val=some kv∧s.ev x=.f z∧z.val=some xv ∧
   (∀w:World,w.heap[b]?=some ob→(Instr.mapUpdate t (.map (some b)) kv xv).run P w=.ok () (w.putObj b ob'))∧(∃es c,ob'=.map es c)∧K (h.put b ob') (s.put o.dst (.f (.v undef)))
 | _=>aop P o (K h) s
def aopsX (X:Cx) (P:Program) (ops:Array Oper):List Oper→(Hd→AS→Prop)→Hd→AS→Prop
 | [],K,h,s=>K h s
 | o::rest,K,h,s=>awant ops o s (aopX X P o (aopsX X P ops rest K) h s) (aopsX X P ops rest K h (s.put o.dst (.f (.v undef))))
theorem aopX_sound {n:Nat} (R:RelF (X.wh h) F loc s a w) {o:Oper} (hd:∀j,o.dst=some j→X.kp j=false) {K:Hd→AS→Prop} (hK:aopX X P o K h s) {Q:Exit→Act→World→Prop} :
  o.wpIn (fen X.rd) n P a w (fun a' w'=>∃h' s',K h' s'∧Rel (X.wh h') s' a' w') Q:=by
 unfold aopX at hK
 split at hK
 ·rename_i t hop
  have hb0:X.w0.heap.size≤w.heap.size:=R.below.size
  have hk:=hK w.heap.size hb0
  have hrun:(execOp a.eval o).run P w=.ok (.value (.map (some w.heap.size))) (w.alloc (.map #[] 0)):=by
   simp [execOp,hop,Instr.makeMap]
  refine in_of hrun (nd hop) ?_
  exact ⟨_,_,hk,_,loc,(R.newMap (.map #[] 0) ⟨_,_,rfl⟩).put o.dst (.f _ _ (.v _)) hd⟩
 ·rename_i t m k hop
  obtain ⟨b,ob,x,kv,r,hm,hb,hk,hx,hrun,hK⟩:=hK
  obtain ⟨_,_,hbw⟩:=R.defers.2.2.2.2 b ob hb
  have e1:=R.ev m
  rw [hm] at e1
  have e2:=R.ev k
  rw [hk] at e2
  have e1:=v_rep e1
  have e3:a.eval k=kv:=by cases e2 with|f _ _ h=>exact val_rep hx h
  have hr:=hrun w hbw
  have:(execOp a.eval o).run P w=.ok (.value r) w:=by simp [execOp,hop,e1,e3,hr]
  refine in_of this (nd hop) ?_
  exact ⟨_,_,hK,_,loc,R.put o.dst (.f _ _ (.v _)) hd⟩
 ·rename_i t m k x hop
  obtain ⟨b,ob,ob',y,z,kv,xv,hm,hb,hb0,hk,hy,hx,hz,hrun,ho,hK⟩:=hK
  obtain ⟨_,_,hbw⟩:=R.defers.2.2.2.2 b ob hb
  have e1:=R.ev m
  rw [hm] at e1
  have e2:=R.ev k
  rw [hk] at e2
  have e4:=R.ev x
  rw [hx] at e4
  have e1:=v_rep e1
  have e3:a.eval k=kv:=by cases e2 with|f _ _ h=>exact val_rep hy h
  have e5:a.eval x=xv:=by cases e4 with|f _ _ h=>exact val_rep hz h
  have hr:=hrun w hbw
  have:(execOp a.eval o).run P w=.ok .skip (w.putObj b ob'):=by simp [execOp,hop,e1,e3,e5,hr]
  refine in_of this (nd hop) ?_
  exact ⟨_,_,hK,_,loc,(R.setMap hb hb0 ho).put o.dst (.f _ _ (.v _)) hd⟩
 ·exact Oper.wpIn_mono (fun a' w' ⟨s',h1,h2⟩=>⟨h,s',h1,h2⟩) (aop_sound (X:=X.wh h) R hd hK)
theorem aopsX_sound {m:Nat} {ops:Array Oper} (hk:∀(i:Nat) o,ops[i]?=some o→∀j,o.dst=some j→X.kp j=false):∀(n i:Nat) (K:Hd→AS→Prop) (h:Hd) (s:AS) (a:Act) (w:World),i+n=ops.size→aopsX X P ops (ops.toList.drop i) K h s→Rel (X.wh h) s a w→∀{Q:Exit→Act→World→Prop},(∀h s a w,K h s→Rel (X.wh h) s a w→Q .normal a w) →
  wpOpsIn (fen X.rd) m P ops Q (List.range' i n) a w:=by
 intro n
 induction n with
 | zero =>
  intro i K h s a w hi hh hR Q hQ
  rw [List.drop_of_length_le (by rw [Array.length_toList];omega)] at hh
  exact hQ h s a w hh hR
 | succ n ih =>
  intro i K h s a w hi hh hR Q hQ
  have hil:i<ops.size:=by omega
  rw [List.drop_eq_getElem_cons (by rw [Array.length_toList];exact hil)] at hh
  rw [List.range'_succ]
  have ho:ops[i]?=some ops.toList[i]:=by simp [hil]
  simp only [wpOpsIn,ho]
  obtain ⟨F,loc,R⟩:=hR
  rcases awant_sound R hh with ⟨hw,hh⟩|⟨hw,hh⟩
  ·rw [if_pos hw]
   refine Oper.wpIn_mono ?_ (aopX_sound R (hk i _ ho) hh)
   rintro a' w' ⟨h',s',hk,hR'⟩
   exact ih (i+1) K h' s' a' w' (by omega) hk hR' hQ
  ·rw [if_neg (by rw [hw];simp)]
   exact ⟨fun _ _=>trivial,ih (i+1) K h _ _ w (by omega) hh ⟨F,loc,R.put _ (.f _ _ (.v _)) (hk i _ ho)⟩ hQ⟩
def JH (X:Cx) (P:Program) (c:Code) (Q:Exit→Hd→AS→Prop) (h:Hd) (s:AS):Prop :=
 okC X.kp c=true→∀a w,Rel (X.wh h) s a w→c.wpIn (fen X.rd) 9 P (fun e a w=>∃h' s',Q e h' s'∧Rel (X.wh h') s' a w) a w
variable {Q : Exit → Hd → AS → Prop}
theorem JH_J {c:Code} (hJ:J (X.wh h) P c (fun e s'=>Q e h s') s):JH X P c Q h s:=fun hk a w R =>
 wpIn_mono (hJ hk a w R) fun e a w ⟨s',hq,hR⟩=>⟨h,s',hq,hR⟩
theorem J_JH {c:Code} {Q:Exit→AS→Prop} (hX:X.hold=fun _=>none) (hJ:JH X P c (fun e _ s'=>Q e s') (fun _=>none) s):J X P c Q s:=fun hk a w R=>by
 rw [←wh_none hX] at R
 exact wpIn_mono (hJ hk a w R) fun e a w ⟨h',s',hq,F,loc,hR⟩=>⟨s',hq,F,loc,hR.unhold hX⟩
theorem JH_mono {c:Code} {Q':Exit→Hd→AS→Prop} (hJ:JH X P c Q h s) (hq:∀e h s,Q e h s→Q' e h s):JH X P c Q' h s:=fun hk a w R=>wpIn_mono (hJ hk a w R) fun e a w ⟨h',s',h1,h2⟩=>⟨h',s',hq e h' s' h1,h2⟩
theorem JH_seq {x y:Code} (hJ:JH X P x (fun e h' s'=>match e with|.normal=>JH X P y Q h' s'|e=>Q e h' s') h s):JH X P (.seq x y) Q h s:=fun hk a w R=>by
 obtain ⟨hk1,hk2⟩:=Bool.and_eq_true_iff.1 (show (okC X.kp x&&okC X.kp y)=true from hk)
 refine wpIn_seq (wpIn_mono (hJ hk1 a w R) ?_)
 rintro e a' w' ⟨h',s',hq,hR⟩
 cases e with
 | normal=>exact hq hk2 a' w' hR
 | _=>exact ⟨h',s',hq,hR⟩
def KontH (K A:Hd→AS→Prop):Prop:=∀h s,A h s→K h s
theorem KontH.go {K A:Hd→AS→Prop} {h:Hd} {s:AS} (hk:KontH K A) (ha:A h s):K h s:=hk h s ha
def hthen (K:Hd→AS→Prop) (Q:Exit→Hd→AS→Prop):Exit→Hd→AS→Prop
 | .normal,h,s=>K h s
 | e,h,s=>Q e h s
def hblock (id:Nat) (Q:Exit→Hd→AS→Prop):Exit→Hd→AS→Prop
 | .exit id',h,s=>if id'=id then Q .normal h s else Q (.exit id') h s
 | e,h,s=>Q e h s
theorem hthen_n {K:Hd→AS→Prop} {Q:Exit→Hd→AS→Prop} {h:Hd} {s:AS}:hthen K Q .normal h s=K h s:=rfl
theorem hthen_x {K:Hd→AS→Prop} {Q:Exit→Hd→AS→Prop} {h:Hd} {s:AS} {i:Nat}:hthen K Q (.exit i) h s=Q (.exit i) h s:=rfl
theorem hthen_r {K:Hd→AS→Prop} {Q:Exit→Hd→AS→Prop} {h:Hd} {s:AS}:hthen K Q .ret h s=Q .ret h s:=rfl
theorem hblock_n {j:Nat} {Q:Exit→Hd→AS→Prop} {h:Hd} {s:AS}:hblock j Q .normal h s=Q .normal h s:=rfl
theorem hblock_x {j i:Nat} {Q:Exit→Hd→AS→Prop} {h:Hd} {s:AS}:hblock j Q (.exit i) h s=if i=j then Q .normal h s else Q (.exit i) h s:=rfl
theorem hblock_r {j:Nat} {Q:Exit→Hd→AS→Prop} {h:Hd} {s:AS}:hblock j Q .ret h s=Q .ret h s:=rfl
theorem HW_seq {x y:Code} (hJ:∀K:Hd→AS→Prop,KontH K (fun h s=>JH X P y Q h s)→JH X P x (hthen K Q) h s):JH X P (.seq x y) Q h s :=
 JH_seq (JH_mono (hJ (fun h s=>JH X P y Q h s) fun _ _ h=>h) fun e h s hq=>by cases e<;>exact hq)
theorem JH_block {id:Nat} {c:Code} (hJ:JH X P c (fun e h' s'=>match e with|.exit id'=>if id'=id then Q .normal h' s' else Q (.exit id') h' s'|e=>Q e h' s') h s):JH X P (.block id c) Q h s:=fun hk a w R=>by
 refine wpIn_block (wpIn_mono (hJ hk a w R) ?_)
 rintro e a' w' ⟨h',s',hq,hR⟩
 cases e with
 | exit id' =>
  unfold Exit.inBlock
  simp only at hq ⊢
  split
  ·rename_i e;rw [if_pos e] at hq;exact ⟨h',s',hq,hR⟩
  ·rename_i e;rw [if_neg e] at hq;exact ⟨h',s',hq,hR⟩
 | _=>exact ⟨h',s',hq,hR⟩
theorem HW_block {id:Nat} {c:Code} (hJ:JH X P c (hblock id Q) h s):JH X P (.block id c) Q h s:=JH_block (JH_mono hJ fun e h s hq=>by cases e<;>exact hq)
theorem JH_cond {c:Operand} {x y:Code} {t:Bool} (hc:s.ev c=.f (.v (.bool t))) (h1:t=true→JH X P x Q h s) (h2:t=false→JH X P y Q h s):JH X P (.cond c x y) Q h s:=fun hk a w R=>by
 obtain ⟨hk1,hk2⟩:=Bool.and_eq_true_iff.1 (show (okC X.kp x&&okC X.kp y)=true from hk)
 obtain ⟨F,loc,R'⟩:=R
 have hv:=R'.ev c
 rw [hc] at hv
 exact wpIn_cond_split (v_rep hv) (fun ht=>h1 ht hk1 a w ⟨F,loc,R'⟩) (fun ht=>h2 ht hk2 a w ⟨F,loc,R'⟩)
theorem JH_skip (hq:Q .normal h s):JH X P .skip Q h s:=fun _ a w R=>wpIn_skip ⟨h,s,hq,R⟩
theorem JH_exit {id:Nat} (hq:Q (.exit id) h s):JH X P (.exit id) Q h s:=fun _ a w R=>wpIn_exit ⟨h,s,hq,R⟩
theorem JH_ret (hq:Q .ret h s):JH X P .ret Q h s:=fun _ a w R=>wpIn_ret ⟨h,s,hq,R⟩
theorem JH_weak {s':AS} (hw:Weak s s') {c:Code} (hJ:JH X P c Q h s'):JH X P c Q h s:=fun hk a w ⟨F,loc,R⟩=>hJ hk a w ((R.weak hw).elim fun loc' R'=>⟨F,loc',R'⟩)
theorem JH_region {id:Nat} {ops:Array Oper} (hh:aopsX X P ops ops.toList (Q .normal) h s):JH X P (.region id ops false) Q h s:=fun hk a w R=>by
 refine wpIn_region ?_
 rw [List.range_eq_range']
 exact aopsX_sound (okOps_at hk) ops.size 0 (Q .normal) h s a w (by omega) (by simpa using hh) R fun h s a w hk hR=>⟨h,s,hk,hR⟩
theorem JH_loop {c:Code} {γ:Type} (hd:γ→Hd) (st:γ→AS) (I:γ→Prop) (μ:γ→Nat) (x0:γ) (h0:I x0) (hh:h=hd x0) (hw:Weak s (st x0))
  (round:∀x,I x→JH X P c (fun e h' s'=>match e with|.normal=>∃y,I y∧μ y<μ x∧h'=hd y∧Weak s' (st y)|e=>Q e h' s') (hd x) (st x)):JH X P (.loop c) Q h s:=fun hk a w ⟨F,loc,R⟩=>by
 refine wpIn_loop_n (P:=P) (fun n a w=>∃x,μ x=n∧I x∧Rel (X.wh (hd x)) (st x) a w) ?_ (μ x0) a w ⟨x0,rfl,h0,(R.weak hw).elim fun loc' R'=>⟨F,loc',by rw [←hh];exact R'⟩⟩
 rintro n a w ⟨x,rfl,hI,hR⟩
 refine wpIn_mono (round x hI hk a w hR) ?_
 rintro e a' w' ⟨h',s',hq,hR'⟩
 cases e with
 | normal =>
  obtain ⟨y,hy,hlt,rfl,hwk⟩:=hq
  obtain ⟨F',loc',R'⟩:=hR'
  exact ⟨μ y,hlt,y,rfl,hy,(R'.weak hwk).elim fun loc' R'=>⟨F',loc',R'⟩⟩
 | _=>exact ⟨h',s',hq,hR'⟩
theorem HW_mask (ws:List Nat) {c:Code} {t:List AV} {H:AH} (hw:Weak ⟨t,H⟩ ⟨msk ws t,H⟩) (hJ:JH X P c Q h ⟨msk ws t,H⟩):JH X P c Q h ⟨t,H⟩:=JH_weak hw hJ
theorem ren_fn1 {g:Nat→Nat} {f:FuncId} {y:FV}:AV.ren g (.fn f [.f y] [])=.fn f [.f y] []:=rfl
theorem lt0_fn1 {n:Nat} {f:FuncId} {y:FV}:(AV.lt0 n (.fn f [.f y] [])=true)=True:=eq_self true
theorem HW_join {x r:Code} {γ:Type} {t:List AV} {H:AH} {K:Hd→AS→Prop} {Q':Exit→Hd→AS→Prop} (hK:KontH K (fun h s=>JH X P r Q' h s)) (ws:List Nat) (up:γ→List (Nat × AV)) (hp:γ→AH) (I:γ→Prop)
  (arm:JH X P x (hthen (fun h' s'=>∃y,I y∧h'=h∧Weak s' ⟨sets (up y) (msk ws t),hp y⟩) Q) h ⟨t,H⟩) (rest:∀y,I y→JH X P r Q' h ⟨sets (up y) (msk ws t),hp y⟩):JH X P x (hthen K Q) h ⟨t,H⟩ :=
 JH_mono arm fun e h' s' hq=>by
  cases e with
  | normal=>obtain ⟨y,hy,rfl,hw⟩:=hq;exact hK _ _ (JH_weak hw (rest y hy))
  | _=>exact hq
theorem HW_loop {c:Code} {γ:Type} {t:List AV} {H:AH} (ws:List Nat) (hd:γ→Hd) (up:γ→List (Nat × AV)) (hp:γ→AH) (I:γ→Prop) (μ:γ→Nat) (x0:γ) (h0:I x0) (hh:h=hd x0) (hw:Weak ⟨t,H⟩ ⟨sets (up x0) (msk ws t),hp x0⟩)
  (round:∀x,I x→JH X P c (hthen (fun h' s'=>∃y,I y∧μ y<μ x∧h'=hd y∧Weak s' ⟨sets (up y) (msk ws t),hp y⟩) Q) (hd x) ⟨sets (up x) (msk ws t),hp x⟩):JH X P (.loop c) Q h ⟨t,H⟩ :=
 JH_loop hd (fun x=>⟨sets (up x) (msk ws t),hp x⟩) I μ x0 h0 hh hw fun x hx=>JH_mono (round x hx) fun e h s hq=>by cases e<;>exact hq
end
section
variable {P : Program} {X : Cx} {ops : Array Oper} {rest : List Oper} {K : Hd → AS → Prop} {h : Hd} {s : AS} {d : Option Tmp} {t ty : TypeId} {pos : String} {af : Array Edge} {m k x : Operand}
theorem aopsX_nil:aopsX X P ops [] K h s=K h s:=rfl
theorem aopsX_go {o:Oper} (hh:aop P o (aopsX X P ops rest K h) s) (hg:o.guard=none) (hm:(match o.op with|.makeMap ..|.lookup ..|.mapUpdate ..=>false|_=>true)=true):aopsX X P ops (o::rest) K h s:=by
 unfold aopsX awant
 rw [hg]
 show aopX X P o _ h s
 unfold aopX
 split<;>first|exact hh|(rename_i e;rw [e] at hm;cases hm)
theorem aopsX_make (hh:∀b,X.w0.heap.size≤b→aopsX X P ops rest K (h.put b (.map #[] 0)) (s.put d (.f (.v (.map (some b)))))):aopsX X P ops (⟨d,.makeMap t none,ty,pos,af,none⟩::rest) K h s:=hh
theorem aopsX_look {b:Nat} {ob:Obj} {y:FV} {kv r:Value} (hm:s.ev m=.f (.v (.map (some b)))) (hb:h b=some ob) (hk:s.ev k=.f y) (hv:y.val=some kv) (hr:∀w:World,w.heap[b]?=some ob→(Instr.lookup t (.map (some b)) kv false).run P w=.ok r w)
  (hh:aopsX X P ops rest K h (s.put d (.f (.v r)))):aopsX X P ops (⟨d,.lookup t m k false,ty,pos,af,none⟩::rest) K h s:=⟨b,ob,y,kv,r,hm,hb,hk,hv,hr,hh⟩
theorem aopsX_upd {b:Nat} {ob ob':Obj} {y z:FV} {kv xv:Value} (hm:s.ev m=.f (.v (.map (some b)))) (hb:h b=some ob) (hb0:X.w0.heap.size≤b) (hk:s.ev k=.f y) (hv:y.val=some kv) (hx:s.ev x=.f z) (hz:z.val=some xv)
  (hr:∀w:World,w.heap[b]?=some ob→(Instr.mapUpdate t (.map (some b)) kv xv).run P w=.ok () (w.putObj b ob')) (ho:∃es c,ob'=.map es c)
  (hh:aopsX X P ops rest K (h.put b ob') (s.put d (.f (.v undef)))):aopsX X P ops (⟨d,.mapUpdate t m k x,ty,pos,af,none⟩::rest) K h s:=⟨b,ob,ob',y,z,kv,xv,hm,hb,hb0,hk,hv,hx,hz,hr,ho,hh⟩
end
attribute [go_sem] ren_fn1 lt0_fn1 hthen_n hthen_x hthen_r hblock_n hblock_x hblock_r aopsX_nil
section
variable {P : Program} {X : Cx} {w : World} {F : Nat → Prop} {loc : Nat → Nat × Nat} {s : AS} {a : Act}
theorem goodX_of {f:FuncId} {fn:Func} {c:Code} (hf:P.funcs[f]?=some fn) (hb:fn.body=some c) (hok:enterOk P f=true) {xs:List FV} {r:FV}
  (h:∀X:Cx,(∀b,¬X.O b)→X.rd=none→(X.hold=fun _=>none)→J X P c (aend P fn.results.toList r) (ast0 xs fn.ntmps)):Good P f xs r:=by
 refine ⟨hok,fun w G ys hTab hG hrep=>?_⟩
 refine calls_of_J (X:=⟨w,G,fun _=>False,none,fun _=>false,#[],fun _=>none⟩) rfl hf hb (h ⟨w,G,fun _=>False,none,fun _=>false,#[],fun _=>none⟩ (fun _ h=>h) rfl rfl (okC_none (fun _=>rfl) _) _ w (rel0 hTab hG hrep)) ?_
 rintro e a w' s F loc hq R
 have fin:(aresults P fn.results.toList s fun vs=>match vs with|[v]=>Frz s.H v r|vs=>∃rs,r=.tup rs∧FrzL s.H vs rs)→∃v,(results fn a.tmps).run P w'=.ok v w'∧∃v',Ending.returned v=.returned v'∧Beyond (fun _=>False) w w'∧RepF w' (fun b=>G b∨(w.heap.size≤b∧b<w'.heap.size)) r v':=by
  intro hq
  obtain ⟨vs,us,hk,hl,hrs,hrun,hlen⟩:=aresults_sound R _ hq
  have hsub:∀b,(F b∨Live s loc b)→G b∨(w.heap.size≤b∧b<w'.heap.size):=fun b hb=>by
   rcases hb with hb|⟨i,o,ho,rfl⟩
   ·rcases R.hN b hb with h'|h'|h'
    ·exact .inl h'
    ·exact h'.elim
    ·exact .inr ⟨h',R.hF b hb⟩
   ·obtain ⟨_,vs,hv,_⟩:=R.obj i o ho
    rcases R.new i o ho with h'|h'
    ·exact .inr ⟨h',(Array.getElem?_eq_some_iff.1 hv).1⟩
    ·exact h'.elim
  refine ⟨_,results_run fn a.tmps us hrun,_,rfl,R.below,?_⟩
  split at hk
  ·rename_i v
   obtain ⟨u,rfl⟩:∃u,us=[u]:=by
    match us,hl with
    | [u],_=>exact ⟨u,rfl⟩
   exact ((hk.rep R).1 u (hrs 0 v u rfl rfl)).mono hsub (fun _ _ _ _ h=>h)
  ·rename_i hne
   obtain ⟨rs,rfl,hfl⟩:=hk
   have h1:us.length≠1:=fun e=>by
    rw [←hl] at e
    match vs,e with
    | [v],_=>exact hne v rfl
   rw [dif_neg h1]
   refine .tup rs us.toArray (by simp;rw [←hl];exact hfl.1.symm) fun j c hj=>?_
   have hjl:=glt hj
   have hv:=List.getElem?_eq_getElem (l:=vs) (i:=j) (by rw [hfl.1];exact hjl)
   have hu:=List.getElem?_eq_getElem (l:=us) (i:=j) (by rw [←hl,hfl.1];exact hjl)
   have e:us.toArray.getD j undef=us[j]'(by rw [←hl,hfl.1];exact hjl):=by simp [Array.getD_eq_getD_getElem?,hu]
   rw [e]
   exact (((hfl.2 j _ c hv hj).rep R).1 _ (hrs j _ _ hv hu)).mono hsub (fun _ _ _ _ h=>h)
 cases e with
 | normal=>exact fin hq
 | ret=>exact fin hq
 | _=>exact hq.elim
end
end Go.Proofs.YtgjnbcfencallaaDoor
set_option linter.unusedVariables false
set_option linter.unusedSimpArgs false
namespace Go.Proofs.YtgjnbcfencallaaDoor
open Go Go.RowKit
def kyV (p:Nat × Bool):Value:=.agg #[.int .i64 (p.1:Int),.bool p.2]
def mesF (k:Nat) (L:List (Nat × Bool)):List MapEntry:=(L.zipIdx k).map fun q=>⟨kyV q.1,.int .i64 1,q.2⟩
def mobj (L:List (Nat × Bool)):Obj:=.map (mesF 0 L).toArray L.length
section
variable {w : World} {p q : Nat × Bool} {L : List (Nat × Bool)}
set_option maxRecDepth 100000 in
theorem run_keq (w:World) (p q:Nat × Bool):(Op.equal 90 (kyV p) (kyV q)).run Tryd.prog w=.ok (decide (p=q)) w:=by
 obtain ⟨n,d⟩:=p
 obtain ⟨m,e⟩:=q
 show (Op.equalIn 10000 90 _ _).run Tryd.prog w=_
 unfold kyV
 rw [run_equalIn_agg w 9999 _ _ _ (by kernel_rfl) (by kernel_rfl)]
 unfold Program.fieldsOf
 rw [Tryd.underlying90]
 have p0:∀(a b:Value),(part 3 #[a,b] 0).run Tryd.prog w=.ok a w:=fun a b=>by kernel_rfl
 have p1:∀(a b:Value),(part 4 #[a,b] 1).run Tryd.prog w=.ok b w:=fun a b=>by kernel_rfl
 have q0:=run_equalIn_int w 9998 3 .i64 .i64 (n:Int) (m:Int) Tryd.underlying3
 have q1:=run_equalIn_bool' w 9998 4 d e Tryd.underlying4
 rw [show (9998+1:Nat)=9999 from rfl] at q0 q1
 have h1 : ("node" : String) ≠ "_" := by decide
 have h2 : ("up" : String) ≠ "_" := by decide
 show (Op.eqFields 9999 _ _ [_,_]).run _ _=_
 simp only [Op.eqFields,h1,h2,ne_eq,not_false_eq_true,if_true,Sem.run_bind,p0,Result.andThen_ok,q0]
 by_cases hn:n=m
 ·subst hn
  have hb:((n:Int)==(n:Int))=true:=by simp
  by_cases hd:d=e
  ·subst hd;simp [p1,q1]
  ·have hd2:(d==e)=false:=by simpa using hd
   simp [hd,p1,q1]
 ·have hb:((n:Int)==(m:Int))=false:=by simp;omega
  simp [hb,hn]
theorem find_no (w:World):∀(L:List (Nat × Bool)) (k i:Nat),p∉L→(Instr.findAsking 90 (kyV p) (mesF k L) i).run Tryd.prog w=.ok none w:=by
 intro L
 induction L with
 | nil=>intro k i _;rfl
 | cons q L ih =>
  intro k i h
  have h1:p≠q:=fun e=>h (by simp [e])
  have h2:p∉L:=fun e=>h (by simp [e])
  have hq:=run_keq w p q
  rw [decide_eq_false h1] at hq
  show (do if ←Op.equal 90 (kyV p) (kyV q) then pure (some (i,Value.int .i64 1)) else Instr.findAsking 90 (kyV p) (mesF (k+1) L) (i+1):Sem _).run Tryd.prog w=_
  rw [Sem.run_bind,hq]
  exact ih (k+1) (i+1) h2
theorem find_yes (w:World):∀(L:List (Nat × Bool)) (k i:Nat),p∈L→∃j,(Instr.findAsking 90 (kyV p) (mesF k L) i).run Tryd.prog w=.ok (some (j,.int .i64 1)) w:=by
 intro L
 induction L with
 | nil=>intro k i h;simp at h
 | cons q L ih =>
  intro k i h
  have hq:=run_keq w p q
  by_cases e:p=q
  ·rw [decide_eq_true e] at hq
   refine ⟨i,?_⟩
   show (do if ←Op.equal 90 (kyV p) (kyV q) then pure (some (i,Value.int .i64 1)) else Instr.findAsking 90 (kyV p) (mesF (k+1) L) (i+1):Sem _).run Tryd.prog w=_
   rw [Sem.run_bind,hq];rfl
  ·rw [decide_eq_false e] at hq
   obtain ⟨j,hj⟩:=ih (k+1) (i+1) ((List.mem_cons.1 h).resolve_left e)
   refine ⟨j,?_⟩
   show (do if ←Op.equal 90 (kyV p) (kyV q) then pure (some (i,Value.int .i64 1)) else Instr.findAsking 90 (kyV p) (mesF (k+1) L) (i+1):Sem _).run Tryd.prog w=_
   rw [Sem.run_bind,hq]
   exact hj
theorem run_fk (w:World) (x:Value) (es:List MapEntry):(Instr.findKey 90 x es).run Tryd.prog w=(Instr.findAsking 90 x es).run Tryd.prog w:=run_findKey_eq w (by kernel_rfl) x es
theorem run_ck (w:World) (b:Bool) (p:Nat × Bool):(Instr.checkKey b 10000 90 (kyV p)).run Tryd.prog w=.ok () w:=by
 unfold kyV
 kernel_rfl
theorem mes_snoc:(mesF 0 L).toArray.push ⟨kyV p,.int .i64 1,L.length⟩=(mesF 0 (L++[p])).toArray:=by
 unfold mesF
 rw [List.zipIdx_append,List.map_append]
 simp
theorem look_no {b:Nat} (h:p∉L) (w:World) (hw:w.heap[b]?=some (mobj L)):(Instr.lookup 87 (.map (some b)) (kyV p) false).run Tryd.prog w=.ok (.int .i64 0) w:=by
 have hf:=find_no (p:=p) w L 0 0 h
 have hu:Tryd.prog.underlying 87=some (.map 90 3):=Tryd.underlying87
 have hg:(getObj b).run Tryd.prog w=.ok (mobj L) w:=by simp [getObj,Sem.run,hw];rfl
 have hz:(zeroValue 3).run Tryd.prog w=.ok (.int .i64 0) w:=by kernel_rfl
 unfold Instr.lookup
 simp only [Sem.run_bind,run_underlying hu,Result.andThen_ok]
 rw [hg]
 simp only [mobj,Result.andThen_ok,Sem.run_pure,Sem.run_bind,run_ck,run_fk,hf,hz,Bool.false_eq_true,if_false]
theorem look_yes {b:Nat} (h:p∈L) (w:World) (hw:w.heap[b]?=some (mobj L)):(Instr.lookup 87 (.map (some b)) (kyV p) false).run Tryd.prog w=.ok (.int .i64 1) w:=by
 obtain ⟨j,hf⟩:=find_yes (p:=p) w L 0 0 h
 have hu:Tryd.prog.underlying 87=some (.map 90 3):=Tryd.underlying87
 have hg:(getObj b).run Tryd.prog w=.ok (mobj L) w:=by simp [getObj,Sem.run,hw];rfl
 unfold Instr.lookup
 simp only [Sem.run_bind,run_underlying hu,Result.andThen_ok]
 rw [hg]
 simp only [mobj,Result.andThen_ok,Sem.run_pure,Sem.run_bind,run_ck,run_fk,hf,Bool.false_eq_true,if_false]
theorem upd_no {b:Nat} (h:p∉L) (w:World) (hw:w.heap[b]?=some (mobj L)):(Instr.mapUpdate 87 (.map (some b)) (kyV p) (.int .i64 1)).run Tryd.prog w=.ok () (w.putObj b (mobj (L++[p]))):=by
 have hf:=find_no (p:=p) w L 0 0 h
 have hu:Tryd.prog.underlying 87=some (.map 90 3):=Tryd.underlying87
 have hg:(getObj b).run Tryd.prog w=.ok (mobj L) w:=by simp [getObj,Sem.run,hw];rfl
 unfold Instr.mapUpdate
 simp only [Sem.run_bind,run_underlying hu,Result.andThen_ok]
 rw [hg]
 simp only [mobj,Result.andThen_ok,Sem.run_bind,run_ck,run_fk,hf]
 rw [mes_snoc]
 have hs:∀o,(setObj b o).run Tryd.prog w=.ok () { w with heap:=w.heap.setIfInBounds b o }:=fun o=>by simp [setObj,Sem.run,hw,mobj]
 rw [hs]
 simp [World.putObj]
end
end Go.Proofs.YtgjnbcfencallaaDoor
