/- Nets that may be: what is known of each variable; the table of a variable and what it hangs on. Plain. Conditions: none. -/
import Derived.Test.YthehegidpamldaaGreatDoorZB20
import Derived.Test.YthehegidpamldaaGreatDoorZB13
import Derived.Test.YthehegidpamldaaGreatDoorZB14
import Derived.Test.YthehegidpamldaaGreatDoorZB12
set_option linter.unusedVariables false
set_option linter.unusedSimpArgs false
namespace Go.Proofs.YthehegidpamldaaGreatDoor
open Go Go.RowKit
structure VarG (V : List VarD) (P : List (List Int)) (M : List (List Rat)) (v : Nat) : Prop where
  ok : OkT (szN V) (paN P v)
  get : (P.map ints)[v]? = some (.fz 1 (Ns (paN P v)))
  out : v ∉ paN P v
  ml : v < M.length
  len : (M.getD v []).length = cntS (szT (szN V)) (paN P v) * szT (szN V) v
  ch : ∀ j, j < cntS (szT (szN V)) (paN P v) → chancesB (rwQ (M.getD v []) (szT (szN V) v) j) = true
section
variable {V : List VarD} {P : List (List Int)} {M : List (List Rat)} {v : Nat}
theorem netE_zero (h:netE (ordE P) V P M=0):(P.length=V.length∧M.length=V.length)∧ordE P=0∧namesE (V.map Prod.fst)=0∧fe (varsE V) V.length=0∧fe (rowsE V P M) V.length=0:=by
 unfold netE at h
 split at h
 ·rename_i h1
  split at h
  ·rename_i h2
   split at h
   ·rename_i h3
    split at h
    ·rename_i h4
     exact ⟨h1,h2,h3,h4,h⟩
    ·contradiction
   ·contradiction
  ·contradiction
 ·exact absurd h (by decide)
theorem netG (h:netE (ordE P) V P M=0) (hv:v<V.length):VarG V P M v:=by
 obtain ⟨⟨hP,hM⟩,hE,_,hF,hR⟩:=netE_zero h
 obtain ⟨hT,hg⟩:=net_okT hE hP hF hv
 have hr:=fe_zero.1 hR v hv
 unfold rowsE rowQ at hr
 split at hr
 ·rename_i hl
  split at hr
  ·rename_i hc
   refine ⟨hT,hg,fun hm=>?_,by omega,hl,fun j hj=>List.all_eq_true.1 hc j (List.mem_range.2 hj)⟩
   obtain ⟨x,hx,e⟩:=List.mem_map.1 hm
   have hb:=ordE_lists hE
   obtain ⟨hr1,hr2,_⟩:=ok_node hb (v:=v) (by omega)
   obtain ⟨⟨_,h8⟩,_⟩:=listsB_iff.1 hb
   rw [lget_lt P [] (by omega)] at hx
   have h0:=(pwT.1 hr1).2 x hx
   have hI:I x∈Ns (els (setI P[v])):=by rw [←ris_els h8 hr1];exact List.mem_map.2 ⟨x,hx,rfl⟩
   obtain ⟨u,hu,eu⟩:=List.mem_map.1 hI
   have ex:x=(u:Int):=by injection eu with e1;injection e1 with _ e2;exact e2.symm
   have:u=v:=by omega
   subst this
   rw [(els_mem.1 hu).2] at hr2
   cases hr2
  ·exact absurd hr (by decide)
 ·exact absurd hr (by decide)
end
section
variable {Z pa : List Nat} {v n : Nat} {qs : List Rat} {a : Nat → Nat}
end
end Go.Proofs.YthehegidpamldaaGreatDoor
set_option linter.unusedVariables false
set_option linter.unusedSimpArgs false
namespace Go.Proofs.YthehegidpamldaaGreatDoor
open Go Go.RowKit
abbrev nl:ByteArray:=⟨#[10]⟩
abbrev sp:ByteArray:=⟨#[32]⟩
abbrev vrB:ByteArray:=⟨#[118,97,114,32]⟩
abbrev obB:ByteArray:=⟨#[32,123,32]⟩
abbrev ocB:ByteArray:=⟨#[32,125,10]⟩
abbrev osB:ByteArray:=⟨#[32,123]⟩
abbrev onB:ByteArray:=⟨#[32,123,10]⟩
abbrev cbB:ByteArray:=⟨#[125,10]⟩
abbrev brB:ByteArray:=⟨#[32,124]⟩
def vnm (V:List VarD) (u:Nat):ByteArray:=(V.getD u (⟨#[]⟩,[])).1
def vvl (V:List VarD) (u j:Nat):ByteArray:=(V.getD u (⟨#[]⟩,[])).2.getD j ⟨#[]⟩
def varT (x:VarD):ByteArray:=vrB++x.1++obB++joinT sp x.2++ocB
def prV (V:List VarD):Nat→ByteArray
 | 0=>⟨#[]⟩
 | i+1=>prV V i++varT (V.getD i (⟨#[]⟩,[]))
def pnT (V:List VarD) (pa:List Nat):Nat→ByteArray
 | 0=>⟨#[]⟩
 | i+1=>pnT V pa i++(sp++vnm V (pa.getD i 0))
def pvT (V:List VarD) (pa at_:List Nat):Nat→ByteArray
 | 0=>⟨#[]⟩
 | i+1=>pvT V pa at_ i++(sp++vvl V (pa.getD i 0) (at_.getD i 0))
def prK (V:List VarD) (Z pa:List Nat) (s:Nat) (qs:List Rat):Nat→ByteArray
 | 0=>⟨#[]⟩
 | k+1=>prK V Z pa s qs k++(pvT V pa (asgL Z pa k) pa.length++(lineT (rwQ qs s k)++nl))
def prF (V:List VarD) (Z pa:List Nat) (v s c:Nat) (qs:List Rat):ByteArray :=
 if pa=[] then vnm V v++(lineT qs++nl) else vnm V v++brB++pnT V pa pa.length++onB++prK V Z pa s qs c++cbB
def prT (V:List VarD) (P:List (List Int)) (M:List (List Rat)):Nat→ByteArray
 | 0=>⟨#[]⟩
 | x+1=>prT V P M x++prF V (szN V) (paN P x) x (szT (szN V) x) (cntS (szT (szN V)) (paN P x)) (M.getD x [])
def prA (V:List VarD) (P:List (List Int)) (M:List (List Rat)):ByteArray:=prV V V.length++prT V P M V.length
structure PrB (k : Nat) (V : List VarD) (P : List (List Int)) (M : List (List Rat)) : Prop where
  nm : ∀ x ∈ V, x.1.size ≤ 2048
  vl : ∀ x ∈ V, ∀ s ∈ x.2, s.size ≤ 2048
  k1 : 1 ≤ k
  kk : k ≤ 2048
  rw : ∀ r ∈ M, Row k r
section
variable {k : Nat} {V : List VarD} {P : List (List Int)} {M : List (List Rat)}
theorem vnm_size (h:∀x∈V,x.1.size≤2048) {u:Nat}:(vnm V u).size≤2048:=by
 unfold vnm
 by_cases hu:u<V.length
 ·rw [lget_lt V _ hu];exact h _ (List.getElem_mem hu)
 ·rw [List.getD_eq_getElem?_getD,List.getElem?_eq_none (by omega)];show 0≤2048;omega
theorem vvl_size (h:∀x∈V,∀s∈x.2,s.size≤2048) {u j:Nat}:(vvl V u j).size≤2048:=by
 unfold vvl
 by_cases hu:u<V.length
 ·rw [lget_lt V _ hu]
  by_cases hj:j<V[u].2.length
  ·rw [lget_lt _ _ hj];exact h _ (List.getElem_mem hu) _ (List.getElem_mem hj)
  ·rw [List.getD_eq_getElem?_getD,List.getElem?_eq_none (by omega)];show 0≤2048;omega
 ·rw [List.getD_eq_getElem?_getD (l:=V),List.getElem?_eq_none (by omega)];show 0≤2048;omega
theorem joinT_size {l:List ByteArray} (h:∀s∈l,s.size≤2048):(joinT sp l).size≤l.length*2049:=by
 induction l with
 | nil=>show 0≤_;omega
 | cons x l ih =>
  have hx:=h x (by simp)
  cases l with
  | nil=>show x.size≤_;simp;omega
  | cons y l =>
   show (x++sp++joinT sp (y::l)).size≤_
   have:=ih fun s hs=>h s (by simp [hs])
   rw [ByteArray.size_append,ByteArray.size_append]
   have:sp.size=1:=rfl
   simp only [List.length_cons] at *
   omega
theorem pnT_size (h:∀x∈V,x.1.size≤2048) {pa:List Nat}:∀{i:Nat},(pnT V pa i).size≤i*2049:=by
 intro i
 induction i with
 | zero=>show 0≤_;omega
 | succ i ih =>
  show (pnT V pa i++(sp++vnm V _)).size≤_
  rw [ByteArray.size_append,ByteArray.size_append]
  have:=vnm_size h (u:=pa.getD i 0)
  have:sp.size=1:=rfl
  omega
theorem pvT_size (h:∀x∈V,∀s∈x.2,s.size≤2048) {pa at_:List Nat}:∀{i:Nat},(pvT V pa at_ i).size≤i*2049:=by
 intro i
 induction i with
 | zero=>show 0≤_;omega
 | succ i ih =>
  show (pvT V pa at_ i++(sp++vvl V _ _)).size≤_
  rw [ByteArray.size_append,ByteArray.size_append]
  have:=vvl_size h (u:=pa.getD i 0) (j:=at_.getD i 0)
  have:sp.size=1:=rfl
  omega
theorem rwQ_row {qs:List Rat} {s j:Nat} (h:Row k qs):Row k (rwQ qs s j):=fun q hq=>h q (List.mem_of_mem_drop (List.mem_of_mem_take hq))
theorem rwQ_le {qs:List Rat} {s j:Nat}:(rwQ qs s j).length≤s:=by unfold rwQ;rw [List.length_take];omega
theorem prL_size {qs:List Rat} {s:Nat} (h:Row k qs) (h1:1≤k) (hk:k≤2048) (hs:qs.length≤4):(lineT qs).size≤49168:=by
 have h2:=lineT_size h h1
 have h3:=Nat.mul_le_mul hs (show 6*k+3≤12291 by omega)
 omega
theorem prK_step {Z pa at_:List Nat} {s j:Nat} {qs:List Rat} (hB:PrB k V P M) (h:Row k qs) (hp:pa.length≤8) (hs:s≤4):(pvT V pa at_ pa.length++(lineT (rwQ qs s j)++nl)).size≤65561:=by
 rw [ByteArray.size_append,ByteArray.size_append]
 have h1:=pvT_size hB.vl (pa:=pa) (at_:=at_) (i:=pa.length)
 have h2:=Nat.mul_le_mul_right 2049 hp
 have h3:=prL_size (s:=s) (rwQ_row (s:=s) (j:=j) h) hB.k1 hB.kk (Nat.le_trans rwQ_le hs)
 have:nl.size=1:=rfl
 omega
theorem prK_size {Z pa:List Nat} {s:Nat} {qs:List Rat} (hB:PrB k V P M) (h:Row k qs) (hp:pa.length≤8) (hs:s≤4):∀{i:Nat},(prK V Z pa s qs i).size≤i*65561:=by
 intro i
 induction i with
 | zero=>show 0≤_;omega
 | succ i ih =>
  show (prK V Z pa s qs i++_).size≤_
  rw [ByteArray.size_append]
  have:=prK_step (at_:=asgL Z pa i) (j:=i) (Z:=Z) hB h hp hs
  omega
theorem VarG.mrow (hB:PrB k V P M) {v:Nat} (h:VarG V P M v):Row k (M.getD v []):=by rw [lget_lt M [] h.ml];exact hB.rw _ (List.getElem_mem _)
theorem VarG.s4 {v:Nat} (h:VarG V P M v) (hv:v<V.length):szT (szN V) v≤4:=h.ok.sz4 (by rw [szN_len];exact hv)
theorem prF_size (hB:PrB k V P M) {v:Nat} (h:VarG V P M v) (hv:v<V.length):(prF V (szN V) (paN P v) v (szT (szN V) v) (cntS (szT (szN V)) (paN P v)) (M.getD v [])).size≤4300000000:=by
 have hr:=h.mrow hB
 have hs:=h.s4 hv
 have hc:=h.ok.cnt
 have hp:=h.ok.len
 have hn:=vnm_size hB.nm (u:=v)
 unfold prF
 split
 ·rename_i he
  have hl:=h.len
  rw [he] at hl
  have:cntS (szT (szN V)) []=1:=rfl
  rw [this,Nat.one_mul] at hl
  have h2:=prL_size (s:=szT (szN V) v) hr hB.k1 hB.kk (by omega)
  rw [ByteArray.size_append,ByteArray.size_append]
  have:nl.size=1:=rfl
  omega
 ·have h1:=prK_size (Z:=szN V) (i:=cntS (szT (szN V)) (paN P v)) hB hr hp hs
  have h2:=Nat.mul_le_mul_right 65561 hc
  have h3:=pnT_size hB.nm (pa:=paN P v) (i:=(paN P v).length)
  have h4:=Nat.mul_le_mul_right 2049 hp
  simp only [ByteArray.size_append]
  have a1:brB.size=2:=rfl
  have a2:onB.size=3:=rfl
  have a3:cbB.size=2:=rfl
  omega
theorem prT_size (hB:PrB k V P M) (hg:∀v,v<V.length→VarG V P M v):∀{x:Nat},x≤V.length→(prT V P M x).size≤x*4300000000:=by
 intro x
 induction x with
 | zero=>intro _;have:(prT V P M 0).size=0:=rfl;omega
 | succ x ih =>
  intro hx
  show (prT V P M x++_).size≤_
  rw [ByteArray.size_append]
  have h1:=prF_size hB (hg x (by omega)) (by omega)
  have h2:=ih (by omega)
  omega
theorem varT_size (hB:PrB k V P M) {x:VarD} (hx:x∈V) (h4:x.2.length≤4):(varT x).size≤10254:=by
 have h1:=joinT_size (hB.vl x hx)
 have h2:=Nat.mul_le_mul_right 2049 h4
 have h3:=hB.nm x hx
 unfold varT
 simp only [ByteArray.size_append]
 have a1:vrB.size=4:=rfl
 have a2:obB.size=3:=rfl
 have a3:ocB.size=3:=rfl
 omega
theorem prV_size (hB:PrB k V P M) (h4:∀x∈V,x.2.length≤4):∀{x:Nat},x≤V.length→(prV V x).size≤x*10254:=by
 intro x
 induction x with
 | zero=>intro _;have:(prV V 0).size=0:=rfl;omega
 | succ x ih =>
  intro hx
  show (prV V x++varT (V.getD x _)).size≤_
  rw [ByteArray.size_append,lget_lt V _ (by omega)]
  have h1:=varT_size hB (List.getElem_mem (show x<V.length by omega)) (h4 _ (List.getElem_mem _))
  have h2:=ih (by omega)
  omega
end
end Go.Proofs.YthehegidpamldaaGreatDoor
set_option linter.unusedVariables false
set_option linter.unusedSimpArgs false
namespace Go.Proofs.YthehegidpamldaaGreatDoor
open Go Go.RowKit
section
variable {X : Cx} {P : Program} {I : Array Oper} {c : Oper}
theorem push_lt {i:Nat} (h:i<I.size):(I.push c)[i]?=I[i]?:=by rw [Array.getElem?_push,if_neg (by omega)]
theorem push_at:(I.push c)[I.size]?=some c:=by simp
theorem pushB_lt {l:Array Bool} {i:Nat} {b d:Bool} (h:i<l.size):(l.push b).getD i d=l.getD i d:=by
 simp [Array.getD_eq_getD_getElem?,Array.getElem?_push,show ¬i=l.size by omega]
theorem pushB_at {l:Array Bool} {b d:Bool}:(l.push b).getD l.size d=b:=by simp [Array.getD_eq_getD_getElem?]
theorem getB {l:Array Bool} {i:Nat} (h:i<l.size) (d e:Bool):l.getD i d=l.getD i e:=by simp [Array.getD_eq_getD_getElem?,h]
theorem aany_last {m:Nat} (hk:∀(i:Nat) o,(I.push c)[i]?=some o→∀j,o.dst=some j→X.kp j=false) {M:List Nat} {K:AS→Prop} {Q:Exit→Act→World→Prop} (hQ:∀s a w,K s→Rel X s a w→Q .normal a w)
  (hg:∀(i:Nat) o,I[i]?=some o→∀j b,o.guard=some (j,b)→j<I.size) (hgc:c.guard=none)
  (hord:∀k o,(I.push c)[k]?=some o→∀e∈o.after,Region.binds .any e=true→e.on<k)
  (hlast:∀i,i<I.size→((waitBits (I.push c).toList []).getD I.size 0).testBit i=true) :
  ∀(n:Nat) (listed:Array Bool) (s:AS) (a:Act) (w:World),listed.size=I.size→Closed I listed→aanyT P I M (fun s=>aop P c K s) n listed s→Rel X s a w→wpAnyIn (fen X.rd) m P .any (I.push c) Q (n+1) (listed.push false) a w:=by
 have rdy:∀{listed:Array Bool} {b:Bool} {i:Nat},listed.size=I.size→i<I.size→(i∈Region.ready .any (I.push c) (listed.push b)↔i∈Region.ready .any I listed):=fun {listed b i} hsz hi=>by
  rw [mem_ready,mem_ready,push_lt hi,pushB_lt (by omega)]
  refine ⟨fun ⟨h1,o,h2,h3⟩=>⟨h1,o,h2,fun e he hb=>?_⟩,fun ⟨h1,o,h2,h3⟩=>⟨h1,o,h2,fun e he hb=>?_⟩⟩
  ·have:=hord i o (by rw [push_lt hi];exact h2) e he hb
   have:=h3 e he hb
   rwa [pushB_lt (by omega)] at this
  ·have:=hord i o (by rw [push_lt hi];exact h2) e he hb
   rw [pushB_lt (by omega)]
   exact h3 e he hb
 have allL:∀{listed:Array Bool},listed.size=I.size→Region.ready .any I listed=[]→∀i,i<I.size→listed.getD i false=true:=fun {listed} hsz hr i=>by
  induction i using Nat.strongRecOn with
  | ind i ih =>
   intro hi
   cases hb:listed.getD i false with
   | true=>rfl
   | false =>
    have:i∈Region.ready .any I listed:=mem_ready.2 ⟨by rw [getB (by omega) true false];exact hb,I[i],by simp [hi],fun e he hbd=>ih e.on (hord i I[i] (by rw [push_lt hi];simp [hi]) e he hbd) (by have:=hord i I[i] (by rw [push_lt hi];simp [hi]) e he hbd;omega)⟩
    rw [hr] at this;cases this
 have fin:∀{n:Nat} {listed:Array Bool} {s:AS} {a:Act} {w:World},listed.size=I.size→Region.ready .any I listed=[]→aop P c K s→Rel X s a w→wpAnyIn (fen X.rd) m P .any (I.push c) Q (n+1) (listed.push false) a w:=fun {n listed s a w} hsz hr hK hR=>by
  have hall:=allL hsz hr
  have hmem:I.size∈Region.ready .any (I.push c) (listed.push false):=mem_ready.2 ⟨by rw [←hsz,pushB_at],c,push_at,fun e he hb=>by
   have:=hord I.size c push_at e he hb
   rw [pushB_lt (by omega)];exact hall _ this⟩
  refine ⟨fun h=>(by rw [h] at hmem;cases hmem),fun i hi=>?_⟩
  have hi':i=I.size:=by
   rcases Nat.lt_trichotomy i I.size with h|h|h
   ·have:=(rdy hsz h).1 hi
    rw [hr] at this;cases this
   ·exact h
   ·obtain ⟨_,o,ho,_⟩:=mem_ready.1 hi
    have:=(Array.getElem?_eq_some_iff.1 ho).1
    simp at this;omega
  subst hi'
  unfold wpOpIn
  rw [push_at]
  simp only
  rw [if_pos (by simp [Region.wanted,hgc])]
  obtain ⟨F,loc,R⟩:=hR
  refine Oper.wpIn_mono ?_ (aop_sound R (hk _ _ push_at) hK)
  rintro a' w' ⟨s',hK',hR'⟩
  have hset:(listed.push false).setIfInBounds I.size true=listed.push true:=by
   rw [←hsz]
   apply Array.ext
   ·simp
   ·intro j h1 h2
    simp at h1
    rw [Array.getElem_setIfInBounds (by simpa using h1),Array.getElem_push,Array.getElem_push]
    by_cases e:j<listed.size
    ·rw [if_neg (by omega),dif_pos e,dif_pos e]
    ·rw [if_pos (by omega),dif_neg e]
  have hnil:Region.ready .any (I.push c) ((listed.push false).setIfInBounds I.size true)=[]:=by
   rw [hset]
   refine List.eq_nil_iff_forall_not_mem.2 fun j hj=>?_
   obtain ⟨hun,o,ho,_⟩:=mem_ready.1 hj
   have hj':=(Array.getElem?_eq_some_iff.1 ho).1
   simp at hj'
   rcases Nat.lt_or_ge j I.size with h|h
   ·rw [pushB_lt (by omega),getB (by omega) true false,hall j h] at hun;cases hun
   ·have e:j=listed.size:=by omega
    subst e
    rw [pushB_at] at hun;cases hun
  cases n with
  | zero=>exact ⟨hnil,hQ _ _ _ hK' hR'⟩
  | succ n=>exact ⟨fun _=>hQ _ _ _ hK' hR',fun j hj=>by rw [hnil] at hj;cases hj⟩
 intro n
 induction n with
 | zero=>intro listed s a w hsz hcl h hR;exact fin hsz h.1 h.2 hR
 | succ n ih =>
  intro listed s a w hsz hcl h hR
  by_cases hr:Region.ready .any I listed=[]
  ·exact fin hsz hr (h.1 hr) hR
  ·obtain ⟨i0,hi0⟩:=List.exists_mem_of_ne_nil _ hr
   have hi0l:i0<I.size:=by obtain ⟨_,o,ho,_⟩:=mem_ready.1 hi0;exact (Array.getElem?_eq_some_iff.1 ho).1
   refine ⟨fun e=>?_,fun i hi=>?_⟩
   ·have:=(rdy (b:=false) hsz hi0l).2 hi0
    rw [e] at this;cases this
   ·have hil:i<I.size:=by
     rcases Nat.lt_trichotomy i I.size with h'|h'|h'
     ·exact h'
     ·exfalso
      subst h'
      obtain ⟨_,o,ho,hall⟩:=mem_ready.1 hi
      have hcl':Closed (I.push c) (listed.push false):=fun j o hj hl e he hb=>by
       have hjl:=(Array.getElem?_eq_some_iff.1 hj).1
       simp at hjl
       rcases Nat.lt_or_ge j I.size with h|h
       ·rw [pushB_lt (by omega)] at hl
        rw [push_lt h] at hj
        have:=hord j o (by rw [push_lt h];exact hj) e he hb
        rw [pushB_lt (by omega)]
        exact hcl j o hj hl e he hb
       ·have e':j=listed.size:=by omega
        subst e'
        rw [pushB_at] at hl;cases hl
      have:=waits_listed hcl' (by simp [hsz]) (I.size+1) I.size o (by omega) ho (fun e he hb=>⟨hall e he hb,hord _ o ho e he hb⟩) hord (hlast i0 hi0l)
      rw [pushB_lt (by omega)] at this
      have h2:=(mem_ready.1 hi0).1
      rw [getB (by omega) true false,this] at h2;cases h2
     ·obtain ⟨_,o,ho,_⟩:=mem_ready.1 hi
      have:=(Array.getElem?_eq_some_iff.1 ho).1
      simp at this;omega
    have hiI:=(rdy hsz hil).1 hi
    obtain ⟨_,o,ho,hoa⟩:=mem_ready.1 hiI
    obtain ⟨s',h1,h2⟩:=h.2 i hiI o ho
    have hkI:=hk i o (by rw [push_lt hil];exact ho)
    have hy:Region.wanted o (yielded (I.push c) a.tmps)=Region.wanted o (yielded I a.tmps):=by
     unfold Region.wanted
     split
     ·rfl
     ·rename_i j b hgd
      have:=hg i o ho j b hgd
      unfold yielded
      rw [push_lt this]
    have hset:(listed.push false).setIfInBounds i true=(listed.setIfInBounds i true).push false:=by
     apply Array.ext
     ·simp
     ·intro j h1 h2
      simp at h1
      rw [Array.getElem_setIfInBounds (by simpa using h1),Array.getElem_push,Array.getElem_push]
      by_cases e:i=j
      ·subst e
       rw [if_pos rfl,dif_pos (by simp;omega),Array.getElem_setIfInBounds (by omega),if_pos rfl]
      ·rw [if_neg e]
       by_cases hj:j<listed.size
       ·rw [dif_pos hj,dif_pos (by simpa using hj),Array.getElem_setIfInBounds (by omega),if_neg e]
       ·rw [dif_neg hj,dif_neg (by simpa using hj)]
    have hcl2:Closed I (listed.setIfInBounds i true):=fun k ok hk hl e he hb=>by
     by_cases hki:k=i
     ·subst hki
      rw [ho] at hk;cases hk
      exact getD_set_true (hoa e he hb)
     ·rw [getD_set_ne true (Ne.symm hki)] at hl
      exact getD_set_true (hcl k ok hk hl e he hb)
    rw [hset]
    unfold wpOpIn
    rw [push_lt hil,ho]
    simp only
    obtain ⟨F,loc,R⟩:=hR
    rcases awant_sound R h1 with ⟨hw,h1⟩|⟨hw,h1⟩
    ·rw [if_pos (by rw [hy];exact hw)]
     cases hM:M.contains i with
     | false =>
      rw [hM,if_neg (by decide)] at h1
      exact (Oper.wpIn_mono (fun a' w' hR'=>ih _ s' a' w' (by simpa using hsz) hcl2 h2 hR') (DStep.sound R hkI h1))
     | true =>
      rw [hM,if_pos rfl] at h1
      refine (Oper.wpIn_mono ?_ (aop_sound R hkI (K:=fun x=>x=s') (amem_to (amem_mono h1 fun v G e=>e.symm))))
      rintro a' w' ⟨s'',rfl,hR'⟩
      exact ih _ _ a' w' (by simpa using hsz) hcl2 h2 hR'
    ·rw [if_neg (by rw [hy,hw];simp)]
     subst h1
     exact ⟨fun _ _=>trivial,ih _ _ _ w (by simpa using hsz) hcl2 h2 ⟨F,loc,R.put _ (.f _ _ (.v _)) hkI⟩⟩
def lastOk (ops:Array Oper):Bool :=
 ordOk ops&&((waitBits ops.toList []).getD (ops.size-1) 0==2^(ops.size-1)-1)&&ops.pop.toList.all fun o=>match o.guard with
  | none=>true
  | some (j,_)=>decide (j<ops.size-1)
theorem J_last {Q:Exit→AS→Prop} {id:Nat} {s:AS} {ops:Array Oper} (M:List Nat) (T:Sch) (hm:P.follows .mixedOrders=true) (hops:ops=I.push c) (hgc:c.guard=none) (hok:allOk I M T=true) (hl:lastOk ops=true) (h:atr P I M (fun s=>aop P c (Q .normal) s) T s):J X P (.region id ops true) Q s:=fun hk a w ⟨F,loc,R⟩=>by
 subst hops
 refine wpIn_region_any hm ?_
 unfold allOk at hok
 rw [Bool.and_eq_true,Bool.and_eq_true] at hok
 obtain ⟨⟨h1,h2⟩,h3⟩:=hok
 unfold lastOk at hl
 rw [Bool.and_eq_true,Bool.and_eq_true] at hl
 obtain ⟨⟨l1,l2⟩,l3⟩:=hl
 have ord:∀{ops:Array Oper},ordOk ops=true→∀k o,ops[k]?=some o→∀e∈o.after,Region.binds .any e=true→e.on<k:=fun {ops} h1 k o hk e he hb=>by
  have:=List.all_eq_true.1 h1 k (List.mem_range.2 (Array.getElem?_eq_some_iff.1 hk).1)
  rw [hk] at this
  have:=List.all_eq_true.1 this e (by simpa using he)
  rw [hb] at this
  simpa using this
 have hcl:Closed I (Array.replicate I.size false):=fun j o hj hl=>by
  have:=(Array.getElem?_eq_some_iff.1 hj).1
  simp [Array.getD_eq_getD_getElem?,this] at hl
 have k1:=(atr_any (ord h1) T I.size _ s (by simp) hcl h3 h).1 h2
 have hsz:(I.push c).size=I.size+1:=by simp
 have hbit:∀i,i<I.size→((waitBits (I.push c).toList []).getD I.size 0).testBit i=true:=fun i hi=>by
  have e:=beq_iff_eq.1 l2
  rw [hsz,Nat.add_sub_cancel] at e
  rw [e]
  simp [Nat.testBit_two_pow_sub_one,hi]
 have hgu:∀(i:Nat) o,I[i]?=some o→∀j b,o.guard=some (j,b)→j<I.size:=fun i o ho j b hgd=>by
  have:=List.all_eq_true.1 l3 o (by simp;exact Array.mem_of_getElem? ho)
  rw [hgd,hsz] at this
  simpa using this
 have:=aany_last (X:=X) (m:=9) (P:=P) (Q:=fun e a w=>∃s,Q e s∧Rel X s a w) (okOps_at hk) (fun s a w hk hR=>⟨s,hk,hR⟩) hgu hgc (ord l1) hbit I.size _ s a w.drew (by simp) hcl k1 ⟨F,loc,R.drew⟩
 rw [hsz,show Array.replicate (I.size+1) false=(Array.replicate I.size false).push false from by apply Array.ext<;>simp [Array.getElem_push]]
 exact this
end
end Go.Proofs.YthehegidpamldaaGreatDoor
set_option linter.unusedVariables false
set_option linter.unusedSimpArgs false
namespace Go.Proofs.YthehegidpamldaaGreatDoor
open Go Go.RowKit
-- NOOWN
theorem mixedP:Tryz.prog.follows .mixedOrders=true:=by kernel_rfl
theorem J_eqL {X:Cx} {P:Program} {Q:Exit→AS→Prop} {s:AS} {id:Nat} {ops ops':Array Oper} (e:ops=ops') (h:J X P (.region id ops' true) Q s):J X P (.region id ops true) Q s:=e▸h
def opsL (id:Nat):Code→Option (Array Oper)
 | .region i ops _=>if i=id then some ops else none
 | .seq x y=>match opsL id x with|some o=>some o|none=>opsL id y
 | .block _ c=>opsL id c
 | .loop c=>opsL id c
 | .cond _ x y=>match opsL id x with|some o=>some o|none=>opsL id y
 | _=>none
noncomputable def rL8:Array Oper:=((Tryz.prog.funcs[7]?.bind (·.body)).bind (opsL 8)).getD #[]
noncomputable def iL8:Array Oper:=rL8.pop
noncomputable def cL8 : Oper := rL8.back?.getD ⟨none, .move (.tmp 0), 0, "", #[], none⟩
theorem pL8:rL8=iL8.push cL8:=by kernel_rfl
theorem J_rL8 {X:Cx} {Q:Exit→AS→Prop} {s:AS} (h:atr Tryz.prog iL8 [] (fun s=>aop Tryz.prog cL8 (Q .normal) s) (.one 0 (.one 1 (.one 2 (.one 3 (.one 4 (.one 5 (.one 6 (.one 7 (.one 8 .leaf))))))))) s):J X Tryz.prog (.region 8 rL8 true) Q s:=J_last [] (.one 0 (.one 1 (.one 2 (.one 3 (.one 4 (.one 5 (.one 6 (.one 7 (.one 8 .leaf))))))))) mixedP pL8 (by kernel_rfl) (by kernel_rfl) (by kernel_rfl) h
noncomputable def rL31:Array Oper:=((Tryz.prog.funcs[7]?.bind (·.body)).bind (opsL 31)).getD #[]
noncomputable def iL31:Array Oper:=rL31.pop
noncomputable def cL31 : Oper := rL31.back?.getD ⟨none, .move (.tmp 0), 0, "", #[], none⟩
theorem pL31:rL31=iL31.push cL31:=by kernel_rfl
theorem J_rL31 {X:Cx} {Q:Exit→AS→Prop} {s:AS} (h:atr Tryz.prog iL31 [] (fun s=>aop Tryz.prog cL31 (Q .normal) s) (.one 0 (.one 1 (.one 2 (.one 3 (.one 4 (.one 5 (.one 6 (.one 7 (.one 8 (.one 9 (.one 10 (.one 11 (.one 12 .leaf))))))))))))) s):J X Tryz.prog (.region 31 rL31 true) Q s:=J_last [] (.one 0 (.one 1 (.one 2 (.one 3 (.one 4 (.one 5 (.one 6 (.one 7 (.one 8 (.one 9 (.one 10 (.one 11 (.one 12 .leaf))))))))))))) mixedP pL31 (by kernel_rfl) (by kernel_rfl) (by kernel_rfl) h
noncomputable def rL33:Array Oper:=((Tryz.prog.funcs[7]?.bind (·.body)).bind (opsL 33)).getD #[]
noncomputable def iL33:Array Oper:=rL33.pop
noncomputable def cL33 : Oper := rL33.back?.getD ⟨none, .move (.tmp 0), 0, "", #[], none⟩
theorem pL33:rL33=iL33.push cL33:=by kernel_rfl
theorem J_rL33 {X:Cx} {Q:Exit→AS→Prop} {s:AS} (h:atr Tryz.prog iL33 [] (fun s=>aop Tryz.prog cL33 (Q .normal) s) (.one 0 (.one 1 (.one 2 (.one 3 (.one 4 (.one 5 (.one 6 (.one 7 (.one 8 (.one 9 (.one 10 (.one 11 (.one 12 (.one 13 (.one 14 (.one 15 (.one 16 (.one 17 (.one 18 (.one 19 (.one 20 .leaf))))))))))))))))))))) s):J X Tryz.prog (.region 33 rL33 true) Q s:=J_last [] (.one 0 (.one 1 (.one 2 (.one 3 (.one 4 (.one 5 (.one 6 (.one 7 (.one 8 (.one 9 (.one 10 (.one 11 (.one 12 (.one 13 (.one 14 (.one 15 (.one 16 (.one 17 (.one 18 (.one 19 (.one 20 .leaf))))))))))))))))))))) mixedP pL33 (by kernel_rfl) (by kernel_rfl) (by kernel_rfl) h
section
variable {P : Program} {m : Bool} {K : AS → Prop} {s : AS}
theorem oL8_0 : (opAt iL8.toList 0 fun o => as1 P iL8 m o K s) = as2 P m ⟨some 30, .fieldAddr 63 (.tmp 7) 0, 0, "", #[], none⟩ K s := by kernel_rfl
theorem oL8_1 : (opAt iL8.toList 1 fun o => as1 P iL8 m o K s) = as2 P m ⟨some 31, .load 9 (.tmp 30), 0, "", #[], none⟩ K s := by kernel_rfl
theorem oL8_2 : (opAt iL8.toList 2 fun o => as1 P iL8 m o K s) = as2 P m ⟨some 32, .binOp .add 9 (.const (.string ⟨#[118, 97, 114, 32]⟩)) (.tmp 31) 9, 0, "", #[], none⟩ K s := by kernel_rfl
theorem oL8_3 : (opAt iL8.toList 3 fun o => as1 P iL8 m o K s) = as2 P m ⟨some 33, .binOp .add 9 (.tmp 32) (.const (.string ⟨#[32, 123, 32]⟩)) 9, 0, "", #[], none⟩ K s := by kernel_rfl
theorem oL8_4 : (opAt iL8.toList 4 fun o => as1 P iL8 m o K s) = as2 P m ⟨some 34, .fieldAddr 63 (.tmp 7) 1, 0, "", #[], none⟩ K s := by kernel_rfl
theorem oL8_5 : (opAt iL8.toList 5 fun o => as1 P iL8 m o K s) = as2 P m ⟨some 35, .load 61 (.tmp 34), 0, "", #[], none⟩ K s := by kernel_rfl
theorem oL8_6 : (opAt iL8.toList 6 fun o => as1 P iL8 m o K s) = as2 P m ⟨some 36, .call { callee := .value (.func 30), args := #[(.tmp 35), (.const (.string ⟨#[32]⟩))], argTypes := #[61, 9] }, 0, "", #[], none⟩ K s := by kernel_rfl
theorem oL8_7 : (opAt iL8.toList 7 fun o => as1 P iL8 m o K s) = as2 P m ⟨some 37, .binOp .add 9 (.tmp 33) (.tmp 36) 9, 0, "", #[], none⟩ K s := by kernel_rfl
theorem oL8_8 : (opAt iL8.toList 8 fun o => as1 P iL8 m o K s) = as2 P m ⟨some 38, .binOp .add 9 (.tmp 37) (.const (.string ⟨#[32, 125, 10]⟩)) 9, 0, "", #[], none⟩ K s := by kernel_rfl
theorem lL8:aop P cL8 K s=acall P 29 [s.ev (.tmp 5),s.ev (.tmp 38)] s (some 39) K:=by kernel_rfl
theorem oL31_0 : (opAt iL31.toList 0 fun o => as1 P iL31 m o K s) = as2 P m ⟨some 126, .fieldAddr 26 (.tmp 1) 0, 0, "", #[], none⟩ K s := by kernel_rfl
theorem oL31_1 : (opAt iL31.toList 1 fun o => as1 P iL31 m o K s) = as2 P m ⟨some 127, .load 22 (.tmp 126), 0, "", #[], none⟩ K s := by kernel_rfl
theorem oL31_2 : (opAt iL31.toList 2 fun o => as1 P iL31 m o K s) = as2 P m ⟨some 128, .move (.tmp 17), 0, "", #[], none⟩ K s := by kernel_rfl
theorem oL31_3 : (opAt iL31.toList 3 fun o => as1 P iL31 m o K s) = as2 P m ⟨some 129, .indexAddr 22 (.tmp 127) (.tmp 128), 0, "", #[], none⟩ K s := by kernel_rfl
theorem oL31_4 : (opAt iL31.toList 4 fun o => as1 P iL31 m o K s) = as2 P m ⟨some 130, .fieldAddr 63 (.tmp 129) 1, 0, "", #[], none⟩ K s := by kernel_rfl
theorem oL31_5 : (opAt iL31.toList 5 fun o => as1 P iL31 m o K s) = as2 P m ⟨some 131, .load 61 (.tmp 130), 0, "", #[], none⟩ K s := by kernel_rfl
theorem oL31_6 : (opAt iL31.toList 6 fun o => as1 P iL31 m o K s) = as2 P m ⟨some 132, .move (.tmp 14), 0, "", #[], none⟩ K s := by kernel_rfl
theorem oL31_7 : (opAt iL31.toList 7 fun o => as1 P iL31 m o K s) = as2 P m ⟨some 133, .move (.tmp 16), 0, "", #[], none⟩ K s := by kernel_rfl
theorem oL31_8 : (opAt iL31.toList 8 fun o => as1 P iL31 m o K s) = as2 P m ⟨some 134, .indexAddr 31 (.tmp 132) (.tmp 133), 0, "", #[], none⟩ K s := by kernel_rfl
theorem oL31_9 : (opAt iL31.toList 9 fun o => as1 P iL31 m o K s) = as2 P m ⟨some 135, .load 3 (.tmp 134), 0, "", #[], none⟩ K s := by kernel_rfl
theorem oL31_10 : (opAt iL31.toList 10 fun o => as1 P iL31 m o K s) = as2 P m ⟨some 136, .indexAddr 61 (.tmp 131) (.tmp 135), 0, "", #[], none⟩ K s := by kernel_rfl
theorem oL31_11 : (opAt iL31.toList 11 fun o => as1 P iL31 m o K s) = as2 P m ⟨some 137, .load 9 (.tmp 136), 0, "", #[], none⟩ K s := by kernel_rfl
theorem oL31_12 : (opAt iL31.toList 12 fun o => as1 P iL31 m o K s) = as2 P m ⟨some 138, .binOp .add 9 (.const (.string ⟨#[32]⟩)) (.tmp 137) 9, 0, "", #[], none⟩ K s := by kernel_rfl
theorem lL31:aop P cL31 K s=acall P 29 [s.ev (.tmp 5),s.ev (.tmp 138)] s (some 139) K:=by kernel_rfl
theorem oL33_0 : (opAt iL33.toList 0 fun o => as1 P iL33 m o K s) = as2 P m ⟨some 141, .fieldAddr 26 (.tmp 1) 2, 0, "", #[], none⟩ K s := by kernel_rfl
theorem oL33_1 : (opAt iL33.toList 1 fun o => as1 P iL33 m o K s) = as2 P m ⟨some 142, .load 24 (.tmp 141), 0, "", #[], none⟩ K s := by kernel_rfl
theorem oL33_2 : (opAt iL33.toList 2 fun o => as1 P iL33 m o K s) = as2 P m ⟨some 143, .move (.tmp 9), 0, "", #[], none⟩ K s := by kernel_rfl
theorem oL33_3 : (opAt iL33.toList 3 fun o => as1 P iL33 m o K s) = as2 P m ⟨some 144, .indexAddr 24 (.tmp 142) (.tmp 143), 0, "", #[], none⟩ K s := by kernel_rfl
theorem oL33_4 : (opAt iL33.toList 4 fun o => as1 P iL33 m o K s) = as2 P m ⟨some 145, .load 32 (.tmp 144), 0, "", #[], none⟩ K s := by kernel_rfl
theorem oL33_5 : (opAt iL33.toList 5 fun o => as1 P iL33 m o K s) = as2 P m ⟨some 146, .move (.tmp 13), 0, "", #[], none⟩ K s := by kernel_rfl
theorem oL33_6 : (opAt iL33.toList 6 fun o => as1 P iL33 m o K s) = as2 P m ⟨some 147, .move (.tmp 8), 0, "", #[], none⟩ K s := by kernel_rfl
theorem oL33_7 : (opAt iL33.toList 7 fun o => as1 P iL33 m o K s) = as2 P m ⟨some 148, .move (.tmp 9), 0, "", #[], none⟩ K s := by kernel_rfl
theorem oL33_8 : (opAt iL33.toList 8 fun o => as1 P iL33 m o K s) = as2 P m ⟨some 149, .indexAddr 31 (.tmp 147) (.tmp 148), 0, "", #[], none⟩ K s := by kernel_rfl
theorem oL33_9 : (opAt iL33.toList 9 fun o => as1 P iL33 m o K s) = as2 P m ⟨some 150, .load 3 (.tmp 149), 0, "", #[], none⟩ K s := by kernel_rfl
theorem oL33_10 : (opAt iL33.toList 10 fun o => as1 P iL33 m o K s) = as2 P m ⟨some 151, .binOp .mul 3 (.tmp 146) (.tmp 150) 3, 0, "", #[], none⟩ K s := by kernel_rfl
theorem oL33_11 : (opAt iL33.toList 11 fun o => as1 P iL33 m o K s) = as2 P m ⟨some 152, .move (.tmp 13), 0, "", #[], none⟩ K s := by kernel_rfl
theorem oL33_12 : (opAt iL33.toList 12 fun o => as1 P iL33 m o K s) = as2 P m ⟨some 153, .binOp .add 3 (.tmp 152) (.const (.int .i64 1)) 3, 0, "", #[], none⟩ K s := by kernel_rfl
theorem oL33_13 : (opAt iL33.toList 13 fun o => as1 P iL33 m o K s) = as2 P m ⟨some 154, .move (.tmp 8), 0, "", #[], none⟩ K s := by kernel_rfl
theorem oL33_14 : (opAt iL33.toList 14 fun o => as1 P iL33 m o K s) = as2 P m ⟨some 155, .move (.tmp 9), 0, "", #[], none⟩ K s := by kernel_rfl
theorem oL33_15 : (opAt iL33.toList 15 fun o => as1 P iL33 m o K s) = as2 P m ⟨some 156, .indexAddr 31 (.tmp 154) (.tmp 155), 0, "", #[], none⟩ K s := by kernel_rfl
theorem oL33_16 : (opAt iL33.toList 16 fun o => as1 P iL33 m o K s) = as2 P m ⟨some 157, .load 3 (.tmp 156), 0, "", #[], none⟩ K s := by kernel_rfl
theorem oL33_17 : (opAt iL33.toList 17 fun o => as1 P iL33 m o K s) = as2 P m ⟨some 158, .binOp .mul 3 (.tmp 153) (.tmp 157) 3, 0, "", #[], none⟩ K s := by kernel_rfl
theorem oL33_18 : (opAt iL33.toList 18 fun o => as1 P iL33 m o K s) = as2 P m ⟨some 159, .slice 32 (.tmp 145) (some (.tmp 151)) (some (.tmp 158)) none, 0, "", #[], none⟩ K s := by kernel_rfl
theorem oL33_19 : (opAt iL33.toList 19 fun o => as1 P iL33 m o K s) = as2 P m ⟨some 160, .call { callee := .value (.func 31), args := #[(.tmp 159)], argTypes := #[32] }, 0, "", #[], none⟩ K s := by kernel_rfl
theorem oL33_20 : (opAt iL33.toList 20 fun o => as1 P iL33 m o K s) = as2 P m ⟨some 161, .binOp .add 9 (.tmp 160) (.const (.string ⟨#[10]⟩)) 9, 0, "", #[], none⟩ K s := by kernel_rfl
theorem lL33:aop P cL33 K s=acall P 29 [s.ev (.tmp 5),s.ev (.tmp 161)] s (some 162) K:=by kernel_rfl
end
attribute [go_sem] oL8_0 oL8_1 oL8_2 oL8_3 oL8_4 oL8_5 oL8_6 oL8_7 oL8_8 lL8 oL31_0 oL31_1 oL31_2 oL31_3 oL31_4 oL31_5 oL31_6 oL31_7 oL31_8 oL31_9 oL31_10 oL31_11 oL31_12 lL31 oL33_0 oL33_1 oL33_2 oL33_3 oL33_4 oL33_5 oL33_6 oL33_7 oL33_8 oL33_9 oL33_10 oL33_11 oL33_12 oL33_13 oL33_14 oL33_15 oL33_16 oL33_17 oL33_18 oL33_19 oL33_20 lL33
end Go.Proofs.YthehegidpamldaaGreatDoor
