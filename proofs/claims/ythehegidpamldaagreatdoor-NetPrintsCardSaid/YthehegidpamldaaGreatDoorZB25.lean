/- The document's NetPrint: walked. Conditions: what slices may hold; numbers of at most 2048 bytes. -/
import Derived.Test.YthehegidpamldaaGreatDoorZB21
import Derived.Test.YthehegidpamldaaGreatDoorZB22
import Derived.Test.YthehegidpamldaaGreatDoorZB23
import Derived.Test.YthehegidpamldaaGreatDoorZB06
-- NOOWN
set_option linter.unusedVariables false
set_option linter.unusedSimpArgs false
namespace Go.Proofs.YthehegidpamldaaGreatDoor
open Go Go.RowKit
def vlT (l:List ByteArray):Nat→ByteArray
 | 0=>⟨#[]⟩
 | i+1=>vlT l i++(sp++l.getD i ⟨#[]⟩)
theorem ba_nil {a:ByteArray}:a++(⟨#[]⟩:ByteArray)=a:=by apply ByteArray.ext;simp
theorem nil_ba {a:ByteArray}:(⟨#[]⟩:ByteArray)++a=a:=by apply ByteArray.ext;simp
theorem vlT_cons {x:ByteArray} {l:List ByteArray}:∀{i:Nat},vlT (x::l) (i+1)=sp++x++vlT l i:=by
 intro i
 induction i with
 | zero=>show (⟨#[]⟩:ByteArray)++(sp++x)=sp++x++⟨#[]⟩;rw [nil_ba,ba_nil]
 | succ i ih =>
  show vlT (x::l) (i+1)++(sp++l.getD i ⟨#[]⟩)=sp++x++(vlT l i++(sp++l.getD i ⟨#[]⟩))
  rw [ih,ba_assoc]
theorem vlT_join:∀{l:List ByteArray},l≠[]→vlT l l.length=sp++joinT sp l:=by
 intro l
 induction l with
 | nil=>intro h;exact absurd rfl h
 | cons x l ih =>
  intro _
  cases l with
  | nil=>show vlT [x] (0+1)=sp++x;rw [vlT_cons];exact ba_nil
  | cons y l =>
   show vlT (x::y::l) ((y::l).length+1)=sp++(x++sp++joinT sp (y::l))
   rw [vlT_cons,ih (by simp),ba_assoc,ba_assoc]
theorem vlT_size {l:List ByteArray} (h:∀s∈l,s.size≤2048):∀{i:Nat},i≤l.length→(vlT l i).size≤i*2049:=by
 intro i
 induction i with
 | zero=>intro _;have:(vlT l 0).size=0:=rfl;omega
 | succ i ih =>
  intro hi
  show (vlT l i++(sp++l.getD i _)).size≤_
  rw [ByteArray.size_append,ByteArray.size_append,lget_lt l _ (by omega)]
  have:=h _ (List.getElem_mem (show i<l.length by omega))
  have:=ih (by omega)
  have:sp.size=1:=rfl
  omega
section
variable {k : Nat} {V : List VarD} {P : List (List Int)} {RR : List FV} {M : List (List Rat)}
theorem prT_mono {x y:Nat} (h:x≤y):(prT V P M x).size≤(prT V P M y).size:=by
 induction y with
 | zero=>rw [show x=0 by omega];exact Nat.le_refl _
 | succ y ih =>
  by_cases e:x=y+1
  ·rw [e];exact Nat.le_refl _
  ·have:=ih (by omega)
   show _≤(prT V P M y++_).size
   rw [ByteArray.size_append];omega
theorem prK_mono {Z pa:List Nat} {s:Nat} {q:List Rat} {x y:Nat} (h:x≤y):(prK V Z pa s q x).size≤(prK V Z pa s q y).size:=by
 induction y with
 | zero=>rw [show x=0 by omega];exact Nat.le_refl _
 | succ y ih =>
  by_cases e:x=y+1
  ·rw [e];exact Nat.le_refl _
  ·have:=ih (by omega)
   show _≤(prK V Z pa s q y++_).size
   rw [ByteArray.size_append];omega
set_option maxRecDepth 100000 in
theorem rprintE_w (h:NetOk k V P RR M) (he:netE (ordE P) V P M≠0):Good Tryz.prog 8 [netV V (P.map ints) RR] (.tup [St ⟨#[]⟩,I (netE (ordE P) V P M)]):=by
 have hc:=rnetCheck_w h
 refine good_of Tryz.func8 rfl (by kernel_rfl) fun X hO hrd=>?_;rw [Tryz.ntmps8,Tryz.results8];simp only [ast0,List.map_cons,List.map_nil,List.length_cons,List.length_nil,Nat.reduceAdd,Nat.reduceSub,List.replicate_succ,List.replicate_zero,List.cons_append,List.nil_append]
 (repeat (with_reducible first|refine W_seq fun K hK=>?_|refine J_region ?_ |(refine Kont.go (by assumption) ?_)|(simp (config:={ maxSteps:=3000000 }) (disch:=omega) only [go_sem,↓reduceIte,Nat.reduceAdd])))
 (first|refine call_f (hc) rfl ?_|refine callQ_f (hc) rfl ?_|refine callHK_f (hc) rfl ?_|refine callH_f (hc) rfl ?_)
 (repeat (with_reducible first|refine W_seq fun K hK=>?_|refine J_ret ?_|refine J_region ?_ |refine J_c ?_|refine Jc_true ?_|(refine Kont.go (by assumption) ?_)|(simp (config:={ maxSteps:=3000000 }) (disch:=omega) only [go_sem,he])))
 exact ⟨_,rfl,FrzL.fs [_,_]⟩
set_option maxRecDepth 100000 in
set_option maxHeartbeats 16000000 in
theorem rprint_w (h:NetOk k V P RR M) (hB:PrB k V P M) (he:netE (ordE P) V P M=0):Good Tryz.prog 8 [netV V (P.map ints) RR] (.tup [if 20000<(prA V P M).size then St ⟨#[]⟩ else St (prA V P M),I (if 20000<(prA V P M).size then 2 else 0)]):=by
 have hc:=rnetCheck_w h
 rw [he] at hc
 have hV:=h.lV
 have hsz:=rsizes_w V (P.map ints) RR hV
 have hR:=net_okR he
 have hZl:(szN V).length=V.length:=szN_len
 have hz8:=hR.z8
 have hz1:=hR.z1
 have hg:∀v,v<V.length→VarG V P M v:=fun v hv=>netG he hv
 have h4:∀x∈V,1≤x.2.length∧x.2.length≤4:=fun x hx=>by
  obtain ⟨i,hi,rfl⟩:=List.getElem_of_mem hx
  have h1:=hR.szp (v:=i) (by omega)
  have h2:=hR.sz4 (v:=i) (by omega)
  rw [szT_get hi] at h1 h2
  exact ⟨h1,h2⟩
 have hVs:=fun x hx=>prV_size hB (fun x hx=>(h4 x hx).2) (x:=x) hx
 have hTs:=fun x hx=>prT_size hB hg (x:=x) hx
 have hlV:(V.map varF).length=V.length:=List.length_map ..
 have y1:vrB.size=4:=rfl
 have y2:osB.size=2:=rfl
 have y3:ocB.size=3:=rfl
 have y4:sp.size=1:=rfl
 have y5:brB.size=2:=rfl
 have y6:onB.size=3:=rfl
 have y7:nl.size=1:=rfl
 have y8:cbB.size=2:=rfl
 refine good_of Tryz.func8 rfl (by kernel_rfl) fun X hO hrd=>?_;rw [Tryz.ntmps8,Tryz.results8];simp only [ast0,List.map_cons,List.map_nil,List.length_cons,List.length_nil,Nat.reduceAdd,Nat.reduceSub,List.replicate_succ,List.replicate_zero,List.cons_append,List.nil_append]
 (repeat (with_reducible first|refine W_seq fun K hK=>?_|refine J_region ?_ |(refine Kont.go (by assumption) ?_)|(simp (config:={ maxSteps:=3000000 }) (disch:=omega) only [go_sem,↓reduceIte,Nat.reduceAdd])))
 (first|refine call_f (hc) rfl ?_|refine callQ_f (hc) rfl ?_|refine callHK_f (hc) rfl ?_|refine callH_f (hc) rfl ?_)
 (repeat (with_reducible first|refine W_seq fun K hK=>?_|refine J_block ?_|refine J_skip ?_|refine J_region ?_ |refine J_c ?_|refine Jc_false ?_|(refine Kont.go (by assumption) ?_)|(simp (config:={ maxSteps:=3000000 }) (disch:=omega) only [go_sem])))
 refine W_loop [5,6,7,24,25,26,27,28,29,30,31,32,33,34,35,36,37,38,39,40,41,42,43,44,45,46,47,48,49,50,51,52,53,54,55,56,57,58,59,60,61,62,63,64,65] (fun x:Nat=>[(6,.f (I x)),(5,.f (St (prV V x)))]) (fun x:Nat=>[oNt (V.map varF) (P.map ints) RR]) (fun x:Nat=>x≤V.length) (fun x:Nat=>V.length-x) (0) (Nat.zero_le _) (by refine weak_of ?_ ?_<;>simp (disch:=omega) only [go_sem]<;>first|rfl|exact ⟨rfl,rfl⟩|exact Or.inl rfl|exact ⟨Or.inl rfl,Or.inl rfl⟩|trivial|assumption|omega|(symm;assumption)|((repeat' apply And.intro)<;>first|rfl|omega|trivial|exact .inl rfl|exact .inr ⟨rfl,rfl⟩|exact .inr rfl|(right;symm;assumption)|(symm;assumption)|assumption)) ?_
 ·rintro x hx
  simp only [go_sem]
  (repeat (with_reducible first|refine W_seq fun K hK=>?_|refine J_region ?_ |refine J_c ?_|(refine Kont.go (by assumption) ?_)|(simp (config:={ maxSteps:=3000000 }) (disch:=omega) only [go_sem,↓reduceIte,hlV])))
  refine Jc_if (fun hxl=>?_) (fun hxl=>?_)<;>try simp only [decide_eq_true_eq,decide_eq_false_iff_not] at hxl
  ·have gx:=map_get varF V hxl
   have hvf:varF V[x]=.agg [St V[x].1,.fz 1 (V[x].2.map St)]:=rfl
   rw [hvf] at gx
   have hmem:=List.getElem_mem hxl
   have h4x:=h4 _ hmem
   have hnm:=hB.nm _ hmem
   have hvs:=hVs x hx
   have hvl:=hB.vl _ hmem
   have hvz:=fun i hi=>vlT_size hvl (i:=i) hi
   have hj:=vlT_join (l:=V[x].2) (fun h=>by rw [h] at h4x;simp at h4x)
   have hnx:prV V (x+1)=prV V x++varT V[x]:=by show prV V x++varT (V.getD x _)=_;rw [lget_lt V _ hxl]
   have hos:osB++sp=obB:=rfl
   obtain ⟨T1,hT1⟩:∃T1,T1=prV V x++vrB++V[x].1++osB:=⟨_,rfl⟩
   have hT1s:T1.size≤2000000:=by rw [hT1];simp only [ByteArray.size_append];omega
   have hT0:T1=T1++vlT V[x].2 0:=ba_nil.symm
   have hend:T1++vlT V[x].2 V[x].2.length++ocB=prV V (x+1):=by
    rw [hnx,hT1,hj]
    unfold varT
    rw [←hos]
    simp only [ba_assoc]
   obtain ⟨vs,hvse⟩:∃vs,vs=V[x].2:=⟨_,rfl⟩
   rw [←hvse] at gx h4x hvl hvz hT0 hend
   (repeat (first|(with_reducible first|refine W_seq fun K hK=>?_|refine J_block ?_|refine J_skip ?_|refine J_region ?_ |(refine Kont.go (by assumption) ?_)|(simp (config:={ maxSteps:=3000000 }) (disch:=omega) only [go_sem,↓reduceIte,Nat.reduceAdd,Nat.reduceLeDiff,gx]))|refine And.intro (by omega) ?_))
   rw [show prV V x++(⟨#[118,97,114,32]⟩:ByteArray)++V[x].1++(⟨#[32,123]⟩:ByteArray)=T1++vlT vs 0 from hT1.symm.trans hT0]
   refine W_loop [5,7,41,42,43,44,45,46,47,48,49,50,51,52,53,54,55,56,57,58,59,60,61,62,63] (fun i:Nat=>[(7,.f (I i)),(5,.f (St (T1++vlT vs i)))]) (fun i:Nat=>[oNt (V.map varF) (P.map ints) RR]) (fun i:Nat=>i≤vs.length) (fun i:Nat=>vs.length-i) (0) (Nat.zero_le _) (by refine weak_of ?_ ?_<;>simp (disch:=omega) only [go_sem]<;>first|rfl|exact ⟨rfl,rfl⟩|exact Or.inl rfl|exact ⟨Or.inl rfl,Or.inl rfl⟩|trivial|assumption|omega|(symm;assumption)|((repeat' apply And.intro)<;>first|rfl|omega|trivial|exact .inl rfl|exact .inr ⟨rfl,rfl⟩|exact .inr rfl|(right;symm;assumption)|(symm;assumption)|assumption)) ?_
   rintro i hi
   simp only [go_sem]
   (repeat (with_reducible first|refine W_seq fun K hK=>?_|refine J_region ?_ |refine J_c ?_|(refine Kont.go (by assumption) ?_)|(simp (config:={ maxSteps:=3000000 }) (disch:=omega) only [go_sem,↓reduceIte,gx,List.length_map])))
   refine Jc_if (fun hil=>?_) (fun hil=>?_)<;>try simp only [decide_eq_true_eq,decide_eq_false_iff_not] at hil
   ·have gv:=map_get St vs hil
    have hvi:=hvz i hi
    have hni:=hvl _ (List.getElem_mem hil)
    have hn:T1++vlT vs i++sp++vs[i]=T1++vlT vs (i+1):=by show _=T1++(vlT vs i++(sp++vs.getD i _));rw [lget_lt vs _ hil];simp only [ba_assoc]
    (repeat (first|(with_reducible first|refine W_seq fun K hK=>?_|refine J_block ?_|refine J_skip ?_|refine J_region ?_ |(refine Kont.go (by assumption) ?_)|(simp (config:={ maxSteps:=3000000 }) (disch:=omega) only [go_sem,↓reduceIte,Nat.reduceLeDiff,gx,gv,ByteArray.size_append,y4]))|refine And.intro (by omega) ?_))
    refine ⟨i+1,by omega,by omega,weak_of ?_ ?_⟩<;>(try simp (disch:=omega) only [go_sem,hn])<;>(try first|done|omega|rfl|exact ⟨rfl,rfl⟩|trivial)
   ·have hil2:vs.length=i:=by omega
    subst hil2
    have hvi:=hvz vs.length (Nat.le_refl _)
    (repeat (first|(with_reducible first|refine J_exit ?_|refine J_region ?_ |(refine Kont.go (by assumption) ?_)|(simp (config:={ maxSteps:=3000000 }) (disch:=omega) only [go_sem,↓reduceIte,Nat.reduceLeDiff,ByteArray.size_append,y3]))|refine And.intro (by omega) ?_))
    refine ⟨x+1,by omega,by omega,weak_of ?_ ?_⟩<;>(try simp (disch:=omega) only [go_sem,hend])<;>(try first|done|omega|rfl|exact ⟨rfl,rfl⟩|trivial)
  ·have hex:V.length=x:=by omega
   subst hex
   have hA:=hVs V.length (Nat.le_refl _)
   have hAe:prA V P M=prV V V.length++prT V P M V.length:=rfl
   obtain ⟨A,hAA⟩:∃A,A=prV V V.length:=⟨_,rfl⟩
   rw [←hAA] at hA hAe ⊢
   have hNt1:A=A++prT V P M 0:=ba_nil.symm
   have hTn:=hTs V.length (Nat.le_refl _)
   obtain ⟨W,hW⟩:∃W,W=prA V P M:=⟨_,rfl⟩
   have hWs:W.size=A.size+(prT V P M V.length).size:=by rw [hW,hAe,ByteArray.size_append]
   have hZZ:(Ns (szN V)).length=V.length:=by rw [Ns_len,hZl]
   (repeat (with_reducible first|refine W_seq fun K hK=>?_|refine J_exit ?_|refine J_region ?_ |(refine Kont.go (by assumption) ?_)|(simp (config:={ maxSteps:=3000000 }) (disch:=omega) only [go_sem,↓reduceIte,Nat.reduceAdd])))
   (first|refine call_f (hsz) rfl ?_|refine callQ_f (hsz) rfl ?_|refine callHK_f (hsz) rfl ?_|refine callH_f (hsz) rfl ?_)
   (repeat (with_reducible first|refine W_seq fun K hK=>?_|refine J_block ?_|refine J_region ?_ |(refine Kont.go (by assumption) ?_)|(simp (config:={ maxSteps:=3000000 }) (disch:=omega) only [go_sem])))
   refine W_loop [5,9,10,11,12,13,14,15,16,17,18,68,69,70,71,72,73,74,75,76,77,78,79,80,81,82,83,84,85,86,87,88,89,90,91,92,93,94,95,96,97,98,99,100,101,102,103,104,105,106,107,108,109,110,111,112,113,114,115,116,117,118,119,120,121,122,123,124,125,126,127,128,129,130,131,132,133,134,135,136,137,138,139,140,141,142,143,144,145,146,147,148,149,150,151,152,153,154,155,156,157,158,159,160,161,162,163,164,165,166,167,168,169,170,171,172,173,174,175,176,177,178,179,180,181,182,183,184,185,186,187,188,189,190,191,192,193,194,195,196,197,198,199,200,201,202,203,204,205,206,207,208,209,210,211,212,213,214,215,216,217,218,219] (fun x:Nat × ByteArray=>[(9,.f (I x.1)),(5,.f (St x.2))]) (fun x:Nat × ByteArray=>[oNt (V.map varF) (P.map ints) RR]) (fun x:Nat × ByteArray=>x.1≤V.length∧(x.2=A++prT V P M x.1∨(20000<x.2.size∧20000<W.size))∧x.2.size≤50000000000) (fun x:Nat × ByteArray=>V.length-x.1) ((0,A)) (⟨Nat.zero_le _,.inl hNt1,by simp only;omega⟩) (by refine weak_of ?_ ?_<;>simp (disch:=omega) only [go_sem]<;>first|rfl|exact ⟨rfl,rfl⟩|exact Or.inl rfl|exact ⟨Or.inl rfl,Or.inl rfl⟩|trivial|assumption|omega|(symm;assumption)|((repeat' apply And.intro)<;>first|rfl|omega|trivial|exact .inl rfl|exact .inr ⟨rfl,rfl⟩|exact .inr rfl|(right;symm;assumption)|(symm;assumption)|assumption)) ?_
   rintro ⟨v,t⟩ ⟨hv,ht,htb⟩
   simp only at hv ht htb
   simp only [go_sem]
   by_cases hgo:v<V.length∧t.size≤20000
   ·obtain ⟨hvl,htl⟩:=hgo
    have htl':(t.size:Int)≤20000:=by omega
    have htB:t=A++prT V P M v:=ht.resolve_right fun h=>by omega
    have gx:=map_get varF V hvl
    have hvf:varF V[v]=.agg [St V[v].1,.fz 1 (V[v].2.map St)]:=rfl
    rw [hvf] at gx
    have hgv:=hg v hvl
    have hml:=hgv.ml
    have hM0:M.getD v []=M[v]:=lget_lt M [] hml
    obtain ⟨xs,hxs,hfs⟩:=h.hM.at hml
    have hgp:=hgv.get
    have hpl:(Ns (paN P v)).length=(paN P v).length:=Ns_len
    have hnm:vnm V v=V[v].1:=by unfold vnm;rw [lget_lt V _ hvl]
    have hTv:=hTs v hv
    have hns:=hB.nm _ (List.getElem_mem hvl)
    have hpl8:=hgv.ok.len
    have hmono:=prT_mono (V:=V) (P:=P) (M:=M) (show v+1≤V.length by omega)
    obtain ⟨B,hBe⟩:∃B,B=A++prT V P M v:=⟨_,rfl⟩
    rw [htB,←hBe] at htl htl' ⊢
    have hBn:A++prT V P M (v+1)=B++prF V (szN V) (paN P v) v (szT (szN V) v) (cntS (szT (szN V)) (paN P v)) (M.getD v []):=by rw [hBe,ba_assoc];rfl
    have hWb:(A++prT V P M (v+1)).size≤W.size:=by rw [ByteArray.size_append];omega
    have hTn1:=hTs (v+1) (by omega)
    obtain ⟨C,hC⟩:∃C,C=B++V[v].1:=⟨_,rfl⟩
    have hCs:C.size=B.size+V[v].1.size:=by rw [hC,ByteArray.size_append]
    by_cases hpa:paN P v=[]
    ·have hp0:(paN P v).length=0:=by rw [hpa];rfl
     have hll:=hgv.len
     rw [hpa] at hll
     have hll2:M[v].length≤4:=by
      have h1:=hgv.s4 hvl
      rw [hM0,show cntS (szT (szN V)) []=1 from rfl,Nat.one_mul] at hll
      omega
     have hln:=rline_w hfs hB.k1 (by omega) (by have:=hB.kk;omega)
     have hFe:prF V (szN V) (paN P v) v (szT (szN V) v) (cntS (szT (szN V)) (paN P v)) (M.getD v [])=V[v].1++(lineT M[v]++nl):=by unfold prF;rw [if_pos hpa,hnm,hM0]
     rw [hFe,←ba_assoc,←hC,←ba_assoc] at hBn
     have hls:=prL_size (s:=szT (szN V) v) (hfs.row hB.k1) hB.k1 hB.kk hll2
     (repeat (first|(with_reducible first|refine W_seq fun K hK=>?_|refine J_block ?_|refine J_skip ?_|refine J_region ?_ |refine J_c ?_|refine Jc_true ?_|(refine Kont.go (by assumption) ?_)|(simp (config:={ maxSteps:=3000000 }) (disch:=omega) only [go_sem,↓reduceIte,hlV,hvl,htl',gx,hgp,hpl,hp0]))|refine And.intro (by omega) ?_))
     rw [←hC]
     (repeat (with_reducible first|(simp (config:={ maxSteps:=3000000 }) (disch:=omega) only [go_sem,hxs])))
     (first|refine call_f (hln) rfl ?_|refine callQ_f (hln) rfl ?_|refine callHK_f (hln) rfl ?_|refine callH_f (hln) rfl ?_)
     (repeat (first|(with_reducible first|refine W_seq fun K hK=>?_|refine J_exit ?_|refine J_region ?_ |(refine Kont.go (by assumption) ?_)|(simp (config:={ maxSteps:=3000000 }) (disch:=omega) only [go_sem,↓reduceIte,Nat.reduceLeDiff,ByteArray.size_append,y7]))|refine And.intro (by omega) ?_))
     refine ⟨(v+1,A++prT V P M (v+1)),⟨by simp only;omega,.inl rfl,by simp only [ByteArray.size_append];omega⟩,by simp only;omega,weak_of ?_ ?_⟩<;>(try simp (disch:=omega) only [go_sem,hBn])<;>(try first|done|omega|rfl|exact ⟨rfl,rfl⟩|trivial)
    ·have hp0:¬(paN P v).length=0:=fun h=>hpa (List.length_eq_zero_iff.1 h)
     have hp0i:¬(((paN P v).length:Int)=0):=by omega
     have hvZ:v<(szN V).length:=by rw [hZl];exact hvl
     have hs1:=hgv.ok.szp hvZ
     have hs4:=hgv.s4 hvl
     have hcb:=hgv.ok.cnt
     have hll:=hgv.len
     have hplt:=hgv.ok.lt
     rw [hM0] at hll hBn
     have hqr:Row k M[v]:=hfs.row hB.k1
     have gz:=Ns_get (l:=szN V) hvZ
     have hszg:(szN V).getD v 0=szT (szN V) v:=rfl
     rw [hszg] at gz
     have hrc:=rcountT_w hgv.ok
     have hwh:=fun j hj=>rwhere_w (k:=j) hgv.ok hj
     have hat:=fun j hj i (hi:i<(paN P v).length)=>asgS_lt (S:=szT (szN V)) (l:=paN P v) (k:=j) hgv.ok.nd hgv.ok.pos hj (List.getElem_mem hi)
     have hKs:=fun i=>prK_size (Z:=szN V) (pa:=paN P v) (s:=szT (szN V) v) (i:=i) hB hqr hpl8 hs4
     have hKp:=fun at_ j=>prK_step (at_:=at_) (j:=j) (Z:=szN V) (pa:=paN P v) (s:=szT (szN V) v) hB hqr hpl8 hs4
     unfold prF at hBn
     rw [if_neg hpa,hnm] at hBn
     obtain ⟨pa,hpae⟩:∃pa,pa=paN P v:=⟨_,rfl⟩
     rw [←hpae] at hp0 hp0i hgp hpl hplt hpl8 hcb hll hwh hat hKs hKp hBn hrc
     obtain ⟨s,hse⟩:∃s,s=szT (szN V) v:=⟨_,rfl⟩
     rw [←hse] at hs1 hs4 hll gz hKs hKp hBn
     obtain ⟨c,hce⟩:∃c,c=cntS (szT (szN V)) pa:=⟨_,rfl⟩
     rw [←hce] at hcb hll hwh hat hBn hrc
     obtain ⟨q,hqe⟩:∃q,q=M[v]:=⟨_,rfl⟩
     rw [←hqe] at hfs hqr hll hKs hKp hBn
     have hKmono:=fun x (hx:x≤c)=>prK_mono (V:=V) (Z:=szN V) (pa:=pa) (s:=s) (q:=q) hx
     obtain ⟨C2,hC2⟩:∃C2,C2=C++brB:=⟨_,rfl⟩
     have hC2s:C2.size=C.size+2:=by rw [hC2,ByteArray.size_append];rfl
     have hC2n:C++brB=C2++pnT V pa 0:=by rw [hC2];exact ba_nil.symm
     (repeat (first|(with_reducible first|refine W_seq fun K hK=>?_|refine J_block ?_|refine J_skip ?_|refine J_region ?_ |refine J_c ?_|refine Jc_true ?_|refine Jc_false ?_|(refine Kont.go (by assumption) ?_)|(simp (config:={ maxSteps:=3000000 }) (disch:=omega) only [go_sem,↓reduceIte,Nat.reduceAdd,Nat.reduceLeDiff,hlV,hvl,htl',gx,hgp,hpl,hp0i]))|refine And.intro (by omega) ?_))
     rw [←hC]
     (repeat (with_reducible first|(simp (config:={ maxSteps:=3000000 }) (disch:=omega) only [go_sem,hC2n])))
     refine W_loop [5,11,107,108,109,110,111,112,113,114,115,116,117,118,119,120,121,122,123,124,125,126,127,128,129,130,131,132] (fun i:Nat=>[(11,.f (I i)),(5,.f (St (C2++pnT V pa i)))]) (fun i:Nat=>[oNt (V.map varF) (P.map ints) RR]) (fun i:Nat=>i≤pa.length) (fun i:Nat=>pa.length-i) (0) (Nat.zero_le _) (by refine weak_of ?_ ?_<;>simp (disch:=omega) only [go_sem]<;>first|rfl|exact ⟨rfl,rfl⟩|exact Or.inl rfl|exact ⟨Or.inl rfl,Or.inl rfl⟩|trivial|assumption|omega|(symm;assumption)|((repeat' apply And.intro)<;>first|rfl|omega|trivial|exact .inl rfl|exact .inr ⟨rfl,rfl⟩|exact .inr rfl|(right;symm;assumption)|(symm;assumption)|assumption)) ?_
     rintro i hi
     simp only [go_sem]
     (repeat (with_reducible first|refine W_seq fun K hK=>?_|refine J_region ?_ |refine J_c ?_|(refine Kont.go (by assumption) ?_)|(simp (config:={ maxSteps:=3000000 }) (disch:=omega) only [go_sem,↓reduceIte,hgp,hpl])))
     refine Jc_if (fun hil=>?_) (fun hil=>?_)<;>try simp only [decide_eq_true_eq,decide_eq_false_iff_not] at hil
     ·have gi:=Ns_get (l:=pa) hil
      have hpv:pa.getD i 0<V.length:=by
       rw [lget_lt pa 0 hil]
       have:=hplt _ (List.getElem_mem hil);rwa [hZl] at this
      obtain ⟨p,hpe⟩:∃p,p=pa.getD i 0:=⟨_,rfl⟩
      rw [←hpe] at gi hpv
      have gp:=map_get varF V hpv
      have hvp:varF V[p]=.agg [St V[p].1,.fz 1 (V[p].2.map St)]:=rfl
      rw [hvp] at gp
      have hnp:vnm V p=V[p].1:=by unfold vnm;rw [lget_lt V _ hpv]
      have hps:=pnT_size hB.nm (pa:=pa) (i:=i)
      have hpm:=Nat.mul_le_mul_right 2049 (Nat.le_trans hi hpl8)
      have hnps:=hB.nm _ (List.getElem_mem hpv)
      have hDn:C2++pnT V pa i++sp++V[p].1=C2++pnT V pa (i+1):=by show _=C2++(pnT V pa i++(sp++vnm V (pa.getD i 0)));rw [←hpe,hnp];simp only [ba_assoc]
      (repeat (first|(with_reducible first|refine W_seq fun K hK=>?_|refine J_block ?_|refine J_skip ?_|refine J_region ?_ |refine J_drawn mixed (by kernel_rfl) ?_|(refine Kont.go (by assumption) ?_)|(simp (config:={ maxSteps:=3000000 }) (disch:=omega) only [go_sem,↓reduceIte,Nat.reduceLeDiff,hgp,gi,gp,ByteArray.size_append,y4]))|refine And.intro (by omega) ?_))
      refine ⟨i+1,by omega,by omega,weak_of ?_ ?_⟩<;>(try simp (disch:=omega) only [go_sem,hDn])<;>(try first|done|omega|rfl|exact ⟨rfl,rfl⟩|trivial)
     ·have hil2:pa.length=i:=by omega
      subst hil2
      have hps:=pnT_size hB.nm (pa:=pa) (i:=pa.length)
      have hpm:=Nat.mul_le_mul_right 2049 hpl8
      obtain ⟨E2,hE2⟩:∃E2,E2=C2++pnT V pa pa.length++onB:=⟨_,rfl⟩
      have hE2s:E2.size≤40000100000:=by rw [hE2];simp only [ByteArray.size_append];omega
      have hE2n:C2++pnT V pa pa.length++onB=E2++prK V (szN V) pa s q 0:=by rw [hE2];exact ba_nil.symm
      have hEnd:E2++prK V (szN V) pa s q c++cbB=A++prT V P M (v+1):=by rw [hBn,hE2,hC2,hC];simp only [ba_assoc]
      have hEle:(E2++prK V (szN V) pa s q c).size+2≤W.size:=by
       have h1:=congrArg ByteArray.size hEnd
       rw [ByteArray.size_append (a:=E2++_)] at h1
       omega
      have hxl:=hfs.len
      have hxc:xs.length=c*s:=by rw [hxl,hll]
      have hcs:c*s≤262144:=Nat.mul_le_mul hcb hs4
      (repeat (first|(with_reducible first|refine W_seq fun K hK=>?_|refine J_exit ?_|refine J_region ?_ |(refine Kont.go (by assumption) ?_)|(simp (config:={ maxSteps:=3000000 }) (disch:=omega) only [go_sem,↓reduceIte,Nat.reduceLeDiff,ByteArray.size_append,y6,hgp]))|refine And.intro (by omega) ?_))
      (first|refine call_f (hrc) rfl ?_|refine callQ_f (hrc) rfl ?_|refine callHK_f (hrc) rfl ?_|refine callH_f (hrc) rfl ?_)
      (repeat (with_reducible first|refine W_seq fun K hK=>?_|refine J_block ?_|refine J_region ?_ |(refine Kont.go (by assumption) ?_)|(simp (config:={ maxSteps:=3000000 }) (disch:=omega) only [go_sem,hE2n])))
      refine W_loop [5,14,15,16,17,18,145,146,147,148,149,150,151,152,153,154,155,156,157,158,159,160,161,162,163,164,165,166,167,168,169,170,171,172,173,174,175,176,177,178,179,180,181,182,183,184,185,186,187,188,189,190,191,192,193,194,195,196,197,198,199,200,201,202,203,204,205,206,207,208,209,210,211,212,213,214,215,216,217] (fun j:Nat=>[(14,.f (I j)),(5,.f (St (E2++prK V (szN V) pa s q j)))]) (fun j:Nat=>[oNt (V.map varF) (P.map ints) RR]) (fun j:Nat=>j≤c) (fun j:Nat=>c-j) (0) (Nat.zero_le _) (by refine weak_of ?_ ?_<;>simp (disch:=omega) only [go_sem]<;>first|rfl|exact ⟨rfl,rfl⟩|exact Or.inl rfl|exact ⟨Or.inl rfl,Or.inl rfl⟩|trivial|assumption|omega|(symm;assumption)|((repeat' apply And.intro)<;>first|rfl|omega|trivial|exact .inl rfl|exact .inr ⟨rfl,rfl⟩|exact .inr rfl|(right;symm;assumption)|(symm;assumption)|assumption)) ?_
      rintro j hj
      have hKj:=hKs j
      have hjm:=Nat.mul_le_mul_right 65561 (show j≤65536 by omega)
      have hKm:=hKmono j hj
      have hKc:=hKs c
      have hcm:=Nat.mul_le_mul_right 65561 hcb
      have hGb:(E2++prK V (szN V) pa s q j).size≤45000000000:=by rw [ByteArray.size_append];omega
      have hGW:(E2++prK V (szN V) pa s q j).size+2≤W.size:=by rw [ByteArray.size_append] at hEle ⊢;omega
      have hKn:prK V (szN V) pa s q (j+1)=prK V (szN V) pa s q j++(pvT V pa (asgL (szN V) pa j) pa.length++(lineT (rwQ q s j)++nl)):=rfl
      have hGn:E2++prK V (szN V) pa s q (j+1)=E2++prK V (szN V) pa s q j++(pvT V pa (asgL (szN V) pa j) pa.length++(lineT (rwQ q s j)++nl)):=by rw [hKn,ba_assoc]
      obtain ⟨G,hG⟩:∃G,G=E2++prK V (szN V) pa s q j:=⟨_,rfl⟩
      rw [←hG] at hGb hGW hGn ⊢
      simp only [go_sem]
      by_cases hjg:j<c∧G.size≤20000
      ·obtain ⟨hjc,hgl⟩:=hjg
       have hgl':(G.size:Int)≤20000:=by omega
       have hwj:=hwh j hjc
       have hKpj:=hKp (asgL (szN V) pa j) j
       have hatj:=hat j hjc
       have hasl:(asgL (szN V) pa j).length=pa.length:=asgL_len
       have hasg:=fun i (hi:i<pa.length)=>asgL_get (Z:=szN V) (l:=pa) (k:=j) hi
       obtain ⟨at_,hate⟩:∃at_,at_=asgL (szN V) pa j:=⟨_,rfl⟩
       rw [←hate] at hwj hGn hKpj hasl hasg
       have hG0:St G=St (G++pvT V pa at_ 0):=by rw [show G++pvT V pa at_ 0=G from ba_nil]
       (repeat (with_reducible first|refine W_seq fun K hK=>?_|refine J_block ?_|refine J_skip ?_|refine J_region ?_ |refine J_c ?_|refine Jc_true ?_|(refine Kont.go (by assumption) ?_)|(simp (config:={ maxSteps:=3000000 }) (disch:=omega) only [go_sem,↓reduceIte,hjc,hgl',hgp])))
       (first|refine call_f (hwj) rfl ?_|refine callQ_f (hwj) rfl ?_|refine callHK_f (hwj) rfl ?_|refine callH_f (hwj) rfl ?_)
       (repeat (with_reducible first|refine W_seq fun K hK=>?_|refine J_block ?_|refine J_region ?_ |(refine Kont.go (by assumption) ?_)|(simp (config:={ maxSteps:=3000000 }) (disch:=omega) only [go_sem])))
       rw [hG0]
       refine W_loop [5,17,166,167,168,169,170,171,172,173,174,175,176,177,178,179,180,181,182,183,184,185,186,187,188,189,190,191,192,193] (fun i:Nat=>[(17,.f (I i)),(5,.f (St (G++pvT V pa at_ i)))]) (fun i:Nat=>[oNt (V.map varF) (P.map ints) RR]) (fun i:Nat=>i≤pa.length) (fun i:Nat=>pa.length-i) (0) (Nat.zero_le _) (by refine weak_of ?_ ?_<;>simp (disch:=omega) only [go_sem]<;>first|rfl|exact ⟨rfl,rfl⟩|exact Or.inl rfl|exact ⟨Or.inl rfl,Or.inl rfl⟩|trivial|assumption|omega|(symm;assumption)|((repeat' apply And.intro)<;>first|rfl|omega|trivial|exact .inl rfl|exact .inr ⟨rfl,rfl⟩|exact .inr rfl|(right;symm;assumption)|(symm;assumption)|assumption)) ?_
       rintro i hi
       simp only [go_sem]
       (repeat (with_reducible first|refine W_seq fun K hK=>?_|refine J_region ?_ |refine J_c ?_|(refine Kont.go (by assumption) ?_)|(simp (config:={ maxSteps:=3000000 }) (disch:=omega) only [go_sem,Ns_len,hasl])))
       refine Jc_if (fun hil=>?_) (fun hil=>?_)<;>try simp only [decide_eq_true_eq,decide_eq_false_iff_not] at hil
       ·have gi:=Ns_get (l:=pa) hil
        have hpg:=lget_lt pa 0 hil
        have hpv:pa.getD i 0<V.length:=by
         rw [hpg]
         have:=hplt _ (List.getElem_mem hil);rwa [hZl] at this
        have gat:=Ns_get (l:=at_) (i:=i) (by rw [hasl];exact hil)
        have hai:at_.getD i 0<szT (szN V) (pa.getD i 0):=by rw [hasg i hil,hpg];exact hatj i hil
        obtain ⟨p,hpe⟩:∃p,p=pa.getD i 0:=⟨_,rfl⟩
        obtain ⟨b,hbe⟩:∃b,b=at_.getD i 0:=⟨_,rfl⟩
        have hvv0:vvl V (pa.getD i 0) (at_.getD i 0)=vvl V p b:=by rw [hpe,hbe]
        rw [←hpe] at gi hpv hai
        rw [←hbe] at gat hai
        rw [szT_get hpv] at hai
        have gp:=map_get varF V hpv
        have hvp:varF V[p]=.agg [St V[p].1,.fz 1 (V[p].2.map St)]:=rfl
        rw [hvp] at gp
        have gv:=map_get St V[p].2 hai
        have hvv:vvl V p b=V[p].2[b]:=by unfold vvl;rw [lget_lt V _ hpv,lget_lt _ _ hai]
        have hps:=pvT_size hB.vl (pa:=pa) (at_:=at_) (i:=i)
        have hpm:=Nat.mul_le_mul_right 2049 (Nat.le_trans hi hpl8)
        have hnps:=hB.vl _ (List.getElem_mem hpv) _ (List.getElem_mem hai)
        obtain ⟨y,hye⟩:∃y,y=V[p].2[b]:=⟨_,rfl⟩
        rw [←hye] at gv hvv hnps
        have hDn:G++pvT V pa at_ i++sp++y=G++pvT V pa at_ (i+1):=by show _=G++(pvT V pa at_ i++(sp++vvl V (pa.getD i 0) (at_.getD i 0)));rw [hvv0,hvv];simp only [ba_assoc]
        (repeat (first|(with_reducible first|refine W_seq fun K hK=>?_|refine J_block ?_|refine J_skip ?_|refine J_region ?_ |refine J_drawn mixed (by kernel_rfl) ?_|(refine Kont.go (by assumption) ?_)|(simp (config:={ maxSteps:=3000000 }) (disch:=omega) only [go_sem,↓reduceIte,Nat.reduceLeDiff,hgp,gi,gp,gat,gv,ByteArray.size_append,y4]))|refine And.intro (by omega) ?_))
        refine ⟨i+1,by omega,by omega,weak_of ?_ ?_⟩<;>(try simp (disch:=omega) only [go_sem,hDn])<;>(try first|done|omega|rfl|exact ⟨rfl,rfl⟩|trivial)
       ·have hil2:pa.length=i:=by omega
        subst hil2
        have hps:=pvT_size hB.vl (pa:=pa) (at_:=at_) (i:=pa.length)
        have hpm:=Nat.mul_le_mul_right 2049 hpl8
        have hfp:=hfs.piece (j*s) s
        have hln:=rline_w hfp hB.k1 (by simp only [List.length_take];omega) (by have:=hB.kk;omega)
        have hrq:(q.drop (j*s)).take s=rwQ q s j:=rfl
        rw [hrq] at hln
        have hms:=Nat.mul_le_mul_right s (show j+1≤c by omega)
        have hsm:(j+1)*s=j*s+s:=Nat.succ_mul j s
        have m1:(j:Int)*(s:Int)=((j*s:Nat):Int):=(Int.natCast_mul j s).symm
        have m2:((j:Int)+1)*(s:Int)=(((j+1)*s:Nat):Int):=by rw [Int.natCast_mul];rfl
        have t1:((((j+1)*s:Nat):Int)-((j*s:Nat):Int)).toNat=s:=by omega
        have t2:(((j*s:Nat):Int)).toNat=j*s:=Int.toNat_natCast _
        have hLs:(lineT (rwQ q s j)).size≤65561:=by rw [ByteArray.size_append,ByteArray.size_append] at hKpj;omega
        have hDn:G++pvT V pa at_ pa.length++lineT (rwQ q s j)++nl=E2++prK V (szN V) pa s q (j+1):=by rw [hGn];simp only [ba_assoc]
        (repeat (first|(with_reducible first|refine W_seq fun K hK=>?_|refine J_exit ?_|refine J_drawn mixed (by kernel_rfl) ?_|(refine Kont.go (by assumption) ?_)|(simp (config:={ maxSteps:=3000000 }) (disch:=omega) only [go_sem,↓reduceIte,hxs,gz,m1,m2,hxc,t1,t2]))|refine And.intro (by omega) ?_))
        (first|refine call_f (hln) rfl ?_|refine callQ_f (hln) rfl ?_|refine callHK_f (hln) rfl ?_|refine callH_f (hln) rfl ?_)
        (repeat (first|(with_reducible first|refine J_region ?_ |(refine Kont.go (by assumption) ?_)|(simp (config:={ maxSteps:=3000000 }) (disch:=omega) only [go_sem,Nat.reduceLeDiff,ByteArray.size_append,y7]))|refine And.intro (by omega) ?_))
        refine ⟨j+1,by omega,by omega,weak_of ?_ ?_⟩<;>(try simp (disch:=omega) only [go_sem,hDn])<;>(try first|done|omega|rfl|exact ⟨rfl,rfl⟩|trivial)
      ·by_cases hjc:j<c
       ·have hgl:¬G.size≤20000:=by omega
        have hgl':¬(G.size:Int)≤20000:=by omega
        (repeat (first|(with_reducible first|refine W_seq fun K hK=>?_|refine J_exit ?_|refine J_region ?_ |refine J_c ?_|refine Jc_false ?_|(refine Kont.go (by assumption) ?_)|(simp (config:={ maxSteps:=3000000 }) (disch:=omega) only [go_sem,↓reduceIte,Nat.reduceLeDiff,hjc,hgl',y8]))|refine And.intro (by omega) ?_))
        refine ⟨(v+1,G++cbB),⟨by simp only;omega,.inr ⟨by simp only [ByteArray.size_append];omega,by omega⟩,by simp only [ByteArray.size_append];omega⟩,by simp only;omega,weak_of ?_ ?_⟩<;>(try simp (disch:=omega) only [go_sem])<;>(try first|done|omega|rfl|exact ⟨rfl,rfl⟩|trivial)
       ·have hjc2:c=j:=by omega
        subst hjc2
        have hGe:G++cbB=A++prT V P M (v+1):=by rw [hG];exact hEnd
        (repeat (first|(with_reducible first|refine W_seq fun K hK=>?_|refine J_exit ?_|refine J_region ?_ |refine J_c ?_|refine Jc_false ?_|(refine Kont.go (by assumption) ?_)|(simp (config:={ maxSteps:=3000000 }) (disch:=omega) only [go_sem,↓reduceIte,Nat.reduceLeDiff,y8]))|refine And.intro (by omega) ?_))
        refine ⟨(v+1,A++prT V P M (v+1)),⟨by simp only;omega,.inl rfl,by simp only [ByteArray.size_append];omega⟩,by simp only;omega,weak_of ?_ ?_⟩<;>(try simp (disch:=omega) only [go_sem,hGe])<;>(try first|done|omega|rfl|exact ⟨rfl,rfl⟩|trivial)
   ·have hfin:t=W∨(20000<t.size∧20000<W.size):=by
     by_cases hvl:v<V.length
     ·have htl:20000<t.size:=by omega
      refine .inr ⟨htl,?_⟩
      rcases ht with ht|ht
      ·have:=prT_mono (V:=V) (P:=P) (M:=M) (show v≤V.length by omega)
       rw [ht,ByteArray.size_append] at htl
       omega
      ·exact ht.2
     ·have e:v=V.length:=by omega
      subst e
      exact ht.imp (fun h=>by rw [h,hW,hAe]) id
    by_cases hvl:v<V.length
    ·have htl:¬t.size≤20000:=by omega
     have htl':¬(t.size:Int)≤20000:=by omega
     have htg:(20000:Int)<(t.size:Int):=by omega
     (repeat (with_reducible first|refine W_seq fun K hK=>?_|refine J_exit ?_|refine J_ret ?_|refine J_region ?_ |refine J_c ?_|refine Jc_true ?_|refine Jc_false ?_|(refine Kont.go (by assumption) ?_)|(simp (config:={ maxSteps:=3000000 }) (disch:=omega) only [go_sem,↓reduceIte,hlV,hvl,htl',htg])))
     have hbig:20000<W.size:=hfin.elim (fun h=>by rw [←h];omega) fun h=>h.2
     rw [←hW,if_pos hbig,if_pos hbig]
     exact ⟨_,rfl,FrzL.fs [_,_]⟩
    ·by_cases htl:20000<t.size
     ·have htg:(20000:Int)<(t.size:Int):=by omega
      (repeat (with_reducible first|refine W_seq fun K hK=>?_|refine J_exit ?_|refine J_ret ?_|refine J_region ?_ |refine J_c ?_|refine Jc_true ?_|refine Jc_false ?_|(refine Kont.go (by assumption) ?_)|(simp (config:={ maxSteps:=3000000 }) (disch:=omega) only [go_sem,↓reduceIte,hlV,hvl,htg])))
      have hbig:20000<W.size:=hfin.elim (fun h=>by rw [←h];omega) fun h=>h.2
      rw [←hW,if_pos hbig,if_pos hbig]
      exact ⟨_,rfl,FrzL.fs [_,_]⟩
     ·have htg:¬(20000:Int)<(t.size:Int):=by omega
      have htW:t=W:=hfin.resolve_right fun h=>htl h.1
      (repeat (with_reducible first|refine W_seq fun K hK=>?_|refine J_skip ?_|refine J_exit ?_|refine J_ret ?_|refine J_region ?_ |refine J_c ?_|refine Jc_false ?_|(refine Kont.go (by assumption) ?_)|(simp (config:={ maxSteps:=3000000 }) (disch:=omega) only [go_sem,↓reduceIte,hlV,hvl,htg])))
      rw [htW] at htl
      rw [←hW,if_neg htl,if_neg htl,htW]
      exact ⟨_,rfl,FrzL.fs [_,_]⟩
end
end Go.Proofs.YthehegidpamldaaGreatDoor
set_option linter.unusedVariables false
set_option linter.unusedSimpArgs false
namespace Go.Proofs.YthehegidpamldaaGreatDoor
open Go Go.RowKit
section
variable {X : Cx} {P : Program} {Q : Exit → AS → Prop} {K : AS → Prop}
theorem W_loopE {c r:Code} {id:Nat} {Q':Exit→AS→Prop} {γ δ:Type} {t:List AV} {H:AH} (hK:Kont K (fun s=>J X P r Q' s)) (ws:List Nat) (up:γ→List (Nat × AV)) (hp:γ→AH) (I:γ→Prop) (μ:γ→Nat) (x0:γ) (up2:δ→List (Nat × AV)) (hp2:δ→AH) (I2:δ→Prop) (h0:I x0) (hw:Weak ⟨t,H⟩ ⟨sets (up x0) (msk ws t),hp x0⟩)
  (round:∀x,I x→J X P c (athen (fun s=>∃y,I y∧μ y<μ x∧Weak s ⟨sets (up y) (msk ws t),hp y⟩) (ablock id (athen (fun s=>∃z,I2 z∧Weak s ⟨sets (up2 z) (msk ws t),hp2 z⟩) Q))) ⟨sets (up x) (msk ws t),hp x⟩)
  (rest:∀z,I2 z→J X P r Q' ⟨sets (up2 z) (msk ws t),hp2 z⟩):J X P (.loop c) (ablock id (athen K Q)) ⟨t,H⟩:=by
 refine W_loop ws up hp I μ x0 h0 hw fun x hx=>J_mono (round x hx) fun e s hq=>?_
 have hgo:∀s,(∃z,I2 z∧Weak s ⟨sets (up2 z) (msk ws t),hp2 z⟩)→K s:=fun s ⟨z,hz,hw⟩=>hK s (J_weak hw (rest z hz))
 cases e with
 | normal=>exact hq
 | ret=>exact hq
 | exit j =>
  show ablock id (athen K Q) (.exit j) s
  replace hq:ablock id (athen _ Q) (.exit j) s:=hq
  rw [ablock_exit] at hq ⊢
  split
  ·rename_i h;rw [if_pos h] at hq;exact hgo s hq
  ·rename_i h;rw [if_neg h] at hq;exact hq
 | goto j=>exact hq
 | panic c=>exact hq
 | outgrown=>exact hq
end
end Go.Proofs.YthehegidpamldaaGreatDoor
