/- net.Print: walked. Conditions: what slices may hold; numbers of at most 2048 bytes. -/
import Derived.Test.YthehegidpamldaaGreatDoorZB21
import Derived.Test.YthehegidpamldaaGreatDoorZB22
import Derived.Test.YthehegidpamldaaGreatDoorZB23
-- NOOWN
set_option linter.unusedVariables false
set_option linter.unusedSimpArgs false
namespace Go.Proofs.YthehegidpamldaaGreatDoor
open Go Go.RowKit
def bdZ (j x n:Nat):Option AO:=if x=0 then some ⟨68,2,[.f (.agg [.v (.pointer none),.v (.slice none 0 0)])]⟩ else bdO 1 j n
def btZ (x:Nat) (s:ByteArray):Option AO:=if x=0 then none else btO s
theorem bdZ_zero {j n:Nat}:bdZ j 0 n=some ⟨68,2,[.f (.agg [.v (.pointer none),.v (.slice none 0 0)])]⟩:=rfl
theorem bdZ_succ {j x n:Nat}:bdZ j (x+1) n=bdO 1 j n:=rfl
theorem bdZ_pos {j x n:Nat} (h:x≠0):bdZ j x n=bdO 1 j n:=if_neg h
theorem btZ_pos {x:Nat} {s:ByteArray} (h:x≠0):btZ x s=btO s:=if_neg h
theorem btZ_zero {s:ByteArray}:btZ 0 s=none:=rfl
theorem btZ_succ {x:Nat} {s:ByteArray}:btZ (x+1) s=btO s:=rfl
section
variable {k : Nat} {V : List VarD} {P : List (List Int)} {RR : List FV} {M : List (List Rat)}
set_option maxRecDepth 100000 in
theorem printE_w (h:NetOk k V P RR M) (he:netE (ordE P) V P M≠0):Good Tryz.prog 7 [netV V (P.map ints) RR] (.tup [St ⟨#[]⟩,I (netE (ordE P) V P M)]):=by
 have hc:=netCheck_w h
 refine good_of Tryz.func7 rfl (by kernel_rfl) fun X hO hrd=>?_;rw [Tryz.ntmps7,Tryz.results7];simp only [ast0,List.map_cons,List.map_nil,List.length_cons,List.length_nil,Nat.reduceAdd,Nat.reduceSub,List.replicate_succ,List.replicate_zero,List.cons_append,List.nil_append]
 (repeat (with_reducible first|refine W_seq fun K hK=>?_|refine J_region ?_ |(refine Kont.go (by assumption) ?_)|(simp (config:={ maxSteps:=3000000 }) (disch:=omega) only [go_sem,↓reduceIte,Nat.reduceAdd])))
 (first|refine call_f (hc) rfl ?_|refine callQ_f (hc) rfl ?_|refine callHK_f (hc) rfl ?_|refine callH_f (hc) rfl ?_)
 (repeat (with_reducible first|refine W_seq fun K hK=>?_|refine J_ret ?_|refine J_region ?_ |refine J_c ?_|refine Jc_true ?_|(refine Kont.go (by assumption) ?_)|(simp (config:={ maxSteps:=3000000 }) (disch:=omega) only [go_sem,he])))
 exact ⟨_,rfl,FrzL.fs [_,_]⟩
set_option maxRecDepth 100000 in
set_option maxHeartbeats 16000000 in
theorem print_w (h:NetOk k V P RR M) (hB:PrB k V P M) (he:netE (ordE P) V P M=0):Good Tryz.prog 7 [netV V (P.map ints) RR] (.tup [if 20000<(prA V P M).size then St ⟨#[]⟩ else St (prA V P M),I (if 20000<(prA V P M).size then 2 else 0)]):=by
 have hc:=netCheck_w h
 rw [he] at hc
 have hV:=h.lV
 have hsz:=sizes_w V (P.map ints) RR hV
 have hR:=net_okR he
 have hZl:(szN V).length=V.length:=szN_len
 have hz8:=hR.z8
 have hz1:=hR.z1
 have hg:∀v,v<V.length→VarG V P M v:=fun v hv=>netG he hv
 have h4:∀x∈V,1≤x.2.length∧x.2.length≤4:=fun x hx=>by
  obtain ⟨i,hi,rfl⟩:=List.getElem_of_mem hx
  have h1:=hR.szp (v:=i) (by omega)
  have h2:=hR.sz4 (v:=i) (by omega)
  rw [szT_get hi] at h1 h2
  exact ⟨h1,h2⟩
 have hVs:=fun x hx=>prV_size hB (fun x hx=>(h4 x hx).2) (x:=x) hx
 have hTs:=fun x hx=>prT_size hB hg (x:=x) hx
 have hlV:(V.map varF).length=V.length:=List.length_map ..
 refine good_of Tryz.func7 rfl (by kernel_rfl) fun X hO hrd=>?_;rw [Tryz.ntmps7,Tryz.results7];simp only [ast0,List.map_cons,List.map_nil,List.length_cons,List.length_nil,Nat.reduceAdd,Nat.reduceSub,List.replicate_succ,List.replicate_zero,List.cons_append,List.nil_append]
 (repeat (with_reducible first|refine W_seq fun K hK=>?_|refine J_region ?_ |(refine Kont.go (by assumption) ?_)|(simp (config:={ maxSteps:=3000000 }) (disch:=omega) only [go_sem,↓reduceIte,Nat.reduceAdd])))
 (first|refine call_f (hc) rfl ?_|refine callQ_f (hc) rfl ?_|refine callHK_f (hc) rfl ?_|refine callH_f (hc) rfl ?_)
 have hpo:(FV.v (Value.pointer none)).oc=true:=rfl
 (repeat (with_reducible first|refine W_seq fun K hK=>?_|refine J_block ?_|refine J_skip ?_|refine J_region ?_ |refine J_c ?_|refine Jc_false ?_|(refine Kont.go (by assumption) ?_)|(simp (config:={ maxSteps:=3000000 }) (disch:=omega) only [go_sem,↓reduceIte,Nat.reduceAdd,hlV,hpo])))
 refine J_reserve ?_
 simp only [go_sem]
 have hfo:objLt 3 ⟨68,2,[.f (.agg [.v (.pointer none),.v (.slice none 0 0)])]⟩:=fun e he=>by rw [List.mem_singleton.1 he];rfl
 have htoc:∀l,(txF l).oc=true:=fun _=>rfl
 refine W_loop [7,26,27,28,29,30,31,32,33,34,35,36,37,38,39,40] (fun x:Nat=>[(26,.f (I x))]) (fun x:Nat=>[oNt (V.map varF) (P.map ints) RR,bdZ 2 x (prV V x).size,btZ x (prV V x)]) (fun x:Nat=>x≤V.length) (fun x:Nat=>V.length-x) (0) (Nat.zero_le _) (by refine weak_of ?_ ?_<;>simp (disch:=omega) only [go_sem,Nat.reduceAdd]<;>first|rfl|exact ⟨rfl,rfl⟩|exact Or.inl rfl|exact ⟨Or.inl rfl,Or.inl rfl⟩|trivial|assumption|omega|(symm;assumption)|((repeat' apply And.intro)<;>first|rfl|omega|trivial|exact .inl rfl|exact .inr ⟨rfl,rfl⟩|exact .inr rfl|(right;symm;assumption)|(symm;assumption)|assumption)) ?_
 ·rintro x hx
  simp only [go_sem]
  (repeat (with_reducible first|refine W_seq fun K hK=>?_|refine J_region ?_ |refine J_c ?_|(refine Kont.go (by assumption) ?_)|(simp (config:={ maxSteps:=3000000 }) (disch:=omega) only [go_sem])))
  refine Jc_if (fun hxl=>?_) (fun hxl=>?_)<;>try simp only [decide_eq_true_eq,decide_eq_false_iff_not] at hxl
  ·have gx:=map_get varF V hxl
   have hvf:varF V[x]=.agg [St V[x].1,txF V[x].2]:=rfl
   rw [hvf] at gx
   have hmem:=List.getElem_mem hxl
   have hjs:=joinT_size (hB.vl _ hmem)
   have h4x:=h4 _ hmem
   have hj4:=Nat.mul_le_mul_right 2049 h4x.2
   have hnm:=hB.nm _ hmem
   have hjn:=join_w V[x].2 sp (by omega) (by omega)
   have hnx:prV V x++(vrB++V[x].1++obB++joinT sp V[x].2++ocB)=prV V (x+1):=by show _=prV V x++varT (V.getD x _);rw [lget_lt V _ hxl];rfl
   have hvs:=hVs x hx
   have hvs1:=varT_size hB hmem h4x.2
   unfold varT at hvs1
   have z1:vrB.size=4:=rfl
   have z2:obB.size=3:=rfl
   have z3:ocB.size=3:=rfl
   have z4:sp.size=1:=rfl
   by_cases hx0:x=0
   ·subst hx0
    rw [bdZ_zero,btZ_zero]
    (repeat (with_reducible first|refine W_seq fun K hK=>?_|refine J_block ?_|refine J_skip ?_|((fail_if_success refine J_region (id:=8) ?_);refine J_region ?_) |(refine Kont.go (by assumption) ?_)|(simp (config:={ maxSteps:=3000000 }) (disch:=omega) only [go_sem,↓reduceIte,Nat.reduceAdd,Int.reduceLE,gx,htoc])))
    refine J_eqL (ops':=rL8) (by kernel_rfl) ?_
    refine J_rL8 ?_
    (repeat (first|(with_reducible first|(simp (config:={ maxSteps:=3000000 }) (disch:=omega) only [go_sem,↓reduceIte,Nat.reduceLeDiff,ByteArray.size_append,z1,z2]))|refine And.intro (by omega) ?_))
    (first|refine call_f (hjn) rfl ?_|refine callQ_f (hjn) rfl ?_|refine callHK_f (hjn) rfl ?_|refine callH_f (hjn) rfl ?_)
    (repeat (first|(with_reducible first|(simp (config:={ maxSteps:=3000000 }) (disch:=omega) only [go_sem,Nat.reduceLeDiff,ByteArray.size_append,z1,z2,z3]))|refine And.intro (by omega) ?_))
    have hnx0:vrB++V[0].1++obB++joinT sp V[0].2++ocB=prV V (0+1):=by rw [←hnx];apply ByteArray.ext;simp [prV]
    rw [hnx0] at hvs1
    have hsz0:0<(prV V (0+1)).size:=by rw [←hnx0,ByteArray.size_append];omega
    rw [hnx0]
    refine call_u (ws_n rfl hsz0 (by omega)) ?_
    (repeat (with_reducible first|refine J_region ?_ |(refine Kont.go (by assumption) ?_)|(simp (config:={ maxSteps:=3000000 }) (disch:=omega) only [go_sem,Nat.reduceAdd,Int.reduceAdd])))
    refine ⟨0+1,by omega,by omega,weak_ren [0,1,4] ⟨by decide,by first|decide|(simp;done)⟩ ?_ ?_⟩<;>(try simp (disch:=omega) only [go_sem,Nat.reduceAdd,bdZ_succ,btZ_succ,map_ren_f])<;>(try first|done|omega|rfl|exact ⟨rfl,rfl⟩|trivial)
   ·obtain ⟨x',rfl⟩:∃x',x=x'+1:=⟨x-1,by omega⟩
    rw [bdZ_succ,btZ_succ]
    (repeat (with_reducible first|refine W_seq fun K hK=>?_|refine J_block ?_|refine J_skip ?_|((fail_if_success refine J_region (id:=8) ?_);refine J_region ?_) |(refine Kont.go (by assumption) ?_)|(simp (config:={ maxSteps:=3000000 }) (disch:=omega) only [go_sem,↓reduceIte,Nat.reduceAdd,gx,htoc])))
    refine J_eqL (ops':=rL8) (by kernel_rfl) ?_
    refine J_rL8 ?_
    (repeat (first|(with_reducible first|(simp (config:={ maxSteps:=3000000 }) (disch:=omega) only [go_sem,↓reduceIte,Nat.reduceLeDiff,ByteArray.size_append,z1,z2]))|refine And.intro (by omega) ?_))
    (first|refine call_f (hjn) rfl ?_|refine callQ_f (hjn) rfl ?_|refine callHK_f (hjn) rfl ?_|refine callH_f (hjn) rfl ?_)
    (repeat (first|(with_reducible first|(simp (config:={ maxSteps:=3000000 }) (disch:=omega) only [go_sem,Nat.reduceLeDiff,ByteArray.size_append,z1,z2,z3]))|refine And.intro (by omega) ?_))
    obtain ⟨T,hT⟩:∃T,T=vrB++V[x'+1].1++obB++joinT sp V[x'+1].2++ocB:=⟨_,rfl⟩
    rw [←hT] at hnx hvs1 ⊢
    have hsz1:(prV V (x'+1)).size+T.size≤140737488355328:=by omega
    have hsz2:(prV V (x'+1)).size+T.size=(prV V (x'+1+1)).size:=by rw [←ByteArray.size_append,hnx]
    refine call_u (ws_u (s0:=prV V (x'+1)) rfl rfl hsz1) ?_
    (repeat (with_reducible first|refine J_region ?_ |(refine Kont.go (by assumption) ?_)|(simp (config:={ maxSteps:=3000000 }) (disch:=omega) only [go_sem,Nat.reduceAdd])))
    refine ⟨x'+1+1,by omega,by omega,weak_ren [0,1,4] ⟨by decide,by first|decide|(simp;done)⟩ ?_ ?_⟩<;>(try simp (disch:=omega) only [go_sem,Nat.reduceAdd,hsz2,hnx,bdZ_succ,btZ_succ,map_ren_f])<;>(try first|done|omega|rfl|exact ⟨rfl,rfl⟩|trivial)
  ·have hex:x=V.length:=by omega
   rw [hex,bdZ_pos (by omega),btZ_pos (by omega)]
   have hA:=hVs V.length (Nat.le_refl _)
   have hAe:prA V P M=prV V V.length++prT V P M V.length:=rfl
   obtain ⟨A,hAA⟩:∃A,A=prV V V.length:=⟨_,rfl⟩
   have hA0:0<A.size:=by
    rw [hAA]
    obtain ⟨n',hn'⟩:∃n',V.length=n'+1:=⟨V.length-1,by omega⟩
    rw [hn']
    show 0<(prV V n'++(vrB++_++obB++_++ocB)).size
    simp only [ByteArray.size_append]
    have:vrB.size=4:=rfl
    omega
   rw [←hAA] at hA hAe ⊢
   have hZZ:(Ns (szN V)).length=V.length:=by rw [Ns_len,hZl]
   have hNt1:A=A++prT V P M 0:=by apply ByteArray.ext;simp [prT]
   have hNtb:bdO 1 2 A.size=bdO 1 2 (A++prT V P M 0).size:=by rw [←hNt1]
   have hNtc:btO A=btO (A++prT V P M 0):=by rw [←hNt1]
   (repeat (with_reducible first|refine W_seq fun K hK=>?_|refine J_exit ?_|refine J_region ?_ |(refine Kont.go (by assumption) ?_)|(simp (config:={ maxSteps:=3000000 }) (disch:=omega) only [go_sem,↓reduceIte,Nat.reduceAdd])))
   (first|refine call_f (hsz) rfl ?_|refine callQ_f (hsz) rfl ?_|refine callHK_f (hsz) rfl ?_|refine callH_f (hsz) rfl ?_)
   (repeat (with_reducible first|refine W_seq fun K hK=>?_|refine J_block ?_|refine J_region ?_ |(refine Kont.go (by assumption) ?_)|(simp (config:={ maxSteps:=3000000 }) (disch:=omega) only [go_sem,↓reduceIte,hlV])))
   rw [hNtb,hNtc]
   refine W_loop [9,10,12,13,14,15,16,17,46,47,48,49,50,51,52,53,54,55,56,57,58,59,60,61,62,63,64,65,66,67,68,69,70,71,72,73,74,75,76,77,78,79,80,81,82,83,84,85,86,87,88,89,90,91,92,93,94,95,96,97,98,99,100,101,102,103,104,105,106,107,108,109,110,111,112,113,114,115,116,117,118,119,120,121,122,123,124,125,126,127,128,129,130,131,132,133,134,135,136,137,138,139,140,141,142,143,144,145,146,147,148,149,150,151,152,153,154,155,156,157,158,159,160,161,162,163,164,165] (fun v:Nat=>[(46,.f (I v))]) (fun v:Nat=>[oNt (V.map varF) (P.map ints) RR,bdO 1 2 (A++prT V P M v).size,btO (A++prT V P M v)]) (fun v:Nat=>v≤V.length) (fun v:Nat=>V.length-v) (0) (Nat.zero_le _) (by refine weak_of ?_ ?_<;>simp (disch:=omega) only [go_sem,Nat.reduceAdd]<;>first|rfl|exact ⟨rfl,rfl⟩|exact Or.inl rfl|exact ⟨Or.inl rfl,Or.inl rfl⟩|trivial|assumption|omega|(symm;assumption)|((repeat' apply And.intro)<;>first|rfl|omega|trivial|exact .inl rfl|exact .inr ⟨rfl,rfl⟩|exact .inr rfl|(right;symm;assumption)|(symm;assumption)|assumption)) ?_
   rintro v hv
   simp only [go_sem]
   (repeat (with_reducible first|refine W_seq fun K hK=>?_|refine J_region ?_ |refine J_c ?_|(refine Kont.go (by assumption) ?_)|(simp (config:={ maxSteps:=3000000 }) (disch:=omega) only [go_sem])))
   refine Jc_if (fun hvl=>?_) (fun hvl=>?_)<;>try simp only [decide_eq_true_eq,decide_eq_false_iff_not] at hvl
   ·have gx:=map_get varF V hvl
    have hvf:varF V[v]=.agg [St V[v].1,txF V[v].2]:=rfl
    rw [hvf] at gx
    have hgv:=hg v hvl
    have hmr:=hgv.mrow hB
    obtain ⟨xs,hxs,hfs⟩:=h.hM.at hgv.ml
    have hgp:=hgv.get
    have hpl:(Ns (paN P v)).length=(paN P v).length:=Ns_len
    have hnm:vnm V v=V[v].1:=by unfold vnm;rw [lget_lt V _ hvl]
    have hml:=hgv.ml
    have hM0:M.getD v []=M[v]:=lget_lt M [] hgv.ml
    have hTv:=hTs v hv
    have hns:=hB.nm _ (List.getElem_mem hvl)
    have hnF:prT V P M (v+1)=prT V P M v++prF V (szN V) (paN P v) v (szT (szN V) v) (cntS (szT (szN V)) (paN P v)) (M.getD v []):=rfl
    have hpl8:=hgv.ok.len
    obtain ⟨B,hBe⟩:∃B,B=A++prT V P M v:=⟨_,rfl⟩
    have hBs:B.size≤40000000000:=by rw [hBe,ByteArray.size_append];omega
    have hBn:A++prT V P M (v+1)=B++prF V (szN V) (paN P v) v (szT (szN V) v) (cntS (szT (szN V)) (paN P v)) (M.getD v []):=by rw [hnF,hBe,ba_assoc]
    have hBz:A.size+(prT V P M v).size=B.size:=by rw [hBe,ByteArray.size_append]
    rw [←hBe,hBz]
    have hw1:B.size+V[v].1.size≤140737488355328:=by omega
    (repeat (with_reducible first|refine W_seq fun K hK=>?_|refine J_block ?_|refine J_skip ?_|refine J_region ?_ |(refine Kont.go (by assumption) ?_)|(simp (config:={ maxSteps:=3000000 }) (disch:=omega) only [go_sem,↓reduceIte,Nat.reduceAdd,gx,htoc])))
    refine call_u (ws_u (s0:=B) rfl rfl hw1) ?_
    obtain ⟨C,hC⟩:∃C,C=B++V[v].1:=⟨_,rfl⟩
    have hCs:B.size+V[v].1.size=C.size:=by rw [hC,ByteArray.size_append]
    rw [←hC,hCs]
    by_cases hpa:paN P v=[]
    ·have hp0:(paN P v).length=0:=by rw [hpa];rfl
     have hll:=hgv.len
     rw [hpa] at hll
     have hll2:M[v].length≤4:=by
      have h1:=hgv.s4 hvl
      rw [hM0,show cntS (szT (szN V)) []=1 from rfl,Nat.one_mul] at hll
      omega
     have hln:=line_w hfs hB.k1 (by omega) (by have:=hB.kk;omega)
     have hFe:prF V (szN V) (paN P v) v (szT (szN V) v) (cntS (szT (szN V)) (paN P v)) (M.getD v [])=V[v].1++(lineT M[v]++nl):=by unfold prF;rw [if_pos hpa,hnm,hM0]
     rw [hFe,←ba_assoc,←hC] at hBn
     have hls:=prL_size (s:=szT (szN V) v) (hfs.row hB.k1) hB.k1 hB.kk hll2
     have z1:nl.size=1:=rfl
     (repeat (with_reducible first|refine W_seq fun K hK=>?_|refine J_region ?_ |refine J_c ?_|refine Jc_true ?_|(refine Kont.go (by assumption) ?_)|(simp (config:={ maxSteps:=3000000 }) (disch:=omega) only [go_sem,↓reduceIte,Nat.reduceAdd,hgp,hpl,hp0])))
     (repeat (with_reducible first|(simp (config:={ maxSteps:=3000000 }) (disch:=omega) only [go_sem,hxs])))
     (first|refine call_f (hln) rfl ?_|refine callQ_f (hln) rfl ?_|refine callHK_f (hln) rfl ?_|refine callH_f (hln) rfl ?_)
     (repeat (first|(with_reducible first|(simp (config:={ maxSteps:=3000000 }) (disch:=omega) only [go_sem,Nat.reduceLeDiff,z1]))|refine And.intro (by omega) ?_))
     obtain ⟨L,hL⟩:∃L,L=lineT M[v]++nl:=⟨_,rfl⟩
     have hLs:L.size≤49169:=by rw [hL,ByteArray.size_append];omega
     rw [←hL] at hBn ⊢
     have hw2:C.size+L.size≤140737488355328:=by omega
     have hCz:C.size+L.size=A.size+(prT V P M (v+1)).size:=by rw [←ByteArray.size_append,←ByteArray.size_append,hBn]
     refine call_u (ws_u (s0:=C) rfl rfl hw2) ?_
     rw [←hBn,hCz]
     (repeat (with_reducible first|refine J_exit ?_|refine J_region ?_ |(refine Kont.go (by assumption) ?_)|(simp (config:={ maxSteps:=3000000 }) (disch:=omega) only [go_sem,↓reduceIte,Nat.reduceAdd])))
     refine ⟨v+1,by omega,by omega,weak_ren [0,1,5] ⟨by decide,by first|decide|(simp;done)⟩ ?_ ?_⟩<;>(try simp (disch:=omega) only [go_sem,Nat.reduceAdd,map_ren_f])<;>(try first|done|omega|rfl|exact ⟨rfl,rfl⟩|trivial)
    ·have hp0:¬(paN P v).length=0:=fun h=>hpa (List.length_eq_zero_iff.1 h)
     have hp0i:¬(((paN P v).length:Int)=0):=by omega
     have hvZ:v<(szN V).length:=by rw [hZl];exact hvl
     have hs1:=hgv.ok.szp hvZ
     have hs4:=hgv.s4 hvl
     have hcb:=hgv.ok.cnt
     have hll:=hgv.len
     have hplt:=hgv.ok.lt
     rw [hM0] at hll hBn
     have hqr:Row k M[v]:=hfs.row hB.k1
     have gz:=Ns_get (l:=szN V) hvZ
     have hszg:(szN V).getD v 0=szT (szN V) v:=rfl
     rw [hszg] at gz
     have hwh:=fun j hj=>whereT_w (k:=j) hgv.ok hj
     have hat:=fun j hj i (hi:i<(paN P v).length)=>asgS_lt (S:=szT (szN V)) (l:=paN P v) (k:=j) hgv.ok.nd hgv.ok.pos hj (List.getElem_mem hi)
     have hKs:=fun i=>prK_size (Z:=szN V) (pa:=paN P v) (s:=szT (szN V) v) (i:=i) hB hqr hpl8 hs4
     have hKp:=fun at_ j=>prK_step (at_:=at_) (j:=j) (Z:=szN V) (pa:=paN P v) (s:=szT (szN V) v) hB hqr hpl8 hs4
     unfold prF at hBn
     rw [if_neg hpa,hnm] at hBn
     obtain ⟨pa,hpae⟩:∃pa,pa=paN P v:=⟨_,rfl⟩
     rw [←hpae] at hp0 hp0i hgp hpl hplt hpl8 hcb hll hwh hat hKs hKp hBn
     obtain ⟨s,hse⟩:∃s,s=szT (szN V) v:=⟨_,rfl⟩
     rw [←hse] at hs1 hs4 hll gz hKs hKp hBn
     obtain ⟨c,hce⟩:∃c,c=cntS (szT (szN V)) pa:=⟨_,rfl⟩
     rw [←hce] at hcb hll hwh hat hBn
     obtain ⟨q,hqe⟩:∃q,q=M[v]:=⟨_,rfl⟩
     rw [←hqe] at hfs hqr hll hKs hKp hBn
     have z2:brB.size=2:=rfl
     have z3:onB.size=3:=rfl
     have z4:cbB.size=2:=rfl
     have z5:nl.size=1:=rfl
     have z6:sp.size=1:=rfl
     (repeat (with_reducible first|refine W_seq fun K hK=>?_|refine J_skip ?_|refine J_region ?_ |refine J_c ?_|refine Jc_false ?_|(refine Kont.go (by assumption) ?_)|(simp (config:={ maxSteps:=3000000 }) (disch:=omega) only [go_sem,↓reduceIte,Nat.reduceAdd,hgp,hpl,hp0i])))
     refine call_u (ws_u (s0:=C) (s:=brB) rfl rfl (by omega)) ?_
     obtain ⟨C2,hC2⟩:∃C2,C2=C++brB:=⟨_,rfl⟩
     have hC2s:C.size+brB.size=C2.size:=by rw [hC2,ByteArray.size_append]
     have hC2n:C2=C2++pnT V pa 0:=by apply ByteArray.ext;simp [pnT]
     rw [←hC2,hC2s]
     (repeat (with_reducible first|refine W_seq fun K hK=>?_|refine J_block ?_|refine J_region ?_ |(refine Kont.go (by assumption) ?_)|(simp (config:={ maxSteps:=3000000 }) (disch:=omega) only [go_sem,↓reduceIte,Nat.reduceAdd,hgp,hpl])))
     refine J_mask [53,69] (by refine weak_of ?_ ?_<;>simp (disch:=omega) only [go_sem,Nat.reduceAdd]<;>first|rfl|exact ⟨rfl,rfl⟩|exact Or.inl rfl|exact ⟨Or.inl rfl,Or.inl rfl⟩|trivial|assumption|omega|(symm;assumption)|((repeat' apply And.intro)<;>first|rfl|omega|trivial|exact .inr ⟨rfl,rfl⟩|exact .inr rfl|(right;symm;assumption)|(symm;assumption)|assumption)) ?_;simp only [go_sem]
     rw [show bdO 1 5 C2.size=bdO 1 5 (C2++pnT V pa 0).size by rw [←hC2n],show btO C2=btO (C2++pnT V pa 0) by rw [←hC2n]]
     refine W_loop [12,76,77,78,79,80,81,82,83,84,85,86,87,88] (fun i:Nat=>[(76,.f (I i))]) (fun i:Nat=>[oNt (V.map varF) (P.map ints) RR,bdO 1 5 (C2++pnT V pa i).size,none,none,none,btO (C2++pnT V pa i)]) (fun i:Nat=>i≤pa.length) (fun i:Nat=>pa.length-i) (0) (Nat.zero_le _) (by refine weak_of ?_ ?_<;>simp (disch:=omega) only [go_sem,Nat.reduceAdd]<;>first|rfl|exact ⟨rfl,rfl⟩|exact Or.inl rfl|exact ⟨Or.inl rfl,Or.inl rfl⟩|trivial|assumption|omega|(symm;assumption)|((repeat' apply And.intro)<;>first|rfl|omega|trivial|exact .inl rfl|exact .inr ⟨rfl,rfl⟩|exact .inr rfl|(right;symm;assumption)|(symm;assumption)|assumption)) ?_
     rintro i hi
     simp only [go_sem]
     (repeat (with_reducible first|refine W_seq fun K hK=>?_|refine J_region ?_ |refine J_c ?_|(refine Kont.go (by assumption) ?_)|(simp (config:={ maxSteps:=3000000 }) (disch:=omega) only [go_sem])))
     refine Jc_if (fun hil=>?_) (fun hil=>?_)<;>try simp only [decide_eq_true_eq,decide_eq_false_iff_not] at hil
     ·have gi:=Ns_get (l:=pa) hil
      have hpv:pa.getD i 0<V.length:=by
       rw [lget_lt pa 0 hil]
       have:=hplt _ (List.getElem_mem hil);rwa [hZl] at this
      obtain ⟨p,hpe⟩:∃p,p=pa.getD i 0:=⟨_,rfl⟩
      rw [←hpe] at gi hpv
      have gp:=map_get varF V hpv
      have hvp:varF V[p]=.agg [St V[p].1,txF V[p].2]:=rfl
      rw [hvp] at gp
      have hnp:vnm V p=V[p].1:=by unfold vnm;rw [lget_lt V _ hpv]
      have hps:=pnT_size hB.nm (pa:=pa) (i:=i)
      have hpm:=Nat.mul_le_mul_right 2049 (Nat.le_trans hi hpl8)
      have hnps:=hB.nm _ (List.getElem_mem hpv)
      obtain ⟨D,hD⟩:∃D,D=C2++pnT V pa i:=⟨_,rfl⟩
      have hDz:C2.size+(pnT V pa i).size=D.size:=by rw [hD,ByteArray.size_append]
      have hDn:D++(sp++V[p].1)=C2++pnT V pa (i+1):=by show _=C2++(pnT V pa i++(sp++vnm V (pa.getD i 0)));rw [←hpe,hnp,hD,ba_assoc]
      rw [←hD,hDz]
      (repeat (first|(with_reducible first|refine W_seq fun K hK=>?_|refine J_block ?_|refine J_skip ?_|refine J_region ?_ |(refine Kont.go (by assumption) ?_)|(simp (config:={ maxSteps:=3000000 }) (disch:=omega) only [go_sem,↓reduceIte,gi,gp,z6]))|refine And.intro (by omega) ?_))
      obtain ⟨L,hL⟩:∃L,L=sp++V[p].1:=⟨_,rfl⟩
      have hLs:L.size≤2049:=by rw [hL,ByteArray.size_append];omega
      rw [←hL] at hDn ⊢
      have hDs:D.size+L.size=C2.size+(pnT V pa (i+1)).size:=by rw [←ByteArray.size_append,hDn,ByteArray.size_append]
      refine call_u (ws_u (s0:=D) rfl rfl (by omega)) ?_
      rw [hDn,hDs]
      (repeat (with_reducible first|refine J_region ?_ |(refine Kont.go (by assumption) ?_)|(simp (config:={ maxSteps:=3000000 }) (disch:=omega) only [go_sem,Nat.reduceAdd])))
      refine ⟨i+1,by omega,by omega,weak_ren [0,1,2,3,4,6] ⟨by decide,by first|decide|(simp;done)⟩ ?_ ?_⟩<;>(try simp (disch:=omega) only [go_sem,Nat.reduceAdd,map_ren_f])<;>(try first|done|omega|rfl|exact ⟨rfl,rfl⟩|trivial)
     ·have hil2:pa.length=i:=by omega
      subst hil2
      have hps:=pnT_size hB.nm (pa:=pa) (i:=pa.length)
      have hpm:=Nat.mul_le_mul_right 2049 hpl8
      obtain ⟨E,hE⟩:∃E,E=C2++pnT V pa pa.length:=⟨_,rfl⟩
      have hEz:C2.size+(pnT V pa pa.length).size=E.size:=by rw [hE,ByteArray.size_append]
      rw [←hE,hEz]
      (repeat (with_reducible first|refine W_seq fun K hK=>?_|refine J_exit ?_|refine J_region ?_ |(refine Kont.go (by assumption) ?_)|(simp (config:={ maxSteps:=3000000 }) (disch:=omega) only [go_sem,↓reduceIte])))
      refine call_u (ws_u (s0:=E) (s:=onB) rfl rfl (by omega)) ?_
      obtain ⟨E2,hE2⟩:∃E2,E2=E++onB:=⟨_,rfl⟩
      have hE2s:E.size+onB.size=E2.size:=by rw [hE2,ByteArray.size_append]
      have hE2b:E2.size≤40000100000:=by omega
      have hE2n:E2=E2++prK V (szN V) pa s q 0:=by apply ByteArray.ext;simp [prK]
      rw [←hE2,hE2s]
      have hxl:=hfs.len
      have hxc:xs.length=c*s:=by rw [hxl,hll]
      have hquo:((xs.length:Nat):Int).tdiv (s:Int)=(c:Int):=by
       rw [hxc,Int.natCast_mul,Int.mul_tdiv_cancel]
       omega
      have hsn:¬s=0:=by omega
      have hsn2:¬((s:Int)=0):=by omega
      (repeat (with_reducible first|refine W_seq fun K hK=>?_|refine J_block ?_|refine J_drawn mixed (by kernel_rfl) ?_|(refine Kont.go (by assumption) ?_)|(simp (config:={ maxSteps:=3000000 }) (disch:=omega) only [go_sem,↓reduceIte,Nat.reduceAdd,hxs,gz,hquo,hsn2])))
      refine J_mask [89] (by refine weak_of ?_ ?_<;>simp (disch:=omega) only [go_sem,Nat.reduceAdd]<;>first|rfl|exact ⟨rfl,rfl⟩|exact Or.inl rfl|exact ⟨Or.inl rfl,Or.inl rfl⟩|trivial|assumption|omega|(symm;assumption)|((repeat' apply And.intro)<;>first|rfl|omega|trivial|exact .inr ⟨rfl,rfl⟩|exact .inr rfl|(right;symm;assumption)|(symm;assumption)|assumption)) ?_;simp only [go_sem]
      rw [show bdO 1 6 E2.size=bdO 1 6 (E2++prK V (szN V) pa s q 0).size by rw [←hE2n],show btO E2=btO (E2++prK V (szN V) pa s q 0) by rw [←hE2n]]
      refine W_loop [13,14,15,16,17,101,102,103,104,105,106,107,108,109,110,111,112,113,114,115,116,117,118,119,120,121,122,123,124,125,126,127,128,129,130,131,132,133,134,135,136,137,138,139,140,141,142,143,144,145,146,147,148,149,150,151,152,153,154,155,156,157,158,159,160,161,162,163] (fun j:Nat=>[(101,.f (I j))]) (fun j:Nat=>[oNt (V.map varF) (P.map ints) RR,bdO 1 6 (E2++prK V (szN V) pa s q j).size,none,none,none,none,btO (E2++prK V (szN V) pa s q j)]) (fun j:Nat=>j≤c) (fun j:Nat=>c-j) (0) (Nat.zero_le _) (by refine weak_of ?_ ?_<;>simp (disch:=omega) only [go_sem,Nat.reduceAdd]<;>first|rfl|exact ⟨rfl,rfl⟩|exact Or.inl rfl|exact ⟨Or.inl rfl,Or.inl rfl⟩|trivial|assumption|omega|(symm;assumption)|((repeat' apply And.intro)<;>first|rfl|omega|trivial|exact .inl rfl|exact .inr ⟨rfl,rfl⟩|exact .inr rfl|(right;symm;assumption)|(symm;assumption)|assumption)) ?_
      rintro j hj
      simp only [go_sem]
      (repeat (with_reducible first|refine W_seq fun K hK=>?_|refine J_region ?_ |refine J_c ?_|(refine Kont.go (by assumption) ?_)|(simp (config:={ maxSteps:=3000000 }) (disch:=omega) only [go_sem])))
      refine Jc_if (fun hjc=>?_) (fun hjc=>?_)<;>try simp only [decide_eq_true_eq,decide_eq_false_iff_not] at hjc
      ·have hwj:=hwh j hjc
       have hKj:=hKs j
       have hjm:=Nat.mul_le_mul_right 65561 (show j≤65536 by omega)
       have hKn:prK V (szN V) pa s q (j+1)=prK V (szN V) pa s q j++(pvT V pa (asgL (szN V) pa j) pa.length++(lineT (rwQ q s j)++nl)):=rfl
       have hKpj:=hKp (asgL (szN V) pa j) j
       have hatj:=hat j hjc
       have hasl:(asgL (szN V) pa j).length=pa.length:=asgL_len
       have hasg:=fun i (hi:i<pa.length)=>asgL_get (Z:=szN V) (l:=pa) (k:=j) hi
       obtain ⟨at_,hate⟩:∃at_,at_=asgL (szN V) pa j:=⟨_,rfl⟩
       rw [←hate] at hwj hKn hKpj hasl hasg
       obtain ⟨G,hG⟩:∃G,G=E2++prK V (szN V) pa s q j:=⟨_,rfl⟩
       have hGz:E2.size+(prK V (szN V) pa s q j).size=G.size:=by rw [hG,ByteArray.size_append]
       have hGb:G.size≤45000000000:=by omega
       have hGn:E2++prK V (szN V) pa s q (j+1)=G++(pvT V pa at_ pa.length++(lineT (rwQ q s j)++nl)):=by rw [hKn,hG,ba_assoc]
       have hG0:G=G++pvT V pa at_ 0:=by apply ByteArray.ext;simp [pvT]
       rw [←hG,hGz]
       (repeat (with_reducible first|refine W_seq fun K hK=>?_|refine J_block ?_|refine J_skip ?_|refine J_region ?_ |(refine Kont.go (by assumption) ?_)|(simp (config:={ maxSteps:=3000000 }) (disch:=omega) only [go_sem,↓reduceIte,hgp])))
       (first|refine call_f (hwj) rfl ?_|refine callQ_f (hwj) rfl ?_|refine callHK_f (hwj) rfl ?_|refine callH_f (hwj) rfl ?_)
       (repeat (with_reducible first|refine W_seq fun K hK=>?_|refine J_block ?_|refine J_region ?_ |(refine Kont.go (by assumption) ?_)|(simp (config:={ maxSteps:=3000000 }) (disch:=omega) only [go_sem,↓reduceIte,hgp,hpl])))
       rw [show bdO 1 6 G.size=bdO 1 6 (G++pvT V pa at_ 0).size by rw [←hG0],show btO G=btO (G++pvT V pa at_ 0) by rw [←hG0]]
       refine W_loop [16,17,121,122,123,124,125,126,127,128,129,130,131,132,133,134,135,136,137,138,139,140] (fun i:Nat=>[(121,.f (I i))]) (fun i:Nat=>[oNt (V.map varF) (P.map ints) RR,bdO 1 6 (G++pvT V pa at_ i).size,none,none,none,none,btO (G++pvT V pa at_ i)]) (fun i:Nat=>i≤pa.length) (fun i:Nat=>pa.length-i) (0) (Nat.zero_le _) (by refine weak_of ?_ ?_<;>simp (disch:=omega) only [go_sem,Nat.reduceAdd]<;>first|rfl|exact ⟨rfl,rfl⟩|exact Or.inl rfl|exact ⟨Or.inl rfl,Or.inl rfl⟩|trivial|assumption|omega|(symm;assumption)|((repeat' apply And.intro)<;>first|rfl|omega|trivial|exact .inl rfl|exact .inr ⟨rfl,rfl⟩|exact .inr rfl|(right;symm;assumption)|(symm;assumption)|assumption)) ?_
       rintro i hi
       simp only [go_sem]
       (repeat (with_reducible first|refine W_seq fun K hK=>?_|refine J_region ?_ |refine J_c ?_|(refine Kont.go (by assumption) ?_)|(simp (config:={ maxSteps:=3000000 }) (disch:=omega) only [go_sem])))
       refine Jc_if (fun hil=>?_) (fun hil=>?_)<;>try simp only [decide_eq_true_eq,decide_eq_false_iff_not] at hil
       ·have gi:=Ns_get (l:=pa) hil
        have hpg:=lget_lt pa 0 hil
        have hpv:pa.getD i 0<V.length:=by
         rw [hpg]
         have:=hplt _ (List.getElem_mem hil);rwa [hZl] at this
        have gat:=Ns_get (l:=at_) (i:=i) (by rw [hasl];exact hil)
        have hai:at_.getD i 0<szT (szN V) (pa.getD i 0):=by rw [hasg i hil,hpg];exact hatj i hil
        obtain ⟨p,hpe⟩:∃p,p=pa.getD i 0:=⟨_,rfl⟩
        obtain ⟨b,hbe⟩:∃b,b=at_.getD i 0:=⟨_,rfl⟩
        have hvv0:vvl V (pa.getD i 0) (at_.getD i 0)=vvl V p b:=by rw [hpe,hbe]
        rw [←hpe] at gi hpv hai
        rw [←hbe] at gat hai
        rw [szT_get hpv] at hai
        have gp:=map_get varF V hpv
        have hvp:varF V[p]=.agg [St V[p].1,.fz 1 (V[p].2.map St)]:=rfl
        rw [hvp] at gp
        have gv:=map_get St V[p].2 hai
        have hvv:vvl V p b=V[p].2[b]:=by unfold vvl;rw [lget_lt V _ hpv,lget_lt _ _ hai]
        have hps:=pvT_size hB.vl (pa:=pa) (at_:=at_) (i:=i)
        have hpm:=Nat.mul_le_mul_right 2049 (Nat.le_trans hi hpl8)
        have hnps:=hB.vl _ (List.getElem_mem hpv) _ (List.getElem_mem hai)
        obtain ⟨y,hye⟩:∃y,y=V[p].2[b]:=⟨_,rfl⟩
        rw [←hye] at gv hvv hnps
        obtain ⟨D,hD⟩:∃D,D=G++pvT V pa at_ i:=⟨_,rfl⟩
        have hDz:G.size+(pvT V pa at_ i).size=D.size:=by rw [hD,ByteArray.size_append]
        have hDn:D++(sp++y)=G++pvT V pa at_ (i+1):=by show _=G++(pvT V pa at_ i++(sp++vvl V (pa.getD i 0) (at_.getD i 0)));rw [hvv0,hvv,hD,ba_assoc]
        rw [←hD,hDz]
        (repeat (with_reducible first|refine W_seq fun K hK=>?_|refine J_block ?_|refine J_skip ?_|((fail_if_success refine J_region (id:=31) ?_);refine J_region ?_) |(refine Kont.go (by assumption) ?_)|(simp (config:={ maxSteps:=3000000 }) (disch:=omega) only [go_sem,↓reduceIte,gi])))
        refine J_eqL (ops':=rL31) (by kernel_rfl) ?_
        refine J_rL31 ?_
        (repeat (first|(with_reducible first|(simp (config:={ maxSteps:=3000000 }) (disch:=omega) only [go_sem,↓reduceIte,gp,gat,gv,z6]))|refine And.intro (by omega) ?_))
        obtain ⟨L,hL⟩:∃L,L=sp++y:=⟨_,rfl⟩
        have hLs:L.size≤2049:=by rw [hL,ByteArray.size_append];omega
        rw [←hL] at hDn ⊢
        have hDs:D.size+L.size=G.size+(pvT V pa at_ (i+1)).size:=by rw [←ByteArray.size_append,hDn,ByteArray.size_append]
        refine call_u (ws_u (s0:=D) rfl rfl (by omega)) ?_
        rw [hDn,hDs]
        (repeat (with_reducible first|refine J_region ?_ |(refine Kont.go (by assumption) ?_)|(simp (config:={ maxSteps:=3000000 }) (disch:=omega) only [go_sem,Nat.reduceAdd])))
        refine ⟨i+1,by omega,by omega,weak_ren [0,1,2,3,4,5,7] ⟨by decide,by first|decide|(simp;done)⟩ ?_ ?_⟩<;>(try simp (disch:=omega) only [go_sem,Nat.reduceAdd,map_ren_f])<;>(try first|done|omega|rfl|exact ⟨rfl,rfl⟩|trivial)
       ·have hil2:pa.length=i:=by omega
        subst hil2
        have hps:=pvT_size hB.vl (pa:=pa) (at_:=at_) (i:=pa.length)
        have hpm:=Nat.mul_le_mul_right 2049 hpl8
        obtain ⟨D,hD⟩:∃D,D=G++pvT V pa at_ pa.length:=⟨_,rfl⟩
        have hDz:G.size+(pvT V pa at_ pa.length).size=D.size:=by rw [hD,ByteArray.size_append]
        rw [←hD,hDz]
        have hfp:=hfs.piece (j*s) s
        have hln:=line_w hfp hB.k1 (by simp only [List.length_take];omega) (by have:=hB.kk;omega)
        have hrq:(q.drop (j*s)).take s=rwQ q s j:=rfl
        rw [hrq] at hln
        have hms:=Nat.mul_le_mul_right s (show j+1≤c by omega)
        have hsm:(j+1)*s=j*s+s:=Nat.succ_mul j s
        have m1:(j:Int)*(s:Int)=((j*s:Nat):Int):=(Int.natCast_mul j s).symm
        have m2:((j:Int)+1)*(s:Int)=(((j+1)*s:Nat):Int):=by rw [Int.natCast_mul];rfl
        (repeat (with_reducible first|refine J_exit ?_|(refine Kont.go (by assumption) ?_)|(simp (config:={ maxSteps:=3000000 }) (disch:=omega) only [go_sem,↓reduceIte])))
        refine J_eqL (ops':=rL33) (by kernel_rfl) ?_
        refine J_rL33 ?_
        have hcs:c*s≤262144:=Nat.mul_le_mul hcb hs4
        have t1:((((j+1)*s:Nat):Int)-((j*s:Nat):Int)).toNat=s:=by omega
        have t2:(((j*s:Nat):Int)).toNat=j*s:=Int.toNat_natCast _
        have hLs0:(lineT (rwQ q s j)).size≤65561:=by have:=hKpj;rw [ByteArray.size_append,ByteArray.size_append] at this;omega
        (repeat (first|(with_reducible first|(simp (config:={ maxSteps:=3000000 }) (disch:=omega) only [go_sem,↓reduceIte,hxs,gz,m1,m2,hxc,t1,t2]))|refine And.intro (by omega) ?_))
        (first|refine call_f (hln) rfl ?_|refine callQ_f (hln) rfl ?_|refine callHK_f (hln) rfl ?_|refine callH_f (hln) rfl ?_)
        (repeat (first|(with_reducible first|(simp (config:={ maxSteps:=3000000 }) (disch:=omega) only [go_sem,Nat.reduceLeDiff,z5]))|refine And.intro (by omega) ?_))
        obtain ⟨L,hL⟩:∃L,L=lineT (rwQ q s j)++nl:=⟨_,rfl⟩
        have hLs:L.size≤65561:=by rw [ByteArray.size_append,←hL] at hKpj;omega
        rw [←hL] at hGn ⊢
        have hDn:D++L=E2++prK V (szN V) pa s q (j+1):=by rw [hGn,hD,ba_assoc]
        have hDs:D.size+L.size=E2.size+(prK V (szN V) pa s q (j+1)).size:=by rw [←ByteArray.size_append,hDn,ByteArray.size_append]
        refine call_u (ws_u (s0:=D) (s:=L) rfl rfl (by omega)) ?_
        rw [hDn,hDs]
        (repeat (with_reducible first|refine J_region ?_ |(refine Kont.go (by assumption) ?_)|(simp (config:={ maxSteps:=3000000 }) (disch:=omega) only [go_sem,Nat.reduceAdd])))
        refine ⟨j+1,by omega,by omega,weak_ren [0,1,2,3,4,5,7] ⟨by decide,by first|decide|(simp;done)⟩ ?_ ?_⟩<;>(try simp (disch:=omega) only [go_sem,Nat.reduceAdd,map_ren_f])<;>(try first|done|omega|rfl|exact ⟨rfl,rfl⟩|trivial)
      ·have hjc2:c=j:=by omega
       subst hjc2
       have hKj:=hKs c
       have hjm:=Nat.mul_le_mul_right 65561 hcb
       obtain ⟨G,hG⟩:∃G,G=E2++prK V (szN V) pa s q c:=⟨_,rfl⟩
       have hGz:E2.size+(prK V (szN V) pa s q c).size=G.size:=by rw [hG,ByteArray.size_append]
       have hGn:G++cbB=A++prT V P M (v+1):=by rw [hBn,hG,hE2,hE,hC2,hC];simp only [ba_assoc]
       have hGs:G.size+cbB.size=A.size+(prT V P M (v+1)).size:=by rw [←ByteArray.size_append,hGn,ByteArray.size_append]
       rw [←hG,hGz]
       (repeat (with_reducible first|refine J_exit ?_|refine J_region ?_ |(refine Kont.go (by assumption) ?_)|(simp (config:={ maxSteps:=3000000 }) (disch:=omega) only [go_sem,↓reduceIte])))
       refine call_u (ws_u (s0:=G) (s:=cbB) rfl rfl (by omega)) ?_
       rw [hGn,hGs]
       (repeat (with_reducible first|refine J_region ?_ |(refine Kont.go (by assumption) ?_)|(simp (config:={ maxSteps:=3000000 }) (disch:=omega) only [go_sem,Nat.reduceAdd])))
       refine ⟨v+1,by omega,by omega,weak_ren [0,1,7] ⟨by decide,by first|decide|(simp;done)⟩ ?_ ?_⟩<;>(try simp (disch:=omega) only [go_sem,Nat.reduceAdd,map_ren_f])<;>(try first|done|omega|rfl|exact ⟨rfl,rfl⟩|trivial)
   ·have hex2:v=V.length:=by omega
    subst hex2
    have hTv:=hTs V.length hv
    obtain ⟨W,hW⟩:∃W,W=A++prT V P M V.length:=⟨_,rfl⟩
    have hWz:A.size+(prT V P M V.length).size=W.size:=by rw [hW,ByteArray.size_append]
    rw [←hW,hWz]
    rw [←hW] at hAe
    have hW0:0<W.size:=by omega
    (repeat (with_reducible first|refine W_seq fun K hK=>?_|refine J_exit ?_|refine J_region ?_ |(refine Kont.go (by assumption) ?_)|(simp (config:={ maxSteps:=3000000 }) (disch:=omega) only [go_sem,↓reduceIte])))
    refine call_u (len_u rfl) ?_
    by_cases hbig:20000<W.size
    ·have hbig':(20000:Int)<(W.size:Int):=by omega
     (repeat (with_reducible first|refine W_seq fun K hK=>?_|refine J_ret ?_|refine J_region ?_ |refine J_c ?_|refine Jc_true ?_|(refine Kont.go (by assumption) ?_)|(simp (config:={ maxSteps:=3000000 }) (disch:=omega) only [go_sem,hbig'])))
     rw [hAe,if_pos hbig,if_pos hbig]
     exact ⟨_,rfl,FrzL.fs [_,_]⟩
    ·have hbig':¬(20000:Int)<(W.size:Int):=by omega
     (repeat (with_reducible first|refine W_seq fun K hK=>?_|refine J_skip ?_|refine J_region ?_ |refine J_c ?_|refine Jc_false ?_|(refine Kont.go (by assumption) ?_)|(simp (config:={ maxSteps:=3000000 }) (disch:=omega) only [go_sem,hbig'])))
     refine call_u (str_u (s:=W) rfl rfl hW0 (by omega)) ?_
     (repeat (with_reducible first|refine J_ret ?_|(refine Kont.go (by assumption) ?_)|(simp (config:={ maxSteps:=3000000 }) (disch:=omega) only [go_sem])))
     rw [hAe,if_neg hbig,if_neg hbig]
     exact ⟨_,rfl,FrzL.fs [_,_]⟩
end
end Go.Proofs.YthehegidpamldaaGreatDoor
