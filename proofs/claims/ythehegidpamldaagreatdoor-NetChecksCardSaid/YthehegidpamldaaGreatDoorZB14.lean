/- Lists held against themselves, and how many bytes numbers have. Conditions: what a slice may hold. -/
import Derived.Test.YthehegidpamldaaGreatDoorZB13
import Derived.Test.YthehegidpamldaaGreatDoorZB07
import Derived.Test.YthehegidpamldaaGreatDoorZTbP
set_option linter.unusedVariables false
set_option linter.unusedSimpArgs false
namespace Go.Proofs.YthehegidpamldaaGreatDoor
open Go Go.RowKit
set_option maxRecDepth 100000 in
theorem sameFracs_w (l:List Rat) (hn:l.length≤140737488355328):Good Tryz.prog 56 [frs l,frs l] (Bo true):=by
 refine good_of Tryz.func56 rfl (by kernel_rfl) fun X hO hrd=>?_;rw [Tryz.ntmps56,Tryz.results56];simp only [ast0,List.map_cons,List.map_nil,List.length_cons,List.length_nil,Nat.reduceAdd,Nat.reduceSub,List.replicate_succ,List.replicate_zero,List.cons_append,List.nil_append]
 (repeat (with_reducible first|refine W_seq fun K hK=>?_|refine J_block ?_|refine J_skip ?_|refine J_region ?_ |refine J_c ?_|refine Jc_false ?_|(refine Kont.go (by assumption) ?_)|(simp (config:={ maxSteps:=3000000 }) (disch:=omega) only [go_sem,List.length_map])))
 refine W_loop [4,5,11,12,13,14,15,16,17,18,19,20,21,22,23,24,25] (fun x:Nat=>[(5,.f (I x))]) (fun x:Nat=>[]) (fun x:Nat=>x≤l.length) (fun x:Nat=>l.length-x) (0) (Nat.zero_le _) (by refine weak_of ?_ ?_<;>simp (disch:=omega) only [go_sem]<;>first|rfl|exact ⟨rfl,rfl⟩|exact Or.inl rfl|exact ⟨Or.inl rfl,Or.inl rfl⟩|trivial|assumption|omega|(symm;assumption)|((repeat' apply And.intro)<;>first|rfl|omega|trivial|exact .inl rfl|exact .inr ⟨rfl,rfl⟩|exact .inr rfl|(right;symm;assumption)|(symm;assumption)|assumption)) ?_
 rintro i hi
 simp only [go_sem]
 (repeat (with_reducible first|refine W_seq fun K hK=>?_|refine J_region ?_ |refine J_c ?_|(refine Kont.go (by assumption) ?_)|(simp (config:={ maxSteps:=3000000 }) (disch:=omega) only [go_sem,List.length_map])))
 refine Jc_if (fun hlt=>?_) (fun hlt=>?_)<;>try simp only [decide_eq_true_eq,decide_eq_false_iff_not] at hlt
 ·(repeat (with_reducible first|refine W_seq fun K hK=>?_|refine J_block ?_|refine J_skip ?_|refine J_region ?_ |refine J_drawn mixed (by kernel_rfl) ?_|refine J_c ?_|refine Jc_false ?_|(refine Kont.go (by assumption) ?_)|(simp (config:={ maxSteps:=3000000 }) (disch:=omega) only [go_sem,↓reduceIte,Nat.reduceAdd,map_get fr l hlt,hlt])))
  refine ⟨i+1,by omega,by omega,weak_of ?_ ?_⟩<;>(try simp (disch:=omega) only [go_sem])<;>(try first|done|omega|rfl|exact ⟨rfl,rfl⟩|trivial)
 ·(repeat (with_reducible first|refine W_seq fun K hK=>?_|refine J_exit ?_|refine J_ret ?_|refine J_region ?_ |exact Frz.f _|(refine Kont.go (by assumption) ?_)|(simp (config:={ maxSteps:=3000000 }) (disch:=omega) only [go_sem,↓reduceIte])))
def fbGo (n:Nat):List F3→Nat
 | []=>n
 | x::l=>if n≤4096 then fbGo (n+x.2.1.size+x.2.2.size) l else n
def fbN (l:List F3):Nat:=fbGo l.length l
theorem fbGo_ge {l:List F3}:∀{n:Nat},n≤fbGo n l:=by
 induction l with
 | nil=>intro n;exact Nat.le_refl _
 | cons x l ih =>
  intro n
  unfold fbGo
  split
  ·exact Nat.le_trans (by omega) (ih (n:=n+x.2.1.size+x.2.2.size))
  ·exact Nat.le_refl _
theorem fbGo_each {l:List F3} {b:Nat} (hb:b≤4096):∀{n:Nat},fbGo n l≤b→∀x∈l,x.2.1.size≤b∧x.2.2.size≤b:=by
 induction l with
 | nil=>intro n _ x hx;cases hx
 | cons y l ih =>
  intro n h x hx
  unfold fbGo at h
  have hn:n≤4096:=by
   split at h
   ·assumption
   ·omega
  rw [if_pos hn] at h
  rcases List.mem_cons.1 hx with rfl|hx
  ·have:=fbGo_ge (l:=l) (n:=n+x.2.1.size+x.2.2.size);omega
  ·exact ih h x hx
theorem fbGo_le {l:List F3} (h:∀x∈l,OkF x):∀{n:Nat},fbGo n l≤n+281474976706560:=by
 induction l with
 | nil=>intro n;unfold fbGo;omega
 | cons y l ih =>
  intro n
  unfold fbGo
  split
  ·cases l with
   | nil=>have:=h y (by simp);unfold OkF at this;unfold fbGo;omega
   | cons z l =>
    by_cases hb:n+y.2.1.size+y.2.2.size≤4096
    ·have:=ih (fun x hx=>h x (by simp [hx])) (n:=n+y.2.1.size+y.2.2.size)
     have:=h y (by simp)
     unfold OkF at this
     have h2:∀(l:List F3) (n:Nat),(∀x∈l,OkF x)→n≤4096→fbGo n l≤4096+281474976702464:=by
      intro l
      induction l with
      | nil=>intro n _ hn;unfold fbGo;omega
      | cons x l ih =>
       intro n hx hn
       unfold fbGo
       rw [if_pos hn]
       by_cases hc:n+x.2.1.size+x.2.2.size≤4096
       ·exact ih _ (fun y hy=>hx y (by simp [hy])) hc
       ·have e:fbGo (n+x.2.1.size+x.2.2.size) l=n+x.2.1.size+x.2.2.size:=by
         cases l with
         | nil=>rfl
         | cons a l=>unfold fbGo;rw [if_neg hc]
        have:=hx x (by simp)
        unfold OkF at this
        omega
     have:=h2 (z::l) _ (fun x hx=>h x (by simp [hx])) hb
     omega
    ·unfold fbGo
     rw [if_neg hb]
     have:=h y (by simp)
     unfold OkF at this
     omega
  ·omega
theorem fbN_len {l:List F3}:l.length≤fbN l:=fbGo_ge
theorem fbN_each {l:List F3} {b:Nat} (hb:b≤4096) (h:fbN l≤b):∀x∈l,x.2.1.size≤b∧x.2.2.size≤b:=fbGo_each hb h
def rv3 (x:F3):Rat:=rv x.1 x.2.1 x.2.2
theorem fbN_frs {l:List F3} {b:Nat} (hb:b≤4096) (h:fbN l≤b):Frs b (l.map frF) (l.map rv3):=⟨by simp,fun i q hq=>by
 rw [List.getElem?_map] at hq ⊢
 cases hx:l[i]? with
 | none=>rw [hx] at hq;cases hq
 | some x =>
  rw [hx] at hq
  cases hq
  have:=fbN_each hb h x (List.mem_of_getElem? hx)
  exact ⟨_,rfl,IsFr.raw _ _ _ this.1 this.2⟩⟩
set_option maxRecDepth 100000 in
theorem fracBytes_w (l:List F3) (h:OkFs l):Good Tryz.prog 28 [.fz 3 (l.map frF)] (I (fbN l:Nat)):=by
 have hb:=fbGo_le h.2 (n:=l.length)
 have hl:=h.1
 have hN:fbGo l.length l=fbN l:=rfl
 refine good_of Tryz.func28 rfl (by kernel_rfl) fun X hO hrd=>?_;rw [Tryz.ntmps28,Tryz.results28];simp only [ast0,List.map_cons,List.map_nil,List.length_cons,List.length_nil,Nat.reduceAdd,Nat.reduceSub,List.replicate_succ,List.replicate_zero,List.cons_append,List.nil_append]
 (repeat (with_reducible first|refine W_seq fun K hK=>?_|refine J_block ?_|refine J_region ?_ |(refine Kont.go (by assumption) ?_)|(simp (config:={ maxSteps:=3000000 }) (disch:=omega) only [go_sem,List.length_map])))
 refine W_loop [3,4,7,8,9,10,11,12,13,14,15,16,17,18,19,20,21,22,23,24,25,26,27,28,29,30,31] (fun x:Nat × Nat=>[(4,.f (I x.1)),(3,.f (I x.2))]) (fun x:Nat × Nat=>[]) (fun x:Nat × Nat=>x.1≤l.length∧fbGo x.2 (l.drop x.1)=fbN l) (fun x:Nat × Nat=>l.length-x.1) ((0,l.length)) (⟨Nat.zero_le _,rfl⟩) (by refine weak_of ?_ ?_<;>simp (disch:=omega) only [go_sem]<;>first|rfl|exact ⟨rfl,rfl⟩|exact Or.inl rfl|exact ⟨Or.inl rfl,Or.inl rfl⟩|trivial|assumption|omega|(symm;assumption)|((repeat' apply And.intro)<;>first|rfl|omega|trivial|exact .inl rfl|exact .inr ⟨rfl,rfl⟩|exact .inr rfl|(right;symm;assumption)|(symm;assumption)|assumption)) ?_
 rintro ⟨i,n⟩ ⟨hi,hn⟩
 have hnb:n≤fbN l:=by rw [←hn];exact fbGo_ge
 simp only at hi
 simp only [go_sem]
 by_cases hlt:i<l.length
 ·have hd:l.drop i=l[i]::l.drop (i+1):=List.drop_eq_getElem_cons hlt
  rw [hd] at hn
  simp only at hn
  unfold fbGo at hn
  by_cases hle:n≤4096
  ·rw [if_pos hle] at hn
   have hok:=h.2 _ (List.getElem_mem hlt)
   unfold OkF at hok
   have hnb2:n+l[i].2.1.size+l[i].2.2.size≤fbN l:=by rw [←hn];exact fbGo_ge
   have hle':(n:Int)≤4096:=by omega
   (repeat (with_reducible first|refine W_seq fun K hK=>?_|refine J_block ?_|refine J_skip ?_|refine J_region ?_ |refine J_drawn mixed (by kernel_rfl) ?_|refine J_c ?_|refine Jc_true ?_|(refine Kont.go (by assumption) ?_)|(simp (config:={ maxSteps:=3000000 }) (disch:=omega) only [go_sem,↓reduceIte,List.length_map,hlt,hle',map_get frF l hlt])))
   refine ⟨(i+1,n+l[i].2.1.size+l[i].2.2.size),⟨by simp only;omega,hn⟩,by simp only;omega,weak_of ?_ ?_⟩<;>(try simp (disch:=omega) only [go_sem])<;>(try first|done|omega|rfl|exact ⟨rfl,rfl⟩|trivial)
  ·rw [if_neg hle] at hn
   have hle':¬(n:Int)≤4096:=by omega
   subst hn
   (repeat (with_reducible first|refine W_seq fun K hK=>?_|refine J_exit ?_|refine J_ret ?_|refine J_region ?_ |refine J_c ?_|refine Jc_false ?_|exact Frz.f _|(refine Kont.go (by assumption) ?_)|(simp (config:={ maxSteps:=3000000 }) (disch:=omega) only [go_sem,↓reduceIte,List.length_map,hlt,hle'])))
 ·have hd:l.drop i=[]:=List.drop_of_length_le (by omega)
  rw [hd] at hn
  simp only at hn
  unfold fbGo at hn
  subst hn
  (repeat (with_reducible first|refine W_seq fun K hK=>?_|refine J_exit ?_|refine J_ret ?_|refine J_region ?_ |refine J_c ?_|refine Jc_false ?_|exact Frz.f _|(refine Kont.go (by assumption) ?_)|(simp (config:={ maxSteps:=3000000 }) (disch:=omega) only [go_sem,↓reduceIte,List.length_map,hlt])))
end Go.Proofs.YthehegidpamldaaGreatDoor
set_option linter.unusedVariables false
set_option linter.unusedSimpArgs false
namespace Go.Proofs.YthehegidpamldaaGreatDoor
open Go Go.RowKit
abbrev VarD:=ByteArray × List ByteArray
abbrev NetD:=List VarD × List (List Int) × List (List F3)
abbrev rawF (l:List F3):FV:=.fz 3 (l.map frF)
def txF (l:List ByteArray):FV:=.fz 1 (l.map St)
def varF (x:VarD):FV:=.agg [St x.1,txF x.2]
def netO (n:NetD):FV:=.agg [.fz 2 (n.1.map varF),.fz 1 (n.2.1.map ints),.fz 1 (n.2.2.map rawF)]
def OkTx (l:List ByteArray):Prop:=l.length≤140737488355328∧∀s∈l,OkS s
def OkV (x:VarD):Prop:=OkS x.1∧OkTx x.2
def OkNet (n:NetD):Prop:=(n.1.length≤140737488355328∧∀x∈n.1,OkV x)∧(n.2.1.length≤140737488355328∧∀l∈n.2.1,OkIs l)∧(n.2.2.length≤140737488355328∧∀r∈n.2.2,OkFs r)
def szN (V:List VarD):List Nat:=V.map fun x=>x.2.length
def rwQ (qs:List Rat) (s j:Nat):List Rat:=(qs.drop (j*s)).take s
def rowQ (Z pa:List Nat) (s:Nat) (qs:List Rat):Int:=if qs.length=cntS (szT Z) pa*s then (if (List.range (cntS (szT Z) pa)).all (fun j=>chancesB (rwQ qs s j))=true then 0 else 9) else 8
def varE (x:VarD):Int:=if 1≤x.2.length∧x.2.length≤4 then namesE x.2 else 2
def paN (P:List (List Int)) (v:Nat):List Nat:=(P.getD v []).map Int.toNat
def varsE (V:List VarD) (i:Nat):Int:=varE (V.getD i (⟨#[]⟩,[]))
def rowsE (V:List VarD) (P:List (List Int)) (M:List (List Rat)) (i:Nat):Int:=rowQ (szN V) (paN P i) (szT (szN V) i) (M.getD i [])
def netE (ge:Int) (V:List VarD) (P:List (List Int)) (M:List (List Rat)):Int :=
 if P.length=V.length∧M.length=V.length then (if ge=0 then (if namesE (V.map Prod.fst)=0 then (if fe (varsE V) V.length=0 then fe (rowsE V P M) V.length else fe (varsE V) V.length) else namesE (V.map Prod.fst)) else ge) else 8
abbrev netV (V:List VarD) (PP RR:List FV):FV:=.agg [.fz 2 (V.map varF),.fz 1 PP,.fz 1 RR]
theorem Frs.piece {k:Nat} {xs:List FV} {l:List Rat} (h:Frs k xs l) (a n:Nat):Frs k ((xs.drop a).take n) ((l.drop a).take n):=⟨by simp [h.len],fun i q hq=>by
 rw [List.getElem?_take] at hq
 split at hq
 ·rename_i hi
  rw [List.getElem?_drop] at hq
  obtain ⟨x,h1,h2⟩:=h.get _ q hq
  exact ⟨x,by rw [List.getElem?_take,if_pos hi,List.getElem?_drop];exact h1,h2⟩
 ·cases hq⟩
theorem szT_get {V:List VarD} {v:Nat} (h:v<V.length):szT (szN V) v=V[v].2.length:=by
 unfold szT szN
 rw [lget_lt _ 0 (by rw [List.length_map];exact h),List.getElem_map]
end Go.Proofs.YthehegidpamldaaGreatDoor
set_option linter.unusedVariables false
set_option linter.unusedSimpArgs false
namespace Go.Proofs.YthehegidpamldaaGreatDoor
open Go Go.RowKit
abbrev oNt (V P R:List FV):Option AO:=some ⟨26,3,[.f (.agg [.fz 2 V,.fz 1 P,.fz 1 R])]⟩
theorem szN_take {V:List VarD} {x:Nat} (hx:x<V.length):Ns (szN (V.take x))++[I (V[x].2.length:Nat)]=Ns (szN (V.take (x+1))):=by
 rw [Ns_snoc,List.take_add_one,List.getElem?_eq_getElem hx]
 unfold szN
 rw [List.map_append];rfl
theorem szN_len {V:List VarD}:(szN V).length=V.length:=by unfold szN;rw [List.length_map]
set_option maxRecDepth 100000 in
set_option maxHeartbeats 4000000 in
theorem sizes_w (V:List VarD) (P R:List FV) (hV:V.length≤1000000):Good Tryz.prog 16 [.agg [.fz 2 (V.map varF),.fz 1 P,.fz 1 R]] (.fz 1 (Ns (szN V))):=by
 refine good_of Tryz.func16 rfl (by kernel_rfl) fun X hO hrd=>?_;rw [Tryz.ntmps16,Tryz.results16];simp only [ast0,List.map_cons,List.map_nil,List.length_cons,List.length_nil,Nat.reduceAdd,Nat.reduceSub,List.replicate_succ,List.replicate_zero,List.cons_append,List.nil_append]
 (repeat (with_reducible first|refine W_seq fun K hK=>?_|refine J_block ?_|refine J_region ?_ |(refine Kont.go (by assumption) ?_)|(simp (config:={ maxSteps:=3000000 }) (disch:=omega) only [go_sem,↓reduceIte,Nat.reduceAdd,List.length_map])))
 refine J_reserve ?_
 refine W_loop [3,5,9,10,11,12,13,14,15,16,17,18,19] (fun x:Nat=>[(3,sl 1 1 (Ns (szN (V.take x)))),(9,.f (I x))]) (fun x:Nat=>[oNt (V.map varF) P R,ob 3 1 (Ns (szN (V.take x)))]) (fun x:Nat=>x≤V.length) (fun x:Nat=>V.length-x) (0) (Nat.zero_le _) (by refine weak_of ?_ ?_<;>simp (disch:=omega) only [go_sem,Nat.reduceAdd]<;>first|rfl|exact ⟨rfl,rfl⟩|exact Or.inl rfl|exact ⟨Or.inl rfl,Or.inl rfl⟩|trivial|assumption|omega|(symm;assumption)|((repeat' apply And.intro)<;>first|rfl|omega|trivial|exact .inl rfl|exact .inr ⟨rfl,rfl⟩|exact .inr rfl|(right;symm;assumption)|(symm;assumption)|assumption)) ?_
 rintro x hx
 simp only [go_sem]
 (repeat (with_reducible first|refine W_seq fun K hK=>?_|refine J_region ?_ |refine J_c ?_|(refine Kont.go (by assumption) ?_)|(simp (config:={ maxSteps:=3000000 }) (disch:=omega) only [go_sem])))
 refine Jc_if (fun hxl=>?_) (fun hxl=>?_)<;>try simp only [decide_eq_true_eq,decide_eq_false_iff_not] at hxl
 ·have gx:=map_get varF V hxl
  have hs:=szN_take hxl
  have hl:(Ns (szN (V.take x))).length=x:=by rw [Ns_len,szN_len,List.length_take];omega
  have hb:((Ns (szN (V.take x))).length+1)*8≤140737488355328:=by omega
  have hvf:varF V[x]=.agg [St V[x].1,.fz 1 (V[x].2.map St)]:=rfl
  rw [hvf] at gx
  (repeat (first|(with_reducible first|refine W_seq fun K hK=>?_|refine J_block ?_|refine J_skip ?_|refine J_region ?_ |refine aApp_sl ?_|(refine Kont.go (by assumption) ?_)|(simp (config:={ maxSteps:=3000000 }) (disch:=omega) only [go_sem,Nat.reduceEqDiff,↓reduceIte,Nat.reduceAdd,Nat.reduceLeDiff,gx,List.length_map,hs,hb]))|refine And.intro (by omega) ?_))
  refine ⟨x+1,by omega,by omega,weak_of ?_ ?_⟩<;>(try simp (disch:=omega) only [go_sem,Nat.reduceAdd])<;>(try first|done|omega|rfl|exact ⟨rfl,rfl⟩|trivial)
 ·have he:x=V.length:=by omega
  subst he
  rw [List.take_length]
  (repeat (with_reducible first|refine W_seq fun K hK=>?_|refine J_exit ?_|refine J_ret ?_|refine J_region ?_ |(refine Kont.go (by assumption) ?_)|(simp (config:={ maxSteps:=3000000 }) (disch:=omega) only [go_sem,↓reduceIte])))
  exact Frz.sl rfl
set_option maxRecDepth 100000 in
set_option maxHeartbeats 4000000 in
theorem rsizes_w (V:List VarD) (P R:List FV) (hV:V.length≤1000000):Good Tryz.prog 17 [.agg [.fz 2 (V.map varF),.fz 1 P,.fz 1 R]] (.fz 1 (Ns (szN V))):=by
 refine good_of Tryz.func17 rfl (by kernel_rfl) fun X hO hrd=>?_;rw [Tryz.ntmps17,Tryz.results17];simp only [ast0,List.map_cons,List.map_nil,List.length_cons,List.length_nil,Nat.reduceAdd,Nat.reduceSub,List.replicate_succ,List.replicate_zero,List.cons_append,List.nil_append]
 (repeat (with_reducible first|refine W_seq fun K hK=>?_|refine J_block ?_|refine J_region ?_ |(refine Kont.go (by assumption) ?_)|(simp (config:={ maxSteps:=3000000 }) (disch:=omega) only [go_sem,Nat.reduceAdd])))
 refine J_reserve ?_
 refine W_loop [3,4,5,6,7,8,9,10,11,12,13,14,15,16,17,18,19,20,21] (fun x:Nat=>[(3,sl 1 1 (Ns (szN (V.take x)))),(4,.f (I x))]) (fun x:Nat=>[oNt (V.map varF) P R,ob 3 1 (Ns (szN (V.take x)))]) (fun x:Nat=>x≤V.length) (fun x:Nat=>V.length-x) (0) (Nat.zero_le _) (by refine weak_of ?_ ?_<;>simp (disch:=omega) only [go_sem,Nat.reduceAdd]<;>first|rfl|exact ⟨rfl,rfl⟩|exact Or.inl rfl|exact ⟨Or.inl rfl,Or.inl rfl⟩|trivial|assumption|omega|(symm;assumption)|((repeat' apply And.intro)<;>first|rfl|omega|trivial|exact .inl rfl|exact .inr ⟨rfl,rfl⟩|exact .inr rfl|(right;symm;assumption)|(symm;assumption)|assumption)) ?_
 rintro x hx
 simp only [go_sem]
 (repeat (with_reducible first|refine W_seq fun K hK=>?_|refine J_region ?_ |refine J_c ?_|(refine Kont.go (by assumption) ?_)|(simp (config:={ maxSteps:=3000000 }) (disch:=omega) only [go_sem,↓reduceIte])))
 refine Jc_if (fun hxl=>?_) (fun hxl=>?_)<;>try simp only [decide_eq_true_eq,decide_eq_false_iff_not] at hxl
 ·have gx:=map_get varF V hxl
  have hs:=szN_take hxl
  have hl:(Ns (szN (V.take x))).length=x:=by rw [Ns_len,szN_len,List.length_take];omega
  have hb:((Ns (szN (V.take x))).length+1)*8≤140737488355328:=by omega
  have hvf:varF V[x]=.agg [St V[x].1,.fz 1 (V[x].2.map St)]:=rfl
  rw [hvf] at gx
  (repeat (first|(with_reducible first|refine W_seq fun K hK=>?_|refine J_block ?_|refine J_skip ?_|refine J_region ?_ |refine aApp_sl ?_|(refine Kont.go (by assumption) ?_)|(simp (config:={ maxSteps:=3000000 }) (disch:=omega) only [go_sem,Nat.reduceEqDiff,↓reduceIte,Nat.reduceAdd,Nat.reduceLeDiff,gx,List.length_map,hs,hb]))|refine And.intro (by omega) ?_))
  refine ⟨x+1,by omega,by omega,weak_of ?_ ?_⟩<;>(try simp (disch:=omega) only [go_sem,Nat.reduceAdd])<;>(try first|done|omega|rfl|exact ⟨rfl,rfl⟩|trivial)
 ·have he:x=V.length:=by omega
  subst he
  rw [List.take_length]
  (repeat (with_reducible first|refine W_seq fun K hK=>?_|refine J_exit ?_|refine J_ret ?_|refine J_region ?_ |(refine Kont.go (by assumption) ?_)|(simp (config:={ maxSteps:=3000000 }) (disch:=omega) only [go_sem,↓reduceIte])))
  exact Frz.sl rfl
end Go.Proofs.YthehegidpamldaaGreatDoor
set_option linter.unusedVariables false
set_option linter.unusedSimpArgs false
namespace Go.Proofs.YthehegidpamldaaGreatDoor
open Go Go.RowKit
section
variable {X : Cx} {P : Program} {Q : Exit → AS → Prop} {K : AS → Prop}
theorem W_loopE {c r:Code} {id:Nat} {Q':Exit→AS→Prop} {γ δ:Type} {t:List AV} {H:AH} (hK:Kont K (fun s=>J X P r Q' s)) (ws:List Nat) (up:γ→List (Nat × AV)) (hp:γ→AH) (I:γ→Prop) (μ:γ→Nat) (x0:γ) (up2:δ→List (Nat × AV)) (hp2:δ→AH) (I2:δ→Prop) (h0:I x0) (hw:Weak ⟨t,H⟩ ⟨sets (up x0) (msk ws t),hp x0⟩)
  (round:∀x,I x→J X P c (athen (fun s=>∃y,I y∧μ y<μ x∧Weak s ⟨sets (up y) (msk ws t),hp y⟩) (ablock id (athen (fun s=>∃z,I2 z∧Weak s ⟨sets (up2 z) (msk ws t),hp2 z⟩) Q))) ⟨sets (up x) (msk ws t),hp x⟩)
  (rest:∀z,I2 z→J X P r Q' ⟨sets (up2 z) (msk ws t),hp2 z⟩):J X P (.loop c) (ablock id (athen K Q)) ⟨t,H⟩:=by
 refine W_loop ws up hp I μ x0 h0 hw fun x hx=>J_mono (round x hx) fun e s hq=>?_
 have hgo:∀s,(∃z,I2 z∧Weak s ⟨sets (up2 z) (msk ws t),hp2 z⟩)→K s:=fun s ⟨z,hz,hw⟩=>hK s (J_weak hw (rest z hz))
 cases e with
 | normal=>exact hq
 | ret=>exact hq
 | exit j =>
  show ablock id (athen K Q) (.exit j) s
  replace hq:ablock id (athen _ Q) (.exit j) s:=hq
  rw [ablock_exit] at hq ⊢
  split
  ·rename_i h;rw [if_pos h] at hq;exact hgo s hq
  ·rename_i h;rw [if_neg h] at hq;exact hq
 | goto j=>exact hq
 | panic c=>exact hq
 | outgrown=>exact hq
end
end Go.Proofs.YthehegidpamldaaGreatDoor
set_option linter.unusedVariables false
set_option linter.unusedSimpArgs false
namespace Go.Proofs.YthehegidpamldaaGreatDoor
open Go Go.RowKit
def sGo:Nat→List ByteArray→Nat
 | k,[]=>k
 | k,s::l=>if k≤2048 then sGo (k+s.size) l else k
def vGo:Nat→Nat→List VarD→Nat × Nat
 | k,c,[]=>(k,c)
 | k,c,x::l=>if k≤2048∧c≤800 then vGo (sGo (k+x.1.size+x.2.length) x.2) (if 1<x.2.length then c*x.2.length else c) l else (k,c)
def pGo:Nat→List (List Int)→Nat
 | k,[]=>k
 | k,l::L=>if k≤2048 then pGo (k+l.length) L else k
def rGo:Nat→List (List F3)→Nat
 | k,[]=>k
 | k,l::L=>if k≤2048 then rGo (k+fbN l) L else k
section
variable {k c : Nat}
theorem sGo_ge:∀{l:List ByteArray} {k:Nat},k≤sGo k l:=by
 intro l
 induction l with
 | nil=>intro k;exact Nat.le_refl _
 | cons s l ih =>
  intro k
  unfold sGo
  split
  ·exact Nat.le_trans (by omega) (ih (k:=k+s.size))
  ·exact Nat.le_refl _
theorem sGo_all:∀{l:List ByteArray} {k:Nat},sGo k l≤2048→∀s∈l,s.size≤2048:=by
 intro l
 induction l with
 | nil=>intro k _ s hs;cases hs
 | cons a l ih =>
  intro k h s hs
  unfold sGo at h
  split at h
  ·have h1:=sGo_ge (l:=l) (k:=k+a.size)
   rcases List.mem_cons.1 hs with rfl|hs
   ·omega
   ·exact ih h s hs
  ·omega
theorem vGo_ge:∀{l:List VarD} {k c:Nat},k≤(vGo k c l).1:=by
 intro l
 induction l with
 | nil=>intro k c;exact Nat.le_refl _
 | cons x l ih =>
  intro k c
  unfold vGo
  split
  ·exact Nat.le_trans (Nat.le_trans (by omega) (sGo_ge (l:=x.2))) (ih (k:=sGo (k+x.1.size+x.2.length) x.2))
  ·exact Nat.le_refl _
theorem vGo_all:∀{l:List VarD} {k c:Nat},(vGo k c l).1≤2048→(vGo k c l).2≤800→∀x∈l,x.1.size≤2048∧x.2.length≤2048∧∀s∈x.2,s.size≤2048:=by
 intro l
 induction l with
 | nil=>intro k c _ _ x hx;cases hx
 | cons a l ih =>
  intro k c h hc x hx
  unfold vGo at h hc
  split at h
  ·rename_i hk
   rw [if_pos hk] at hc
   have h1:=vGo_ge (l:=l) (k:=sGo (k+a.1.size+a.2.length) a.2) (c:=if 1<a.2.length then c*a.2.length else c)
   have h2:=sGo_ge (l:=a.2) (k:=k+a.1.size+a.2.length)
   rcases List.mem_cons.1 hx with rfl|hx
   ·exact ⟨by omega,by omega,sGo_all (k:=k+x.1.size+x.2.length) (by omega)⟩
   ·exact ih h hc x hx
  ·rename_i hk
   rw [if_neg hk] at hc
   exact absurd ⟨h,hc⟩ hk
theorem pGo_ge:∀{l:List (List Int)} {k:Nat},k≤pGo k l:=by
 intro l
 induction l with
 | nil=>intro k;exact Nat.le_refl _
 | cons s l ih =>
  intro k
  unfold pGo
  split
  ·exact Nat.le_trans (by omega) (ih (k:=k+s.length))
  ·exact Nat.le_refl _
theorem rGo_ge:∀{l:List (List F3)} {k:Nat},k≤rGo k l:=by
 intro l
 induction l with
 | nil=>intro k;exact Nat.le_refl _
 | cons s l ih =>
  intro k
  unfold rGo
  split
  ·exact Nat.le_trans (by omega) (ih (k:=k+fbN s))
  ·exact Nat.le_refl _
theorem rGo_all:∀{l:List (List F3)} {k:Nat},rGo k l≤2048→∀s∈l,fbN s≤2048:=by
 intro l
 induction l with
 | nil=>intro k _ s hs;cases hs
 | cons a l ih =>
  intro k h s hs
  unfold rGo at h
  split at h
  ·have h1:=rGo_ge (l:=l) (k:=k+fbN a)
   rcases List.mem_cons.1 hs with rfl|hs
   ·omega
   ·exact ih h s hs
  ·omega
end
theorem fbN_leN {l:List F3} (h:OkFs l):fbN l≤422212465065984:=by
 have:=fbGo_le h.2 (n:=l.length)
 have h2:=h.1
 show fbGo l.length l≤_
 omega
def hvK (n:NetD):Nat:=rGo (pGo (vGo (n.1.length+n.2.1.length+n.2.2.length) 1 n.1).1 n.2.1) n.2.2
def hvC (n:NetD):Nat:=(vGo (n.1.length+n.2.1.length+n.2.2.length) 1 n.1).2
set_option maxRecDepth 100000 in
set_option maxHeartbeats 8000000 in
theorem heavyNet_w (V:List VarD) (P:List (List Int)) (R:List (List F3)) (h:OkNet (V,P,R)):Good Tryz.prog 6 [netV V (P.map ints) (R.map rawF)] (Bo (decide (2048<hvK (V,P,R))||decide (800<hvC (V,P,R)))):=by
 obtain ⟨⟨hV,hVx⟩,⟨hP,hPx⟩,hR,hRx⟩:=h
 simp only at hV hVx hP hPx hR hRx
 obtain ⟨K0,hK0⟩:∃K0,K0=V.length+P.length+R.length:=⟨_,rfl⟩
 obtain ⟨KC,hKC⟩:∃KC,KC=vGo K0 1 V:=⟨_,rfl⟩
 obtain ⟨K2,hK2⟩:∃K2,K2=pGo KC.1 P:=⟨_,rfl⟩
 obtain ⟨K3,hK3⟩:∃K3,K3=rGo K2 R:=⟨_,rfl⟩
 have e1:hvK (V,P,R)=K3:=by rw [hK3,hK2,hKC,hK0];rfl
 have e2:hvC (V,P,R)=KC.2:=by rw [hKC,hK0];rfl
 rw [e1,e2]
 have hk0:(V.length:Int)+(P.length:Int)+(R.length:Int)=(K0:Int):=by rw [hK0,Int.natCast_add,Int.natCast_add]
 refine good_of Tryz.func6 rfl (by kernel_rfl) fun X hO hrd=>?_;rw [Tryz.ntmps6,Tryz.results6];simp only [ast0,List.map_cons,List.map_nil,List.length_cons,List.length_nil,Nat.reduceAdd,Nat.reduceSub,List.replicate_succ,List.replicate_zero,List.cons_append,List.nil_append]
 (repeat (with_reducible first|refine W_seq fun K hK=>?_|refine J_block ?_|refine J_region ?_ |(refine Kont.go (by assumption) ?_)|(simp (config:={ maxSteps:=3000000 }) (disch:=omega) only [go_sem,↓reduceIte,Nat.reduceAdd,List.length_map,hk0])))
 refine W_loopE (by assumption) [3,4,5,6,20,21,22,23,24,25,26,27,28,29,30,31,32,33,34,35,36,37,38,39,40,41,42,43,44,45,46,47,48,49,50,51,52,53,54,55,56,57,58,59,60,61,62,63,64,65,66,67,68,69,70,71,72,73,74,75,76,77,78,79,80,81,82,83,84,85,86,87,88,89,90,91,92,93,94,95] (fun x:Nat × Nat × Nat=>[(5,.f (I x.1)),(3,.f (I x.2.1)),(4,.f (I x.2.2))]) (fun x:Nat × Nat × Nat=>[oNt (V.map varF) (P.map ints) (R.map rawF)]) (fun x:Nat × Nat × Nat=>x.1≤V.length∧vGo x.2.1 x.2.2 (V.drop x.1)=KC∧x.2.1≤844424930131968∧x.2.2≤112589990684263000) (fun x:Nat × Nat × Nat=>V.length-x.1) ((0,K0,1)) (fun z:Unit=>[(3,.f (I KC.1)),(4,.f (I KC.2))]) (fun z:Unit=>[oNt (V.map varF) (P.map ints) (R.map rawF)]) (fun z:Unit=>KC.1≤844424930131968∧KC.2≤112589990684263000) (⟨Nat.zero_le _,hKC.symm,(by omega:K0≤844424930131968),(by decide:1≤112589990684263000)⟩) (by refine weak_of ?_ ?_<;>simp (disch:=omega) only [go_sem]<;>first|rfl|exact ⟨rfl,rfl⟩|exact Or.inl rfl|exact ⟨Or.inl rfl,Or.inl rfl⟩|trivial|assumption|omega|(symm;assumption)|((repeat' apply And.intro)<;>first|rfl|omega|trivial|exact .inl rfl|exact .inr ⟨rfl,rfl⟩|exact .inr rfl|(right;symm;assumption)|(symm;assumption)|assumption)) ?_ ?_
 ·rintro ⟨i,k,c⟩ ⟨hi,hv,hkb,hcb⟩
  simp only at hi hv hkb hcb
  simp only [go_sem]
  by_cases hgo:i<V.length∧k≤2048∧c≤800
  ·obtain ⟨hlt,hle,hcl⟩:=hgo
   have hm:=hVx _ (List.getElem_mem hlt)
   have gx:=map_get varF V hlt
   have hvf:varF V[i]=.agg [St V[i].1,.fz 1 (V[i].2.map St)]:=rfl
   rw [hvf] at gx
   have hdr:V.drop i=V[i]::V.drop (i+1):=List.drop_eq_getElem_cons hlt
   rw [hdr] at hv
   unfold vGo at hv
   rw [if_pos ⟨hle,hcl⟩] at hv
   generalize V[i]=x at gx hm hv
   have hle':(k:Int)≤2048:=by omega
   have hcl':(c:Int)≤800:=by omega
   have hlt':(i:Int)<(V.length:Int):=by omega
   obtain ⟨hx1,hx2,hxs⟩:=hm
   have hx1':x.1.size≤140737488351232:=hx1
   have hx2':x.2.length≤140737488355328:=hx2
   obtain ⟨k1,hk1⟩:∃k1,k1=k+x.1.size+x.2.length:=⟨_,rfl⟩
   obtain ⟨k2,hk2⟩:∃k2,k2=sGo k1 x.2:=⟨_,rfl⟩
   rw [←hk1,←hk2] at hv
   have hk1':(k:Int)+(x.1.size:Int)+(x.2.length:Int)=(k1:Int):=by rw [hk1,Int.natCast_add,Int.natCast_add]
   (repeat (with_reducible first|refine W_seq fun K hK=>?_|refine J_block ?_|refine J_skip ?_|refine J_region ?_ |refine J_drawn mixed (by kernel_rfl) ?_|refine J_c ?_|refine Jc_true ?_|(refine Kont.go (by assumption) ?_)|(simp (config:={ maxSteps:=3000000 }) (disch:=omega) only [go_sem,↓reduceIte,hlt',hle',hcl',List.length_map,gx,hk1'])))
   refine W_loopE (by assumption) [3,6,52,53,54,55,56,57,58,59,60,61,62,63,64,65,66,67,68,69,70,71,72,73,74,75,76,77,78] (fun y:Nat × Nat=>[(6,.f (I y.1)),(3,.f (I y.2))]) (fun y:Nat × Nat=>[oNt (V.map varF) (P.map ints) (R.map rawF)]) (fun y:Nat × Nat=>y.1≤x.2.length∧sGo y.2 (x.2.drop y.1)=k2∧y.2≤422212465065984) (fun y:Nat × Nat=>x.2.length-y.1) ((0,k1)) (fun z:Unit=>[(3,.f (I k2))]) (fun z:Unit=>[oNt (V.map varF) (P.map ints) (R.map rawF)]) (fun z:Unit=>k2≤422212465065984) (⟨Nat.zero_le _,hk2.symm,(by omega:k1≤422212465065984)⟩) (by refine weak_of ?_ ?_<;>simp (disch:=omega) only [go_sem]<;>first|rfl|exact ⟨rfl,rfl⟩|exact Or.inl rfl|exact ⟨Or.inl rfl,Or.inl rfl⟩|trivial|assumption|omega|(symm;assumption)|((repeat' apply And.intro)<;>first|rfl|omega|trivial|exact .inl rfl|exact .inr ⟨rfl,rfl⟩|exact .inr rfl|(right;symm;assumption)|(symm;assumption)|assumption)) ?_ ?_
   ·rintro ⟨j,d⟩ ⟨hj,hd,hdb⟩
    simp only at hj hd hdb
    simp only [go_sem]
    by_cases hgo2:j<x.2.length∧d≤2048
    ·obtain ⟨hlt2,hle2⟩:=hgo2
     have hsm:OkS x.2[j]:=hxs _ (List.getElem_mem hlt2)
     have hsm':x.2[j].size≤140737488351232:=hsm
     have gs:=map_get St x.2 hlt2
     have hdr2:x.2.drop j=x.2[j]::x.2.drop (j+1):=List.drop_eq_getElem_cons hlt2
     rw [hdr2] at hd
     unfold sGo at hd
     rw [if_pos hle2] at hd
     generalize x.2[j]=t at gs hsm' hd
     have hle2':(d:Int)≤2048:=by omega
     have hlt2':(j:Int)<(x.2.length:Int):=by omega
     have hdt:(d:Int)+(t.size:Int)=((d+t.size:Nat):Int):=by rw [Int.natCast_add]
     (repeat (with_reducible first|refine W_seq fun K hK=>?_|refine J_block ?_|refine J_skip ?_|refine J_region ?_ |refine J_c ?_|refine Jc_true ?_|(refine Kont.go (by assumption) ?_)|(simp (config:={ maxSteps:=3000000 }) (disch:=omega) only [go_sem,↓reduceIte,hlt2',hle2',List.length_map,gx,gs,hdt])))
     refine ⟨(j+1,d+t.size),⟨by simp only;omega,hd,by simp only;omega⟩,by simp only;omega,weak_of ?_ ?_⟩<;>(try simp (disch:=omega) only [go_sem])<;>(try first|done|omega|rfl|exact ⟨rfl,rfl⟩|trivial)
    ·have hd2:d=k2:=by
      by_cases hlt2:j<x.2.length
      ·have hdr2:x.2.drop j=x.2[j]::x.2.drop (j+1):=List.drop_eq_getElem_cons hlt2
       rw [hdr2] at hd
       unfold sGo at hd
       rw [if_neg (by omega)] at hd
       exact hd
      ·rw [List.drop_of_length_le (by omega)] at hd
       exact hd
     clear hd
     subst hd2
     by_cases hlt2:j<x.2.length
     ·have hlt2':(j:Int)<(x.2.length:Int):=by omega
      have hle2':¬(d:Int)≤2048:=by omega
      (repeat (first|(with_reducible first|refine W_seq fun K hK=>?_|refine J_exit ?_|refine J_region ?_ |refine J_c ?_|refine Jc_false ?_|(refine Kont.go (by assumption) ?_)|(simp (config:={ maxSteps:=3000000 }) (disch:=omega) only [go_sem,↓reduceIte,hlt2',hle2',List.length_map,gx]))|refine And.intro (by omega) ?_))
      (refine weak_of ?_ ?_<;>(try simp only [go_sem])<;>(try first|done|omega|rfl|exact ⟨rfl,rfl⟩|trivial))
     ·have hlt2':¬(j:Int)<(x.2.length:Int):=by omega
      (repeat (first|(with_reducible first|refine W_seq fun K hK=>?_|refine J_exit ?_|refine J_region ?_ |refine J_c ?_|refine Jc_false ?_|(refine Kont.go (by assumption) ?_)|(simp (config:={ maxSteps:=3000000 }) (disch:=omega) only [go_sem,↓reduceIte,hlt2',List.length_map,gx]))|refine And.intro (by omega) ?_))
      (refine weak_of ?_ ?_<;>(try simp only [go_sem])<;>(try first|done|omega|rfl|exact ⟨rfl,rfl⟩|trivial))
   ·rintro _ hkb2
    simp only [go_sem]
    by_cases hone:1<x.2.length
    ·have hone':(1:Int)<(x.2.length:Int):=by omega
     have hcm:c*x.2.length≤800*140737488355328:=Nat.mul_le_mul hcl hx2'
     have hw:IntKind.i64.wrap ((c:Int)*(x.2.length:Int))=((c*x.2.length:Nat):Int):=by rw [IntKind.wrap_i64,←Int.natCast_mul];omega
     rw [if_pos hone] at hv
     (repeat (with_reducible first|refine W_seq fun K hK=>?_|refine J_region ?_ |refine J_c ?_|refine Jc_true ?_|(refine Kont.go (by assumption) ?_)|(simp (config:={ maxSteps:=3000000 }) (disch:=omega) only [go_sem,↓reduceIte,List.length_map,gx,hone',hw])))
     refine ⟨(i+1,k2,c*x.2.length),⟨by simp only;omega,hv,by simp only;omega,by simp only;omega⟩,by simp only;omega,weak_of ?_ ?_⟩<;>(try simp (disch:=omega) only [go_sem])<;>(try first|done|omega|rfl|exact ⟨rfl,rfl⟩|trivial)
    ·have hone':¬(1:Int)<(x.2.length:Int):=by omega
     rw [if_neg hone] at hv
     (repeat (with_reducible first|refine W_seq fun K hK=>?_|refine J_skip ?_|refine J_region ?_ |refine J_c ?_|refine Jc_false ?_|(refine Kont.go (by assumption) ?_)|(simp (config:={ maxSteps:=3000000 }) (disch:=omega) only [go_sem,↓reduceIte,List.length_map,gx,hone'])))
     refine ⟨(i+1,k2,c),⟨by simp only;omega,hv,by simp only;omega,hcb⟩,by simp only;omega,weak_of ?_ ?_⟩<;>(try simp (disch:=omega) only [go_sem])<;>(try first|done|omega|rfl|exact ⟨rfl,rfl⟩|trivial)
  ·have hkc:(k,c)=KC:=by
    by_cases hlt:i<V.length
    ·have hdr:V.drop i=V[i]::V.drop (i+1):=List.drop_eq_getElem_cons hlt
     rw [hdr] at hv
     unfold vGo at hv
     rw [if_neg (fun h=>hgo ⟨hlt,h⟩)] at hv
     exact hv
    ·rw [List.drop_of_length_le (by omega)] at hv
     exact hv
   clear hv
   have ek:k=KC.1:=by rw [←hkc]
   have ec:c=KC.2:=by rw [←hkc]
   clear hkc
   subst ek ec
   by_cases hlt:i<V.length
   ·have hlt':(i:Int)<(V.length:Int):=by omega
    by_cases hle:KC.1≤2048
    ·have hle':(KC.1:Int)≤2048:=by omega
     have hcl':¬(KC.2:Int)≤800:=fun h=>hgo ⟨hlt,hle,by omega⟩
     (repeat (first|(with_reducible first|refine W_seq fun K hK=>?_|refine J_exit ?_|refine J_region ?_ |refine J_c ?_|refine Jc_false ?_|(refine Kont.go (by assumption) ?_)|(simp (config:={ maxSteps:=3000000 }) (disch:=omega) only [go_sem,↓reduceIte,hlt',hle',hcl',List.length_map]))|refine And.intro (by omega) ?_))
     (refine weak_of ?_ ?_<;>(try simp only [go_sem])<;>(try first|done|omega|rfl|exact ⟨rfl,rfl⟩|trivial))
    ·have hle':¬(KC.1:Int)≤2048:=by omega
     (repeat (first|(with_reducible first|refine W_seq fun K hK=>?_|refine J_exit ?_|refine J_region ?_ |refine J_c ?_|refine Jc_false ?_|(refine Kont.go (by assumption) ?_)|(simp (config:={ maxSteps:=3000000 }) (disch:=omega) only [go_sem,↓reduceIte,hlt',hle',List.length_map]))|refine And.intro (by omega) ?_))
     (refine weak_of ?_ ?_<;>(try simp only [go_sem])<;>(try first|done|omega|rfl|exact ⟨rfl,rfl⟩|trivial))
   ·have hlt':¬(i:Int)<(V.length:Int):=by omega
    (repeat (first|(with_reducible first|refine W_seq fun K hK=>?_|refine J_exit ?_|refine J_region ?_ |refine J_c ?_|refine Jc_false ?_|(refine Kont.go (by assumption) ?_)|(simp (config:={ maxSteps:=3000000 }) (disch:=omega) only [go_sem,↓reduceIte,hlt',List.length_map]))|refine And.intro (by omega) ?_))
    (refine weak_of ?_ ?_<;>(try simp only [go_sem])<;>(try first|done|omega|rfl|exact ⟨rfl,rfl⟩|trivial))
 ·rintro _ ⟨hkb,hcb⟩
  simp only [go_sem]
  (repeat (with_reducible first|refine W_seq fun K hK=>?_|refine J_block ?_|refine J_region ?_ |(refine Kont.go (by assumption) ?_)|(simp (config:={ maxSteps:=3000000 }) (disch:=omega) only [go_sem])))
  refine W_loopE (by assumption) [3,7,96,97,98,99,100,101,102,103,104,105,106,107,108,109,110,111,112,113,114] (fun y:Nat × Nat=>[(7,.f (I y.1)),(3,.f (I y.2))]) (fun y:Nat × Nat=>[oNt (V.map varF) (P.map ints) (R.map rawF)]) (fun y:Nat × Nat=>y.1≤P.length∧pGo y.2 (P.drop y.1)=K2∧y.2≤844424930131968) (fun y:Nat × Nat=>P.length-y.1) ((0,KC.1)) (fun z:Unit=>[(3,.f (I K2))]) (fun z:Unit=>[oNt (V.map varF) (P.map ints) (R.map rawF)]) (fun z:Unit=>K2≤844424930131968) (⟨Nat.zero_le _,hK2.symm,hkb⟩) (by refine weak_of ?_ ?_<;>simp (disch:=omega) only [go_sem]<;>first|rfl|exact ⟨rfl,rfl⟩|exact Or.inl rfl|exact ⟨Or.inl rfl,Or.inl rfl⟩|trivial|assumption|omega|(symm;assumption)|((repeat' apply And.intro)<;>first|rfl|omega|trivial|exact .inl rfl|exact .inr ⟨rfl,rfl⟩|exact .inr rfl|(right;symm;assumption)|(symm;assumption)|assumption)) ?_ ?_
  ·rintro ⟨j,d⟩ ⟨hj,hd,hdb⟩
   simp only at hj hd hdb
   simp only [go_sem]
   by_cases hgo2:j<P.length∧d≤2048
   ·obtain ⟨hlt2,hle2⟩:=hgo2
    have hsm:=(hPx _ (List.getElem_mem hlt2)).1
    have gs:=map_get ints P hlt2
    have hdr2:P.drop j=P[j]::P.drop (j+1):=List.drop_eq_getElem_cons hlt2
    rw [hdr2] at hd
    unfold pGo at hd
    rw [if_pos hle2] at hd
    generalize P[j]=t at gs hsm hd
    have hle2':(d:Int)≤2048:=by omega
    have hlt2':(j:Int)<(P.length:Int):=by omega
    have hdt:(d:Int)+(t.length:Int)=((d+t.length:Nat):Int):=by rw [Int.natCast_add]
    (repeat (with_reducible first|refine W_seq fun K hK=>?_|refine J_block ?_|refine J_skip ?_|refine J_region ?_ |refine J_c ?_|refine Jc_true ?_|(refine Kont.go (by assumption) ?_)|(simp (config:={ maxSteps:=3000000 }) (disch:=omega) only [go_sem,↓reduceIte,hlt2',hle2',List.length_map,gs,hdt])))
    refine ⟨(j+1,d+t.length),⟨by simp only;omega,hd,by simp only;omega⟩,by simp only;omega,weak_of ?_ ?_⟩<;>(try simp (disch:=omega) only [go_sem])<;>(try first|done|omega|rfl|exact ⟨rfl,rfl⟩|trivial)
   ·have hd2:d=K2:=by
     by_cases hlt2:j<P.length
     ·have hdr2:P.drop j=P[j]::P.drop (j+1):=List.drop_eq_getElem_cons hlt2
      rw [hdr2] at hd
      unfold pGo at hd
      rw [if_neg (by omega)] at hd
      exact hd
     ·rw [List.drop_of_length_le (by omega)] at hd
      exact hd
    clear hd
    subst hd2
    by_cases hlt2:j<P.length
    ·have hlt2':(j:Int)<(P.length:Int):=by omega
     have hle2':¬(d:Int)≤2048:=by omega
     (repeat (first|(with_reducible first|refine W_seq fun K hK=>?_|refine J_exit ?_|refine J_region ?_ |refine J_c ?_|refine Jc_false ?_|(refine Kont.go (by assumption) ?_)|(simp (config:={ maxSteps:=3000000 }) (disch:=omega) only [go_sem,↓reduceIte,hlt2',hle2',List.length_map]))|refine And.intro (by omega) ?_))
     (refine weak_of ?_ ?_<;>(try simp only [go_sem])<;>(try first|done|omega|rfl|exact ⟨rfl,rfl⟩|trivial))
    ·have hlt2':¬(j:Int)<(P.length:Int):=by omega
     (repeat (first|(with_reducible first|refine W_seq fun K hK=>?_|refine J_exit ?_|refine J_region ?_ |refine J_c ?_|refine Jc_false ?_|(refine Kont.go (by assumption) ?_)|(simp (config:={ maxSteps:=3000000 }) (disch:=omega) only [go_sem,↓reduceIte,hlt2',List.length_map]))|refine And.intro (by omega) ?_))
     (refine weak_of ?_ ?_<;>(try simp only [go_sem])<;>(try first|done|omega|rfl|exact ⟨rfl,rfl⟩|trivial))
  ·rintro _ hkb2
   simp only [go_sem]
   (repeat (with_reducible first|refine W_seq fun K hK=>?_|refine J_block ?_|refine J_region ?_ |(refine Kont.go (by assumption) ?_)|(simp (config:={ maxSteps:=3000000 }) (disch:=omega) only [go_sem])))
   refine W_loopE (by assumption) [3,8,115,116,117,118,119,120,121,122,123,124,125,126,127,128,129,130,131,132,133] (fun y:Nat × Nat=>[(8,.f (I y.1)),(3,.f (I y.2))]) (fun y:Nat × Nat=>[oNt (V.map varF) (P.map ints) (R.map rawF)]) (fun y:Nat × Nat=>y.1≤R.length∧rGo y.2 (R.drop y.1)=K3∧y.2≤844424930131968) (fun y:Nat × Nat=>R.length-y.1) ((0,K2)) (fun z:Unit=>[(3,.f (I K3))]) (fun z:Unit=>[oNt (V.map varF) (P.map ints) (R.map rawF)]) (fun z:Unit=>True) (⟨Nat.zero_le _,hK3.symm,hkb2⟩) (by refine weak_of ?_ ?_<;>simp (disch:=omega) only [go_sem]<;>first|rfl|exact ⟨rfl,rfl⟩|exact Or.inl rfl|exact ⟨Or.inl rfl,Or.inl rfl⟩|trivial|assumption|omega|(symm;assumption)|((repeat' apply And.intro)<;>first|rfl|omega|trivial|exact .inl rfl|exact .inr ⟨rfl,rfl⟩|exact .inr rfl|(right;symm;assumption)|(symm;assumption)|assumption)) ?_ ?_
   ·rintro ⟨j,d⟩ ⟨hj,hd,hdb⟩
    simp only at hj hd hdb
    simp only [go_sem]
    by_cases hgo2:j<R.length∧d≤2048
    ·obtain ⟨hlt2,hle2⟩:=hgo2
     have hok:=hRx _ (List.getElem_mem hlt2)
     have hsm:=fbN_leN hok
     have hfb:=fracBytes_w _ hok
     have gs:(R.map rawF)[j]?=some (.fz 3 (R[j].map frF)):=map_get rawF R hlt2
     have hdr2:R.drop j=R[j]::R.drop (j+1):=List.drop_eq_getElem_cons hlt2
     rw [hdr2] at hd
     unfold rGo at hd
     rw [if_pos hle2] at hd
     generalize R[j]=t at gs hsm hd hfb
     have hle2':(d:Int)≤2048:=by omega
     have hlt2':(j:Int)<(R.length:Int):=by omega
     have hdt:(d:Int)+(fbN t:Int)=((d+fbN t:Nat):Int):=by rw [Int.natCast_add]
     (repeat (with_reducible first|refine W_seq fun K hK=>?_|refine J_block ?_|refine J_skip ?_|refine J_region ?_ |refine J_c ?_|refine Jc_true ?_|(refine Kont.go (by assumption) ?_)|(simp (config:={ maxSteps:=3000000 }) (disch:=omega) only [go_sem,↓reduceIte,hlt2',hle2',List.length_map,gs])))
     (first|refine call_f (hfb) rfl ?_|refine callQ_f (hfb) rfl ?_|refine callHK_f (hfb) rfl ?_|refine callH_f (hfb) rfl ?_)
     (repeat (with_reducible first|refine J_region ?_ |(refine Kont.go (by assumption) ?_)|(simp (config:={ maxSteps:=3000000 }) (disch:=omega) only [go_sem,hdt])))
     refine ⟨(j+1,d+fbN t),⟨by simp only;omega,hd,by simp only;omega⟩,by simp only;omega,weak_of ?_ ?_⟩<;>(try simp (disch:=omega) only [go_sem])<;>(try first|done|omega|rfl|exact ⟨rfl,rfl⟩|trivial)
    ·have hd2:d=K3:=by
      by_cases hlt2:j<R.length
      ·have hdr2:R.drop j=R[j]::R.drop (j+1):=List.drop_eq_getElem_cons hlt2
       rw [hdr2] at hd
       unfold rGo at hd
       rw [if_neg (by omega)] at hd
       exact hd
      ·rw [List.drop_of_length_le (by omega)] at hd
       exact hd
     clear hd
     subst hd2
     by_cases hlt2:j<R.length
     ·have hlt2':(j:Int)<(R.length:Int):=by omega
      have hle2':¬(d:Int)≤2048:=by omega
      (repeat (with_reducible first|refine W_seq fun K hK=>?_|refine J_exit ?_|refine J_region ?_ |refine J_c ?_|refine Jc_false ?_|(refine Kont.go (by assumption) ?_)|(simp (config:={ maxSteps:=3000000 }) (disch:=omega) only [go_sem,↓reduceIte,hlt2',hle2',List.length_map])))
      (refine weak_of ?_ ?_<;>(try simp only [go_sem])<;>(try first|done|omega|rfl|exact ⟨rfl,rfl⟩|trivial))
     ·have hlt2':¬(j:Int)<(R.length:Int):=by omega
      (repeat (with_reducible first|refine W_seq fun K hK=>?_|refine J_exit ?_|refine J_region ?_ |refine J_c ?_|refine Jc_false ?_|(refine Kont.go (by assumption) ?_)|(simp (config:={ maxSteps:=3000000 }) (disch:=omega) only [go_sem,↓reduceIte,hlt2',List.length_map])))
      (refine weak_of ?_ ?_<;>(try simp only [go_sem])<;>(try first|done|omega|rfl|exact ⟨rfl,rfl⟩|trivial))
   ·rintro _ _
    simp only [go_sem]
    by_cases h3:2048<K3
    ·have h3':(2048:Int)<(K3:Int):=by omega
     rw [decide_eq_true h3,Bool.true_or]
     (repeat (with_reducible first|refine W_seq fun K hK=>?_|refine J_ret ?_|refine J_region ?_ |exact Frz.f _|(refine Kont.go (by assumption) ?_)|(simp (config:={ maxSteps:=3000000 }) (disch:=omega) only [go_sem,h3'])))
    ·have h3':¬(2048:Int)<(K3:Int):=by omega
     rw [decide_eq_false h3,Bool.false_or]
     (repeat (with_reducible first|refine W_seq fun K hK=>?_|refine J_ret ?_|refine J_region ?_ |(refine Kont.go (by assumption) ?_)|(simp (config:={ maxSteps:=3000000 }) (disch:=omega) only [go_sem,h3'])))
     rw [show decide ((800:Int)<(KC.2:Int))=decide (800<KC.2) by congr 1;exact propext ⟨fun h=>by omega,fun h=>by omega⟩]
     exact Frz.f _
theorem heavyNet_ok {V:List VarD} {P:List (List Int)} {R:List (List F3)} (h:(decide (2048<hvK (V,P,R))||decide (800<hvC (V,P,R)))=false):V.length≤2048∧(∀x∈V,x.1.size≤2048∧x.2.length≤2048∧∀s∈x.2,s.size≤2048)∧∀r∈R,fbN r≤2048:=by
 rw [Bool.or_eq_false_iff,decide_eq_false_iff_not,decide_eq_false_iff_not] at h
 obtain ⟨h1,h2⟩:=h
 unfold hvK at h1
 unfold hvC at h2
 simp only at h1 h2
 have g1:=vGo_ge (l:=V) (k:=V.length+P.length+R.length) (c:=1)
 have g2:=pGo_ge (l:=P) (k:=(vGo (V.length+P.length+R.length) 1 V).1)
 have g3:=rGo_ge (l:=R) (k:=pGo (vGo (V.length+P.length+R.length) 1 V).1 P)
 exact ⟨by omega,vGo_all (k:=V.length+P.length+R.length) (c:=1) (by omega) (by omega),rGo_all (k:=pGo (vGo (V.length+P.length+R.length) 1 V).1 P) (by omega)⟩
end Go.Proofs.YthehegidpamldaaGreatDoor
set_option linter.unusedVariables false
set_option linter.unusedSimpArgs false
namespace Go.Proofs.YthehegidpamldaaGreatDoor
def uniT (n:Nat) (la lb:List Nat):List Nat:=(List.range n).filter fun v=>decide (v∈la∨v∈lb)
section
variable {Z l la lb m : List Nat} {qs qa qb : List Rat} {u v : Nat} {op : Rat → Rat → Rat} {a : Nat → Nat} {G F : (Nat → Nat) → Rat}
theorem mem_uniT {n:Nat}:u∈uniT n la lb↔u<n∧(u∈la∨u∈lb):=by unfold uniT;rw [List.mem_filter,List.mem_range,decide_eq_true_iff]
theorem OkT.uni (h:OkT Z la):OkT Z (uniT Z.length la lb):=h.sub (List.Pairwise.filter _ List.pairwise_lt_range) fun w hw=>(mem_uniT.1 hw).1
end
end Go.Proofs.YthehegidpamldaaGreatDoor
