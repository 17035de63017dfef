/- Lists held against themselves, and how many bytes numbers have. Conditions: what a slice may hold. -/
import Derived.Test.YtcgagiimlkjcpaaGreatDoorZB12
import Derived.Test.YtcgagiimlkjcpaaGreatDoorZB29
set_option linter.unusedVariables false
set_option linter.unusedSimpArgs false
namespace Go.Proofs.YtcgagiimlkjcpaaGreatDoor
open Go Go.RowKit
set_option maxRecDepth 100000 in
theorem sameFracs_w (l:List Rat) (hn:l.length≤140737488355328):Good Tryz.prog 17 [frs l,frs l] (Bo true):=by
 refine good_of Tryz.func17 rfl (by kernel_rfl) fun X hO hrd=>?_;rw [Tryz.ntmps17,Tryz.results17];simp only [ast0,List.map_cons,List.map_nil,List.length_cons,List.length_nil,Nat.reduceAdd,Nat.reduceSub,List.replicate_succ,List.replicate_zero,List.cons_append,List.nil_append]
 repeat (with_reducible first|refine W_seq fun K hK=>?_|refine J_block ?_|refine J_skip ?_|refine J_region ?_ |refine J_c ?_|refine Jc_false ?_|(refine Kont.go (by assumption) ?_)|(simp (config:={ maxSteps:=3000000 }) (disch:=omega) only [go_sem,List.length_map]))
 refine W_loop [4,5,11,12,13,14,15,16,17,18,19,20,21,22,23,24,25] (fun x:Nat=>[(5,.f (I x))]) (fun x:Nat=>[]) (fun x:Nat=>x≤l.length) (fun x:Nat=>l.length-x) (0) (Nat.zero_le _) (by refine weak_of ?_ ?_<;>simp (disch:=omega) only [go_sem]<;>first|rfl|exact ⟨rfl,rfl⟩|exact Or.inl rfl|exact ⟨Or.inl rfl,Or.inl rfl⟩|trivial|assumption|omega|(symm;assumption)|((repeat' apply And.intro)<;>first|rfl|omega|trivial|exact .inr ⟨rfl,rfl⟩|exact .inr rfl|(right;symm;assumption)|(symm;assumption)|assumption)) ?_
 rintro i hi
 simp only [go_sem]
 repeat (with_reducible first|refine W_seq fun K hK=>?_|refine J_region ?_ |refine J_c ?_|(refine Kont.go (by assumption) ?_)|(simp (config:={ maxSteps:=3000000 }) (disch:=omega) only [go_sem,List.length_map]))
 refine Jc_if (fun hlt=>?_) (fun hlt=>?_)<;>try simp only [decide_eq_true_eq,decide_eq_false_iff_not] at hlt
 ·repeat (with_reducible first|refine W_seq fun K hK=>?_|refine J_block ?_|refine J_skip ?_|refine J_region ?_ |refine J_drawn mixed (by kernel_rfl) ?_|refine J_c ?_|refine Jc_false ?_|(refine Kont.go (by assumption) ?_)|(simp (config:={ maxSteps:=3000000 }) (disch:=omega) only [go_sem,↓reduceIte,Nat.reduceAdd,map_get fr l hlt,hlt]))
  refine ⟨i+1,by omega,by omega,weak_of ?_ ?_⟩<;>(try simp (disch:=omega) only [go_sem])<;>(try first|done|omega|rfl|exact ⟨rfl,rfl⟩|trivial)
 ·repeat (with_reducible first|refine W_seq fun K hK=>?_|refine J_exit ?_|refine J_ret ?_|refine J_region ?_ |exact Frz.f _|(refine Kont.go (by assumption) ?_)|(simp (config:={ maxSteps:=3000000 }) (disch:=omega) only [go_sem,↓reduceIte]))
set_option maxRecDepth 100000 in
theorem sameInts_w (l:List Int) (hn:l.length≤140737488355328):Good Tryz.prog 54 [ints l,ints l] (Bo true):=by
 refine good_of Tryz.func54 rfl (by kernel_rfl) fun X hO hrd=>?_;rw [Tryz.ntmps54,Tryz.results54];simp only [ast0,List.map_cons,List.map_nil,List.length_cons,List.length_nil,Nat.reduceAdd,Nat.reduceSub,List.replicate_succ,List.replicate_zero,List.cons_append,List.nil_append]
 repeat (with_reducible first|refine W_seq fun K hK=>?_|refine J_block ?_|refine J_skip ?_|refine J_region ?_ |refine J_c ?_|refine Jc_false ?_|(refine Kont.go (by assumption) ?_)|(simp (config:={ maxSteps:=3000000 }) (disch:=omega) only [go_sem,List.length_map]))
 refine W_loop [4,5,11,12,13,14,15,16,17,18,19,20,21,22,23,24,25] (fun x:Nat=>[(5,.f (I x))]) (fun x:Nat=>[]) (fun x:Nat=>x≤l.length) (fun x:Nat=>l.length-x) (0) (Nat.zero_le _) (by refine weak_of ?_ ?_<;>simp (disch:=omega) only [go_sem]<;>first|rfl|exact ⟨rfl,rfl⟩|exact Or.inl rfl|exact ⟨Or.inl rfl,Or.inl rfl⟩|trivial|assumption|omega|(symm;assumption)|((repeat' apply And.intro)<;>first|rfl|omega|trivial|exact .inr ⟨rfl,rfl⟩|exact .inr rfl|(right;symm;assumption)|(symm;assumption)|assumption)) ?_
 rintro i hi
 simp only [go_sem]
 repeat (with_reducible first|refine W_seq fun K hK=>?_|refine J_region ?_ |refine J_c ?_|(refine Kont.go (by assumption) ?_)|(simp (config:={ maxSteps:=3000000 }) (disch:=omega) only [go_sem,List.length_map]))
 refine Jc_if (fun hlt=>?_) (fun hlt=>?_)<;>try simp only [decide_eq_true_eq,decide_eq_false_iff_not] at hlt
 ·repeat (with_reducible first|refine W_seq fun K hK=>?_|refine J_block ?_|refine J_skip ?_|refine J_region ?_ |refine J_drawn mixed (by kernel_rfl) ?_|refine J_c ?_|refine Jc_false ?_|(refine Kont.go (by assumption) ?_)|(simp (config:={ maxSteps:=3000000 }) (disch:=omega) only [go_sem,↓reduceIte,map_get I l hlt,hlt]))
  refine ⟨i+1,by omega,by omega,weak_of ?_ ?_⟩<;>(try simp (disch:=omega) only [go_sem])<;>(try first|done|omega|rfl|exact ⟨rfl,rfl⟩|trivial)
 ·repeat (with_reducible first|refine W_seq fun K hK=>?_|refine J_exit ?_|refine J_ret ?_|refine J_region ?_ |exact Frz.f _|(refine Kont.go (by assumption) ?_)|(simp (config:={ maxSteps:=3000000 }) (disch:=omega) only [go_sem,↓reduceIte]))
set_option maxRecDepth 100000 in
theorem sameRows_w (m:List (List Rat)) (hn:m.length≤140737488355328) (hr:∀r∈m,r.length≤140737488355328):Good Tryz.prog 20 [.fz 1 (m.map frs),.fz 1 (m.map frs)] (Bo true):=by
 refine good_of Tryz.func20 rfl (by kernel_rfl) fun X hO hrd=>?_;rw [Tryz.ntmps20,Tryz.results20];simp only [ast0,List.map_cons,List.map_nil,List.length_cons,List.length_nil,Nat.reduceAdd,Nat.reduceSub,List.replicate_succ,List.replicate_zero,List.cons_append,List.nil_append]
 repeat (with_reducible first|refine W_seq fun K hK=>?_|refine J_block ?_|refine J_skip ?_|refine J_region ?_ |refine J_c ?_|refine Jc_false ?_|(refine Kont.go (by assumption) ?_)|(simp (config:={ maxSteps:=3000000 }) (disch:=omega) only [go_sem,List.length_map]))
 refine W_loop [4,5,11,12,13,14,15,16,17,18,19,20,21,22,23,24,25,26] (fun x:Nat=>[(5,.f (I x))]) (fun x:Nat=>[]) (fun x:Nat=>x≤m.length) (fun x:Nat=>m.length-x) (0) (Nat.zero_le _) (by refine weak_of ?_ ?_<;>simp (disch:=omega) only [go_sem]<;>first|rfl|exact ⟨rfl,rfl⟩|exact Or.inl rfl|exact ⟨Or.inl rfl,Or.inl rfl⟩|trivial|assumption|omega|(symm;assumption)|((repeat' apply And.intro)<;>first|rfl|omega|trivial|exact .inr ⟨rfl,rfl⟩|exact .inr rfl|(right;symm;assumption)|(symm;assumption)|assumption)) ?_
 rintro i hi
 simp only [go_sem]
 repeat (with_reducible first|refine W_seq fun K hK=>?_|refine J_region ?_ |refine J_c ?_|(refine Kont.go (by assumption) ?_)|(simp (config:={ maxSteps:=3000000 }) (disch:=omega) only [go_sem,List.length_map]))
 refine Jc_if (fun hlt=>?_) (fun hlt=>?_)<;>try simp only [decide_eq_true_eq,decide_eq_false_iff_not] at hlt
 ·repeat (with_reducible first|refine W_seq fun K hK=>?_|refine J_block ?_|refine J_skip ?_|refine J_drawn mixed (by kernel_rfl) ?_|(refine Kont.go (by assumption) ?_)|(simp (config:={ maxSteps:=3000000 }) (disch:=omega) only [go_sem,↓reduceIte,map_get frs m hlt,hlt]))
  refine callQ_f (sameFracs_w m[i] (hr _ (List.getElem_mem _))) rfl ?_
  repeat (with_reducible first|refine J_skip ?_|refine J_region ?_ |refine J_c ?_|refine Jc_false ?_|(refine Kont.go (by assumption) ?_)|(simp (config:={ maxSteps:=3000000 }) (disch:=omega) only [go_sem]))
  refine ⟨i+1,by omega,by omega,weak_of ?_ ?_⟩<;>(try simp (disch:=omega) only [go_sem])<;>(try first|done|omega|rfl|exact ⟨rfl,rfl⟩|trivial)
 ·repeat (with_reducible first|refine W_seq fun K hK=>?_|refine J_exit ?_|refine J_ret ?_|refine J_region ?_ |exact Frz.f _|(refine Kont.go (by assumption) ?_)|(simp (config:={ maxSteps:=3000000 }) (disch:=omega) only [go_sem,↓reduceIte]))
set_option maxRecDepth 100000 in
theorem sameLists_w (m:List (List Int)) (hn:m.length≤140737488355328) (hr:∀r∈m,r.length≤140737488355328):Good Tryz.prog 23 [.fz 1 (m.map ints),.fz 1 (m.map ints)] (Bo true):=by
 refine good_of Tryz.func23 rfl (by kernel_rfl) fun X hO hrd=>?_;rw [Tryz.ntmps23,Tryz.results23];simp only [ast0,List.map_cons,List.map_nil,List.length_cons,List.length_nil,Nat.reduceAdd,Nat.reduceSub,List.replicate_succ,List.replicate_zero,List.cons_append,List.nil_append]
 repeat (with_reducible first|refine W_seq fun K hK=>?_|refine J_block ?_|refine J_skip ?_|refine J_region ?_ |refine J_c ?_|refine Jc_false ?_|(refine Kont.go (by assumption) ?_)|(simp (config:={ maxSteps:=3000000 }) (disch:=omega) only [go_sem,List.length_map]))
 refine W_loop [4,5,11,12,13,14,15,16,17,18,19,20,21,22,23,24,25,26] (fun x:Nat=>[(5,.f (I x))]) (fun x:Nat=>[]) (fun x:Nat=>x≤m.length) (fun x:Nat=>m.length-x) (0) (Nat.zero_le _) (by refine weak_of ?_ ?_<;>simp (disch:=omega) only [go_sem]<;>first|rfl|exact ⟨rfl,rfl⟩|exact Or.inl rfl|exact ⟨Or.inl rfl,Or.inl rfl⟩|trivial|assumption|omega|(symm;assumption)|((repeat' apply And.intro)<;>first|rfl|omega|trivial|exact .inr ⟨rfl,rfl⟩|exact .inr rfl|(right;symm;assumption)|(symm;assumption)|assumption)) ?_
 rintro i hi
 simp only [go_sem]
 repeat (with_reducible first|refine W_seq fun K hK=>?_|refine J_region ?_ |refine J_c ?_|(refine Kont.go (by assumption) ?_)|(simp (config:={ maxSteps:=3000000 }) (disch:=omega) only [go_sem,List.length_map]))
 refine Jc_if (fun hlt=>?_) (fun hlt=>?_)<;>try simp only [decide_eq_true_eq,decide_eq_false_iff_not] at hlt
 ·repeat (with_reducible first|refine W_seq fun K hK=>?_|refine J_block ?_|refine J_skip ?_|refine J_drawn mixed (by kernel_rfl) ?_|(refine Kont.go (by assumption) ?_)|(simp (config:={ maxSteps:=3000000 }) (disch:=omega) only [go_sem,↓reduceIte,map_get ints m hlt,hlt]))
  refine callQ_f (sameInts_w m[i] (hr _ (List.getElem_mem _))) rfl ?_
  repeat (with_reducible first|refine J_skip ?_|refine J_region ?_ |refine J_c ?_|refine Jc_false ?_|(refine Kont.go (by assumption) ?_)|(simp (config:={ maxSteps:=3000000 }) (disch:=omega) only [go_sem]))
  refine ⟨i+1,by omega,by omega,weak_of ?_ ?_⟩<;>(try simp (disch:=omega) only [go_sem])<;>(try first|done|omega|rfl|exact ⟨rfl,rfl⟩|trivial)
 ·repeat (with_reducible first|refine W_seq fun K hK=>?_|refine J_exit ?_|refine J_ret ?_|refine J_region ?_ |exact Frz.f _|(refine Kont.go (by assumption) ?_)|(simp (config:={ maxSteps:=3000000 }) (disch:=omega) only [go_sem,↓reduceIte]))
def fbGo (n:Nat):List F3→Nat
 | []=>n
 | x::l=>if n≤4096 then fbGo (n+x.2.1.size+x.2.2.size) l else n
def fbN (l:List F3):Nat:=fbGo l.length l
theorem fbGo_ge {l:List F3}:∀{n:Nat},n≤fbGo n l:=by
 induction l with
 | nil=>intro n;exact Nat.le_refl _
 | cons x l ih =>
  intro n
  unfold fbGo
  split
  ·exact Nat.le_trans (by omega) (ih (n:=n+x.2.1.size+x.2.2.size))
  ·exact Nat.le_refl _
theorem fbGo_each {l:List F3} {b:Nat} (hb:b≤4096):∀{n:Nat},fbGo n l≤b→∀x∈l,x.2.1.size≤b∧x.2.2.size≤b:=by
 induction l with
 | nil=>intro n _ x hx;cases hx
 | cons y l ih =>
  intro n h x hx
  unfold fbGo at h
  have hn:n≤4096:=by
   split at h
   ·assumption
   ·omega
  rw [if_pos hn] at h
  rcases List.mem_cons.1 hx with rfl|hx
  ·have:=fbGo_ge (l:=l) (n:=n+x.2.1.size+x.2.2.size);omega
  ·exact ih h x hx
theorem fbGo_le {l:List F3} (h:∀x∈l,OkF x):∀{n:Nat},fbGo n l≤n+281474976706560:=by
 induction l with
 | nil=>intro n;unfold fbGo;omega
 | cons y l ih =>
  intro n
  unfold fbGo
  split
  ·cases l with
   | nil=>have:=h y (by simp);unfold OkF at this;unfold fbGo;omega
   | cons z l =>
    by_cases hb:n+y.2.1.size+y.2.2.size≤4096
    ·have:=ih (fun x hx=>h x (by simp [hx])) (n:=n+y.2.1.size+y.2.2.size)
     have:=h y (by simp)
     unfold OkF at this
     have h2:∀(l:List F3) (n:Nat),(∀x∈l,OkF x)→n≤4096→fbGo n l≤4096+281474976702464:=by
      intro l
      induction l with
      | nil=>intro n _ hn;unfold fbGo;omega
      | cons x l ih =>
       intro n hx hn
       unfold fbGo
       rw [if_pos hn]
       by_cases hc:n+x.2.1.size+x.2.2.size≤4096
       ·exact ih _ (fun y hy=>hx y (by simp [hy])) hc
       ·have e:fbGo (n+x.2.1.size+x.2.2.size) l=n+x.2.1.size+x.2.2.size:=by
         cases l with
         | nil=>rfl
         | cons a l=>unfold fbGo;rw [if_neg hc]
        have:=hx x (by simp)
        unfold OkF at this
        omega
     have:=h2 (z::l) _ (fun x hx=>h x (by simp [hx])) hb
     omega
    ·unfold fbGo
     rw [if_neg hb]
     have:=h y (by simp)
     unfold OkF at this
     omega
  ·omega
theorem fbN_len {l:List F3}:l.length≤fbN l:=fbGo_ge
theorem fbN_each {l:List F3} {b:Nat} (hb:b≤4096) (h:fbN l≤b):∀x∈l,x.2.1.size≤b∧x.2.2.size≤b:=fbGo_each hb h
def rv3 (x:F3):Rat:=rv x.1 x.2.1 x.2.2
theorem fbN_frs {l:List F3} {b:Nat} (hb:b≤4096) (h:fbN l≤b):Frs b (l.map frF) (l.map rv3):=⟨by simp,fun i q hq=>by
 rw [List.getElem?_map] at hq ⊢
 cases hx:l[i]? with
 | none=>rw [hx] at hq;cases hq
 | some x =>
  rw [hx] at hq
  cases hq
  have:=fbN_each hb h x (List.mem_of_getElem? hx)
  exact ⟨_,rfl,IsFr.raw _ _ _ this.1 this.2⟩⟩
set_option maxRecDepth 100000 in
theorem fracBytes_w (l:List F3) (h:OkFs l):Good Tryz.prog 12 [.fz 3 (l.map frF)] (I (fbN l:Nat)):=by
 have hb:=fbGo_le h.2 (n:=l.length)
 have hl:=h.1
 have hN:fbGo l.length l=fbN l:=rfl
 refine good_of Tryz.func12 rfl (by kernel_rfl) fun X hO hrd=>?_;rw [Tryz.ntmps12,Tryz.results12];simp only [ast0,List.map_cons,List.map_nil,List.length_cons,List.length_nil,Nat.reduceAdd,Nat.reduceSub,List.replicate_succ,List.replicate_zero,List.cons_append,List.nil_append]
 repeat (with_reducible first|refine W_seq fun K hK=>?_|refine J_block ?_|refine J_region ?_ |(refine Kont.go (by assumption) ?_)|(simp (config:={ maxSteps:=3000000 }) (disch:=omega) only [go_sem,List.length_map]))
 refine W_loop [3,4,7,8,9,10,11,12,13,14,15,16,17,18,19,20,21,22,23,24,25,26,27,28,29,30,31] (fun x:Nat × Nat=>[(4,.f (I x.1)),(3,.f (I x.2))]) (fun x:Nat × Nat=>[]) (fun x:Nat × Nat=>x.1≤l.length∧fbGo x.2 (l.drop x.1)=fbN l) (fun x:Nat × Nat=>l.length-x.1) ((0,l.length)) (⟨Nat.zero_le _,rfl⟩) (by refine weak_of ?_ ?_<;>simp (disch:=omega) only [go_sem]<;>first|rfl|exact ⟨rfl,rfl⟩|exact Or.inl rfl|exact ⟨Or.inl rfl,Or.inl rfl⟩|trivial|assumption|omega|(symm;assumption)|((repeat' apply And.intro)<;>first|rfl|omega|trivial|exact .inr ⟨rfl,rfl⟩|exact .inr rfl|(right;symm;assumption)|(symm;assumption)|assumption)) ?_
 rintro ⟨i,n⟩ ⟨hi,hn⟩
 have hnb:n≤fbN l:=by rw [←hn];exact fbGo_ge
 simp only at hi
 simp only [go_sem]
 by_cases hlt:i<l.length
 ·have hd:l.drop i=l[i]::l.drop (i+1):=List.drop_eq_getElem_cons hlt
  rw [hd] at hn
  simp only at hn
  unfold fbGo at hn
  by_cases hle:n≤4096
  ·rw [if_pos hle] at hn
   have hok:=h.2 _ (List.getElem_mem hlt)
   unfold OkF at hok
   have hnb2:n+l[i].2.1.size+l[i].2.2.size≤fbN l:=by rw [←hn];exact fbGo_ge
   have hle':(n:Int)≤4096:=by omega
   repeat (with_reducible first|refine W_seq fun K hK=>?_|refine J_block ?_|refine J_skip ?_|refine J_region ?_ |refine J_drawn mixed (by kernel_rfl) ?_|refine J_c ?_|refine Jc_true ?_|(refine Kont.go (by assumption) ?_)|(simp (config:={ maxSteps:=3000000 }) (disch:=omega) only [go_sem,↓reduceIte,List.length_map,hlt,hle',map_get frF l hlt]))
   refine ⟨(i+1,n+l[i].2.1.size+l[i].2.2.size),⟨by simp only;omega,hn⟩,by simp only;omega,weak_of ?_ ?_⟩<;>(try simp (disch:=omega) only [go_sem])<;>(try first|done|omega|rfl|exact ⟨rfl,rfl⟩|trivial)
  ·rw [if_neg hle] at hn
   have hle':¬(n:Int)≤4096:=by omega
   subst hn
   repeat (with_reducible first|refine W_seq fun K hK=>?_|refine J_exit ?_|refine J_ret ?_|refine J_region ?_ |refine J_c ?_|refine Jc_false ?_|exact Frz.f _|(refine Kont.go (by assumption) ?_)|(simp (config:={ maxSteps:=3000000 }) (disch:=omega) only [go_sem,↓reduceIte,List.length_map,hlt,hle']))
 ·have hd:l.drop i=[]:=List.drop_of_length_le (by omega)
  rw [hd] at hn
  simp only at hn
  unfold fbGo at hn
  subst hn
  repeat (with_reducible first|refine W_seq fun K hK=>?_|refine J_exit ?_|refine J_ret ?_|refine J_region ?_ |refine J_c ?_|refine Jc_false ?_|exact Frz.f _|(refine Kont.go (by assumption) ?_)|(simp (config:={ maxSteps:=3000000 }) (disch:=omega) only [go_sem,↓reduceIte,List.length_map,hlt]))
end Go.Proofs.YtcgagiimlkjcpaaGreatDoor
set_option linter.unusedVariables false
set_option linter.unusedSimpArgs false
namespace Go.Proofs.YtcgagiimlkjcpaaGreatDoor
open Go Go.RowKit
abbrev raws (l:List F3):FV:=.fz 3 (l.map frF)
def rbGo (n:Nat):List (List F3)→Nat
 | []=>n
 | r::l=>if n≤700 then rbGo (n+fbN r) l else n
theorem rbGo_ge {l:List (List F3)}:∀{n:Nat},n≤rbGo n l:=by
 induction l with
 | nil=>intro n;exact Nat.le_refl _
 | cons x l ih =>
  intro n
  unfold rbGo
  split
  ·exact Nat.le_trans (by omega) (ih (n:=n+fbN x))
  ·exact Nat.le_refl _
theorem rbGo_each {l:List (List F3)}:∀{n:Nat},rbGo n l≤700→n≤700∧∀r∈l,fbN r≤700:=by
 induction l with
 | nil=>intro n h;exact ⟨h,fun r hr=>by cases hr⟩
 | cons y l ih =>
  intro n h
  unfold rbGo at h
  have hn:n≤700:=by
   split at h
   ·assumption
   ·omega
  rw [if_pos hn] at h
  obtain ⟨h1,h2⟩:=ih h
  refine ⟨hn,fun r hr=>?_⟩
  rcases List.mem_cons.1 hr with rfl|hr
  ·omega
  ·exact h2 r hr
theorem fbN_le {l:List F3} (h:OkFs l):fbN l≤422212465065984:=by
 have:=fbGo_le h.2 (n:=l.length)
 have h2:=h.1
 show fbGo l.length l≤_
 omega
theorem rbGo_le {l:List (List F3)} (h:∀r∈l,OkFs r):∀{n:Nat},n≤422212465065984+700→rbGo n l≤422212465065984+700:=by
 induction l with
 | nil=>intro n hn;exact hn
 | cons y l ih =>
  intro n hn
  unfold rbGo
  split
  ·have:=fbN_le (h y (by simp))
   exact ih (fun r hr=>h r (by simp [hr])) (by omega)
  ·exact hn
set_option maxRecDepth 100000 in
set_option maxHeartbeats 4000000 in
theorem heavyMatrix_w (q:List (List F3)) (hq:q.length≤140737488355328∧∀r∈q,OkFs r):Good Tryz.prog 11 [.fz 1 (q.map raws)] (Bo (decide (700<rbGo q.length q))):=by
 obtain ⟨R,hR⟩:∃R,R=rbGo q.length q:=⟨_,rfl⟩
 have hRl:R≤422212465065984+700:=by rw [hR];exact rbGo_le hq.2 (by omega)
 rw [←hR]
 refine good_of Tryz.func11 rfl (by kernel_rfl) fun X hO hrd=>?_;rw [Tryz.ntmps11,Tryz.results11];simp only [ast0,List.map_cons,List.map_nil,List.length_cons,List.length_nil,Nat.reduceAdd,Nat.reduceSub,List.replicate_succ,List.replicate_zero,List.cons_append,List.nil_append]
 repeat (with_reducible first|refine W_seq fun K hK=>?_|refine J_block ?_|refine J_region ?_ |(refine Kont.go (by assumption) ?_)|(simp (config:={ maxSteps:=3000000 }) (disch:=omega) only [go_sem,List.length_map]))
 refine W_loop [3,4,7,8,9,10,11,12,13,14,15,16,17,18,19,20,21,22,23] (fun x:Nat × Nat=>[(4,.f (I x.1)),(3,.f (I x.2))]) (fun x:Nat × Nat=>[]) (fun x:Nat × Nat=>x.1≤q.length∧rbGo x.2 (q.drop x.1)=R) (fun x:Nat × Nat=>q.length-x.1) ((0,q.length)) (⟨Nat.zero_le _,hR.symm⟩) (by refine weak_of ?_ ?_<;>simp (disch:=omega) only [go_sem]<;>first|rfl|exact ⟨rfl,rfl⟩|exact Or.inl rfl|exact ⟨Or.inl rfl,Or.inl rfl⟩|trivial|assumption|omega|(symm;assumption)|((repeat' apply And.intro)<;>first|rfl|omega|trivial|exact .inr ⟨rfl,rfl⟩|exact .inr rfl|(right;symm;assumption)|(symm;assumption)|assumption)) ?_
 rintro ⟨i,c⟩ ⟨hi,hc⟩
 simp only at hi
 have hcR:c≤R:=by rw [←hc];exact rbGo_ge
 simp only [go_sem]
 by_cases hlt:i<q.length
 ·have hd:q.drop i=q[i]::q.drop (i+1):=List.drop_eq_getElem_cons hlt
  rw [hd] at hc
  simp only at hc
  unfold rbGo at hc
  have br:=fbN_le (hq.2 _ (List.getElem_mem hlt))
  by_cases hle:c≤700
  ·rw [if_pos hle] at hc
   have hle':(c:Int)≤700:=by omega
   repeat (with_reducible first|refine W_seq fun K hK=>?_|refine J_block ?_|refine J_skip ?_|refine J_region ?_ |refine J_c ?_|refine Jc_true ?_|(refine Kont.go (by assumption) ?_)|(simp (config:={ maxSteps:=3000000 }) (disch:=omega) only [go_sem,↓reduceIte,List.length_map,hlt,hle',map_get raws q hlt]))
   refine call_f (fracBytes_w q[i] (hq.2 _ (List.getElem_mem hlt))) rfl ?_
   repeat (with_reducible first|refine J_region ?_ |(refine Kont.go (by assumption) ?_)|(simp (config:={ maxSteps:=3000000 }) (disch:=omega) only [go_sem]))
   refine ⟨(i+1,c+fbN q[i]),⟨by simp only;omega,hc⟩,by simp only;omega,weak_of ?_ ?_⟩<;>(try simp (disch:=omega) only [go_sem])<;>(try first|done|omega|rfl|exact ⟨rfl,rfl⟩|trivial)
  ·rw [if_neg hle] at hc
   have hle':¬(c:Int)≤700:=by omega
   subst hc
   repeat (with_reducible first|refine W_seq fun K hK=>?_|refine J_exit ?_|refine J_ret ?_|refine J_region ?_ |refine J_c ?_|refine Jc_false ?_|(refine Kont.go (by assumption) ?_)|(simp (config:={ maxSteps:=3000000 }) (disch:=omega) only [go_sem,↓reduceIte,List.length_map,hlt,hle']))
   rw [show decide ((700:Int)<(c:Int))=decide (700<c) by congr 1;exact propext ⟨fun h=>by omega,fun h=>by omega⟩]
   exact Frz.f _
 ·have hd:q.drop i=[]:=List.drop_of_length_le (by omega)
  rw [hd] at hc
  simp only at hc
  unfold rbGo at hc
  subst hc
  repeat (with_reducible first|refine W_seq fun K hK=>?_|refine J_exit ?_|refine J_ret ?_|refine J_region ?_ |refine J_c ?_|refine Jc_false ?_|(refine Kont.go (by assumption) ?_)|(simp (config:={ maxSteps:=3000000 }) (disch:=omega) only [go_sem,↓reduceIte,List.length_map,hlt]))
  rw [show decide ((700:Int)<(c:Int))=decide (700<c) by congr 1;exact propext ⟨fun h=>by omega,fun h=>by omega⟩]
  exact Frz.f _
end Go.Proofs.YtcgagiimlkjcpaaGreatDoor
