/- Names: strings.Trim by the kit's contract; net.name, names, the document's isName, namesOK: walked. Conditions: what slices may hold. -/
import Derived.Test.YthehegidpamldaaGreatDoorZB14
import Derived.Test.YthehegidpamldaaGreatDoorZB06
import Derived.Shelf.Strings.SlTrimAscii
import Derived.Test.YthehegidpamldaaGreatDoorZB15
set_option linter.unusedVariables false
set_option linter.unusedSimpArgs false
namespace Go.Proofs.YthehegidpamldaaGreatDoor
open Go Go.RowKit Go.Shelf
def triRen:Go.Shelf.Ren:=⟨fun|160=>131|232=>156|231=>155|227=>157|234=>159|233=>158|236=>161|235=>160|228=>172|271=>175|151=>174|197=>173|120=>180|152=>179|260=>178|137=>182|119=>183|224=>184|225=>185|217=>186|266=>187|n=>n,fun|9=>9|4=>4|3=>3|5=>5|117=>184|116=>183|0=>0|124=>187|21=>21|105=>197|46=>111|119=>201|139=>204|138=>203|n=>n,fun|3=>1|4=>2|n=>n⟩
theorem triLays:Lays.n160 Tryz.prog triRen where
 mixed:=by kernel_rfl
 f119:=Tryz.func183.trans (congrArg some (by kernel_rfl))
 f120:=Tryz.func180.trans (congrArg some (by kernel_rfl))
 f137:=Tryz.func182.trans (congrArg some (by kernel_rfl))
 f151:=Tryz.func174.trans (congrArg some (by kernel_rfl))
 f152:=Tryz.func179.trans (congrArg some (by kernel_rfl))
 f160:=Tryz.func131.trans (congrArg some (by kernel_rfl))
 f197:=Tryz.func173.trans (congrArg some (by kernel_rfl))
 f217:=Tryz.func186.trans (congrArg some (by kernel_rfl))
 f224:=Tryz.func184.trans (congrArg some (by kernel_rfl))
 f225:=Tryz.func185.trans (congrArg some (by kernel_rfl))
 f227:=Tryz.func157.trans (congrArg some (by kernel_rfl))
 f228:=Tryz.func172.trans (congrArg some (by kernel_rfl))
 f231:=Tryz.func155.trans (congrArg some (by kernel_rfl))
 f232:=Tryz.func156.trans (congrArg some (by kernel_rfl))
 f233:=Tryz.func158.trans (congrArg some (by kernel_rfl))
 f234:=Tryz.func159.trans (congrArg some (by kernel_rfl))
 f235:=Tryz.func160.trans (congrArg some (by kernel_rfl))
 f236:=Tryz.func161.trans (congrArg some (by kernel_rfl))
 f260:=Tryz.func178.trans (congrArg some (by kernel_rfl))
 f266:=Tryz.func187.trans (congrArg some (by kernel_rfl))
 f271:=Tryz.func175.trans (congrArg some (by kernel_rfl))
 t0:=Tryz.underlying0
 a0:=Tryz.isAgg0
 z0:=Tryz.sizeOf0
 v0:=Tryz.zeroValue0
 t3:=Tryz.underlying3
 a3:=Tryz.isAgg3
 z3:=Tryz.sizeOf3
 v3:=Tryz.zeroValue3
 t4:=Tryz.underlying4
 a4:=Tryz.isAgg4
 z4:=Tryz.sizeOf4
 v4:=Tryz.zeroValue4
 t5:=Tryz.underlying5
 a5:=Tryz.isAgg5
 z5:=Tryz.sizeOf5
 v5:=Tryz.zeroValue5
 t9:=Tryz.underlying9
 a9:=Tryz.isAgg9
 z9:=Tryz.sizeOf9
 v9:=Tryz.zeroValue9
 t21:=Tryz.underlying21
 a21:=Tryz.isAgg21
 z21:=Tryz.sizeOf21
 v21:=Tryz.zeroValue21
 t46:=Tryz.underlying111
 a46:=Tryz.isAgg111
 z46:=Tryz.sizeOf111
 v46:=Tryz.zeroValue111
 t105:=Tryz.underlying197
 a105:=Tryz.isAgg197
 z105:=Tryz.sizeOf197
 v105:=Tryz.zeroValue197
 t116:=Tryz.underlying183
 a116:=Tryz.isAgg183
 z116:=Tryz.sizeOf183
 t117:=Tryz.underlying184
 a117:=Tryz.isAgg184
 z117:=Tryz.sizeOf184
 v117:=Tryz.zeroValue184
 t119:=Tryz.underlying201
 a119:=Tryz.isAgg201
 z119:=Tryz.sizeOf201
 t124:=Tryz.underlying187
 a124:=Tryz.isAgg187
 z124:=Tryz.sizeOf187
 v124:=Tryz.zeroValue187
 t138:=Tryz.underlying203
 a138:=Tryz.isAgg203
 z138:=Tryz.sizeOf203
 v138:=Tryz.zeroValue203
 t139:=Tryz.underlying204
 a139:=Tryz.isAgg204
 z139:=Tryz.sizeOf204
 v139:=Tryz.zeroValue204
 g3:=by kernel_rfl
 g4:=by kernel_rfl
def nmS:ByteArray:=⟨#[97,98,99,100,101,102,103,104,105,106,107,108,109,110,111,112,113,114,115,116,117,118,119,120,121,122,48,49,50,51,52,53,54,55,56,57,95]⟩
theorem trim_w {s:ByteArray} (hs:s.size≤140737488355328):Good Tryz.prog 131 [St s,St nmS] (St ⟨(Lib.trimS s.data.toList nmCs).toArray⟩) :=
 good_calls (by kernel_rfl) rfl rfl fun w=>Any.strings_Trim_laid triLays (by kernel_rfl) s nmS w (by omega) (by decide) (by
  have h:nmS.data.toList.all (fun b=>decide (b.toNat<128))=true:=by decide +kernel
  exact ascii_of_all h)
theorem size_zero {s:ByteArray}:s=⟨#[]⟩↔s.size=0:=⟨fun h=>by rw [h];rfl,fun h=>by
 cases s with
 | mk a=>have:a.size=0:=h;rw [Array.size_eq_zero_iff] at this;rw [this]⟩
theorem bs_len {s:ByteArray}:s.data.toList.length=s.size:=by rw [Array.length_toList];rfl
def figN (n:Nat):Bool:=decide (48≤n∧n≤57)
theorem letter_w (n:Nat):Good Tryz.prog 164 [.v (.int .u8 (n:Int))] (Bo (letN n)):=by
 refine good_of Tryz.func164 rfl (by kernel_rfl) fun X hO hrd=>?_;rw [Tryz.ntmps164,Tryz.results164];simp only [ast0,List.map_cons,List.map_nil,List.length_cons,List.length_nil,Nat.reduceAdd,Nat.reduceSub,List.replicate_succ,List.replicate_zero,List.cons_append,List.nil_append]
 by_cases h1:(97:Int)≤(n:Int)
 ·by_cases h2:(n:Int)≤122
  ·have e:letN n=true:=decide_eq_true ⟨by omega,by omega⟩
   (repeat (with_reducible first|refine W_seq fun K hK=>?_|refine J_ret ?_|refine J_region ?_ |(refine Kont.go (by assumption) ?_)|(simp (config:={ maxSteps:=3000000 }) (disch:=omega) only [go_sem,h1,h2])))
   rw [e];exact Frz.f _
  ·have e:letN n=false:=decide_eq_false fun h=>by omega
   (repeat (with_reducible first|refine W_seq fun K hK=>?_|refine J_ret ?_|refine J_region ?_ |(refine Kont.go (by assumption) ?_)|(simp (config:={ maxSteps:=3000000 }) (disch:=omega) only [go_sem,h1,h2])))
   rw [e];exact Frz.f _
 ·have e:letN n=false:=decide_eq_false fun h=>by omega
  (repeat (with_reducible first|refine W_seq fun K hK=>?_|refine J_ret ?_|refine J_region ?_ |(refine Kont.go (by assumption) ?_)|(simp (config:={ maxSteps:=3000000 }) (disch:=omega) only [go_sem,h1])))
  rw [e];exact Frz.f _
theorem figure_w (n:Nat):Good Tryz.prog 165 [.v (.int .u8 (n:Int))] (Bo (figN n)):=by
 refine good_of Tryz.func165 rfl (by kernel_rfl) fun X hO hrd=>?_;rw [Tryz.ntmps165,Tryz.results165];simp only [ast0,List.map_cons,List.map_nil,List.length_cons,List.length_nil,Nat.reduceAdd,Nat.reduceSub,List.replicate_succ,List.replicate_zero,List.cons_append,List.nil_append]
 by_cases h1:(48:Int)≤(n:Int)
 ·by_cases h2:(n:Int)≤57
  ·have e:figN n=true:=decide_eq_true ⟨by omega,by omega⟩
   (repeat (with_reducible first|refine W_seq fun K hK=>?_|refine J_ret ?_|refine J_region ?_ |(refine Kont.go (by assumption) ?_)|(simp (config:={ maxSteps:=3000000 }) (disch:=omega) only [go_sem,h1,h2])))
   rw [e];exact Frz.f _
  ·have e:figN n=false:=decide_eq_false fun h=>by omega
   (repeat (with_reducible first|refine W_seq fun K hK=>?_|refine J_ret ?_|refine J_region ?_ |(refine Kont.go (by assumption) ?_)|(simp (config:={ maxSteps:=3000000 }) (disch:=omega) only [go_sem,h1,h2])))
   rw [e];exact Frz.f _
 ·have e:figN n=false:=decide_eq_false fun h=>by omega
  (repeat (with_reducible first|refine W_seq fun K hK=>?_|refine J_ret ?_|refine J_region ?_ |(refine Kont.go (by assumption) ?_)|(simp (config:={ maxSteps:=3000000 }) (disch:=omega) only [go_sem,h1])))
  rw [e];exact Frz.f _
def byN (s:ByteArray) (i:Nat):Nat:=(s.data.toList.getD i 0).toNat
def okC2 (s:ByteArray) (i:Nat):Bool:=letN (byN s i)||(!decide (i=0)&&(figN (byN s i)||decide (byN s i=95)))
def wrdB (s:ByteArray):Bool:=decide (0<s.size)&&(letN (byN s 0)&&s.data.toList.all (fun b=>chN b.toNat))
theorem ch_let {n:Nat}:chN n=(letN n||(figN n||decide (n=95))):=by unfold chN letN figN;rw [Bool.or_assoc]
theorem wrdB_iff {s:ByteArray}:wrdB s=true↔0<s.size∧∀i,i<s.size→okC2 s i=true:=by
 unfold wrdB
 rw [Bool.and_eq_true,decide_eq_true_iff,Bool.and_eq_true,List.all_eq_true]
 have hg:∀i (hi:i<s.size),s.data.toList[i]'(by rw [bs_len];exact hi)=s.data.toList.getD i 0:=fun i hi=>(lget_lt _ 0 _).symm
 constructor
 ·rintro ⟨h0,h1,h2⟩
  refine ⟨h0,fun i hi=>?_⟩
  unfold okC2
  by_cases e:i=0
  ·subst e;rw [h1];rfl
  ·have:=h2 _ (List.getElem_mem (l:=s.data.toList) (n:=i) (by rw [bs_len];exact hi))
   rw [hg i hi,ch_let] at this
   rw [decide_eq_false e]
   exact this
 ·rintro ⟨h0,h⟩
  refine ⟨h0,?_,fun b hb=>?_⟩
  ·have:=h 0 h0
   unfold okC2 at this
   simpa using this
  ·obtain ⟨i,hi,rfl⟩:=List.getElem_of_mem hb
   rw [bs_len] at hi
   have:=h i hi
   unfold okC2 at this
   rw [hg i hi,ch_let]
   show (letN (byN s i)||(figN (byN s i)||decide (byN s i=95)))=true
   cases hl:letN (byN s i) with
   | true=>rfl
   | false =>
    rw [hl,Bool.false_or,Bool.and_eq_true] at this
    exact this.2
set_option maxRecDepth 100000 in
theorem wordLike_w (s:ByteArray) (hs:s.size≤140737488355328):Good Tryz.prog 137 [St s] (Bo (wrdB s)):=by
 refine good_of Tryz.func137 rfl (by kernel_rfl) fun X hO hrd=>?_;rw [Tryz.ntmps137,Tryz.results137];simp only [ast0,List.map_cons,List.map_nil,List.length_cons,List.length_nil,Nat.reduceAdd,Nat.reduceSub,List.replicate_succ,List.replicate_zero,List.cons_append,List.nil_append]
 (repeat (with_reducible first|refine W_seq fun K hK=>?_|refine J_block ?_|refine J_region ?_ |(refine Kont.go (by assumption) ?_)|(simp (config:={ maxSteps:=3000000 }) (disch:=omega) only [go_sem])))
 refine W_loop [2,3,4,5,6,7,8,9,10,11,12,13,14,15,16,17,18,19,20,21,22,23,24,25,26,27,28,29,30,31,32,33,34,35] (fun x:Nat=>[(3,.f (I x))]) (fun x:Nat=>[]) (fun x:Nat=>x≤s.size∧∀i,i<x→okC2 s i=true) (fun x:Nat=>s.size-x) (0) (⟨Nat.zero_le _,fun j h=>by omega⟩) (by refine weak_of ?_ ?_<;>simp (disch:=omega) only [go_sem]<;>first|rfl|exact ⟨rfl,rfl⟩|exact Or.inl rfl|exact ⟨Or.inl rfl,Or.inl rfl⟩|trivial|assumption|omega|(symm;assumption)|((repeat' apply And.intro)<;>first|rfl|omega|trivial|exact .inl rfl|exact .inr ⟨rfl,rfl⟩|exact .inr rfl|(right;symm;assumption)|(symm;assumption)|assumption)) ?_
 rintro x ⟨hx,hp⟩
 simp only [go_sem]
 (repeat (with_reducible first|refine W_seq fun K hK=>?_|refine J_region ?_ |refine J_c ?_|(refine Kont.go (by assumption) ?_)|(simp (config:={ maxSteps:=3000000 }) (disch:=omega) only [go_sem])))
 refine Jc_if (fun hxl=>?_) (fun hxl=>?_)<;>try simp only [decide_eq_true_eq,decide_eq_false_iff_not] at hxl
 ·have c1:=letter_w (s.data.toList.getD x 0).toNat
  have c2:=figure_w (s.data.toList.getD x 0).toNat
  have hno:okC2 s x=false→wrdB s=false:=fun h=>by
   cases hb:wrdB s with
   | false=>rfl
   | true=>have:=(wrdB_iff.1 hb).2 x hxl;rw [h] at this;cases this
  have hby:byN s x=(s.data.toList.getD x 0).toNat:=rfl
  have hok:okC2 s x=(letN (s.data.toList.getD x 0).toNat||(!decide (x=0)&&(figN (s.data.toList.getD x 0).toNat||decide ((s.data.toList.getD x 0).toNat=95)))):=rfl
  obtain ⟨c,hc⟩:∃c,c=(s.data.toList.getD x 0).toNat:=⟨_,rfl⟩
  rw [←hc] at c1 c2 hok
  (repeat (first|(with_reducible first|refine W_seq fun K hK=>?_|refine J_block ?_|refine J_skip ?_|refine J_region ?_ |(refine Kont.go (by assumption) ?_)|(simp (config:={ maxSteps:=3000000 }) (disch:=omega) only [go_sem,idx_str,Int.toNat_natCast,←hc]))|refine And.intro (by omega) ?_))
  (first|refine call_f (c1) rfl ?_|refine callQ_f (c1) rfl ?_|refine callHK_f (c1) rfl ?_|refine callH_f (c1) rfl ?_)
  (repeat (first|(with_reducible first|refine W_seq fun K hK=>?_|refine J_region ?_ |(refine Kont.go (by assumption) ?_)|(simp (config:={ maxSteps:=3000000 }) (disch:=omega) only [go_sem,idx_str,Int.toNat_natCast,←hc]))|refine And.intro (by omega) ?_))
  (first|refine call_f (c2) rfl ?_|refine callQ_f (c2) rfl ?_|refine callHK_f (c2) rfl ?_|refine callH_f (c2) rfl ?_)
  cases hl:letN c with
  | true =>
   rw [hl,Bool.true_or] at hok
   (repeat (with_reducible first|refine W_seq fun K hK=>?_|refine J_skip ?_|refine J_region ?_ |refine J_c ?_|refine Jc_false ?_|(refine Kont.go (by assumption) ?_)|(simp (config:={ maxSteps:=3000000 }) (disch:=omega) only [go_sem])))
   refine ⟨x+1,⟨by omega,upto_next (p:=fun i=>okC2 s i=true) hp hok⟩,by omega,weak_of ?_ ?_⟩<;>(try simp (disch:=omega) only [go_sem])<;>(try first|done|omega|rfl|exact ⟨rfl,rfl⟩|trivial)
  | false =>
   rw [hl,Bool.false_or] at hok
   by_cases x0:x=0
   ·have x0':(x:Int)=0:=by omega
    rw [decide_eq_true x0] at hok
    (repeat (with_reducible first|refine W_seq fun K hK=>?_|refine J_ret ?_|refine J_region ?_ |refine J_c ?_|refine Jc_true ?_|(refine Kont.go (by assumption) ?_)|(simp (config:={ maxSteps:=3000000 }) (disch:=omega) only [go_sem,x0'])))
    rw [hno hok];exact Frz.f _
   ·have x0':¬(x:Int)=0:=by omega
    rw [decide_eq_false x0] at hok
    have hok:okC2 s x=(figN c||decide (c=95)):=hok
    cases hf:figN c with
    | true =>
     rw [hf,Bool.true_or] at hok
     (repeat (with_reducible first|refine W_seq fun K hK=>?_|refine J_skip ?_|refine J_region ?_ |refine J_c ?_|refine Jc_false ?_|(refine Kont.go (by assumption) ?_)|(simp (config:={ maxSteps:=3000000 }) (disch:=omega) only [go_sem,x0'])))
     refine ⟨x+1,⟨by omega,upto_next (p:=fun i=>okC2 s i=true) hp hok⟩,by omega,weak_of ?_ ?_⟩<;>(try simp (disch:=omega) only [go_sem])<;>(try first|done|omega|rfl|exact ⟨rfl,rfl⟩|trivial)
    | false =>
     rw [hf,Bool.false_or] at hok
     by_cases h95:c=95
     ·have h95':(c:Int)=95:=by omega
      rw [decide_eq_true h95] at hok
      (repeat (first|(with_reducible first|refine W_seq fun K hK=>?_|refine J_skip ?_|refine J_region ?_ |refine J_c ?_|refine Jc_false ?_|(refine Kont.go (by assumption) ?_)|(simp (config:={ maxSteps:=3000000 }) (disch:=omega) only [go_sem,x0',h95',idx_str,Int.toNat_natCast,←hc]))|refine And.intro (by omega) ?_))
      refine ⟨x+1,⟨by omega,upto_next (p:=fun i=>okC2 s i=true) hp hok⟩,by omega,weak_of ?_ ?_⟩<;>(try simp (disch:=omega) only [go_sem])<;>(try first|done|omega|rfl|exact ⟨rfl,rfl⟩|trivial)
     ·have h95':¬(c:Int)=95:=by omega
      rw [decide_eq_false h95] at hok
      (repeat (first|(with_reducible first|refine W_seq fun K hK=>?_|refine J_ret ?_|refine J_region ?_ |refine J_c ?_|refine Jc_true ?_|(refine Kont.go (by assumption) ?_)|(simp (config:={ maxSteps:=3000000 }) (disch:=omega) only [go_sem,x0',h95',idx_str,Int.toNat_natCast,←hc]))|refine And.intro (by omega) ?_))
      rw [hno hok];exact Frz.f _
 ·have he:x=s.size:=by omega
  subst he
  by_cases h0:s=⟨#[]⟩
  ·have e:wrdB s=false:=by
    cases hb:wrdB s with
    | false=>rfl
    | true=>have:=(wrdB_iff.1 hb).1;rw [size_zero.1 h0] at this;omega
   have h0':decide (s=⟨#[]⟩)=true:=decide_eq_true h0
   (repeat (with_reducible first|refine W_seq fun K hK=>?_|refine J_exit ?_|refine J_ret ?_|refine J_region ?_ |(refine Kont.go (by assumption) ?_)|(simp (config:={ maxSteps:=3000000 }) (disch:=omega) only [go_sem,↓reduceIte,h0'])))
   rw [e];exact Frz.f _
  ·have e:wrdB s=true:=wrdB_iff.2 ⟨by
    have:=mt size_zero.2 h0;omega,hp⟩
   have h0':decide (s=⟨#[]⟩)=false:=decide_eq_false h0
   (repeat (with_reducible first|refine W_seq fun K hK=>?_|refine J_exit ?_|refine J_ret ?_|refine J_region ?_ |(refine Kont.go (by assumption) ?_)|(simp (config:={ maxSteps:=3000000 }) (disch:=omega) only [go_sem,↓reduceIte,h0'])))
   rw [e];exact Frz.f _
theorem namB_wrd {s:ByteArray}:namB s=(wrdB s&&(decide (s.size≤12)&&(!decide (s=⟨#[118,97,114]⟩)&&!decide (s=⟨#[101,108,115,101]⟩)))):=by
 unfold namB wrdB byN
 generalize decide (0<s.size)=a
 generalize decide (s.size≤12)=b
 generalize letN (s.data.toList.getD 0 0).toNat=c
 generalize s.data.toList.all (fun b=>chN b.toNat)=d
 generalize (!decide (s=⟨#[118,97,114]⟩)&&!decide (s=⟨#[101,108,115,101]⟩))=e
 cases a<;>cases b<;>cases c<;>cases d<;>cases e<;>rfl
set_option maxRecDepth 100000 in
theorem isName_w (s:ByteArray) (hs:s.size≤140737488355328):Good Tryz.prog 96 [St s] (Bo (namB s)):=by
 have hw:=wordLike_w s hs
 refine good_of Tryz.func96 rfl (by kernel_rfl) fun X hO hrd=>?_;rw [Tryz.ntmps96,Tryz.results96];simp only [ast0,List.map_cons,List.map_nil,List.length_cons,List.length_nil,Nat.reduceAdd,Nat.reduceSub,List.replicate_succ,List.replicate_zero,List.cons_append,List.nil_append]
 (repeat (with_reducible first|refine W_seq fun K hK=>?_|refine J_region ?_ |(refine Kont.go (by assumption) ?_)|(simp (config:={ maxSteps:=3000000 }) (disch:=omega) only [go_sem])))
 (first|refine call_f (hw) rfl ?_|refine callQ_f (hw) rfl ?_|refine callHK_f (hw) rfl ?_|refine callH_f (hw) rfl ?_)
 cases h1:wrdB s with
 | false =>
  have e:namB s=false:=by rw [namB_wrd,h1];rfl
  (repeat (with_reducible first|refine W_seq fun K hK=>?_|refine J_ret ?_|refine J_region ?_ |(refine Kont.go (by assumption) ?_)|(simp (config:={ maxSteps:=3000000 }) (disch:=omega) only [go_sem])))
  rw [e];exact Frz.f _
 | true =>
  by_cases h2:(s.size:Int)≤12
  ·have h2':decide (s.size≤12)=true:=decide_eq_true (by omega)
   cases h3:decide (s=⟨#[118,97,114]⟩) with
   | true =>
    have e:namB s=false:=by rw [namB_wrd,h1,h2',h3];rfl
    (repeat (with_reducible first|refine W_seq fun K hK=>?_|refine J_ret ?_|refine J_region ?_ |(refine Kont.go (by assumption) ?_)|(simp (config:={ maxSteps:=3000000 }) (disch:=omega) only [go_sem,h2,h3])))
    rw [e];exact Frz.f _
   | false =>
    cases h4:decide (s=⟨#[101,108,115,101]⟩) with
    | true =>
     have e:namB s=false:=by rw [namB_wrd,h1,h2',h3,h4];rfl
     (repeat (with_reducible first|refine W_seq fun K hK=>?_|refine J_ret ?_|refine J_region ?_ |(refine Kont.go (by assumption) ?_)|(simp (config:={ maxSteps:=3000000 }) (disch:=omega) only [go_sem,h2,h3,h4])))
     rw [e];exact Frz.f _
    | false =>
     have e:namB s=true:=by rw [namB_wrd,h1,h2',h3,h4];rfl
     (repeat (with_reducible first|refine W_seq fun K hK=>?_|refine J_ret ?_|refine J_region ?_ |(refine Kont.go (by assumption) ?_)|(simp (config:={ maxSteps:=3000000 }) (disch:=omega) only [go_sem,h2,h3,h4])))
     rw [e];exact Frz.f _
  ·have h2':decide (s.size≤12)=false:=decide_eq_false (by omega)
   have e:namB s=false:=by rw [namB_wrd,h1,h2'];rfl
   (repeat (with_reducible first|refine W_seq fun K hK=>?_|refine J_ret ?_|refine J_region ?_ |(refine Kont.go (by assumption) ?_)|(simp (config:={ maxSteps:=3000000 }) (disch:=omega) only [go_sem,h2])))
   rw [e];exact Frz.f _
end Go.Proofs.YthehegidpamldaaGreatDoor
set_option linter.unusedVariables false
set_option linter.unusedSimpArgs false
namespace Go.Proofs.YthehegidpamldaaGreatDoor
open Go Go.RowKit
def frsI (p:Nat→Bool) (n:Nat):Int:=match (List.range n).find? p with
 | some i=>(i:Int)
 | none=>-1
theorem frsI_some {p:Nat→Bool} {n i:Nat} (hi:i<n) (hp:p i=true) (hb:∀j,j<i→p j=false):frsI p n=i:=by
 have e:(List.range n).find? p=some i:=List.find?_range_eq_some.2 ⟨hp,List.mem_range.2 hi,fun j hj=>by rw [hb j hj];rfl⟩
 unfold frsI;rw [e]
theorem frsI_none {p:Nat→Bool} {n:Nat} (hb:∀j,j<n→p j=false):frsI p n=-1:=by
 have e:(List.range n).find? p=none:=List.find?_eq_none.2 fun x hx=>by rw [hb x (List.mem_range.1 hx)];decide
 unfold frsI;rw [e]
theorem frsI_any {p:Nat→Bool} {n:Nat}:decide (0≤frsI p n)=(List.range n).any p:=by
 unfold frsI
 cases h:(List.range n).find? p with
 | none =>
  have h0:=List.find?_eq_none.1 h
  have:(List.range n).any p=false:=by
   rw [List.any_eq_false];exact fun x hx=>h0 x hx
  rw [this];rfl
 | some i =>
  have h0:=List.find?_some h
  have h1:=List.mem_of_find?_eq_some h
  have:(List.range n).any p=true:=List.any_eq_true.2 ⟨i,h1,h0⟩
  rw [this];exact decide_eq_true (by simp only;omega)
end Go.Proofs.YthehegidpamldaaGreatDoor
set_option linter.unusedVariables false
set_option linter.unusedSimpArgs false
namespace Go.Proofs.YthehegidpamldaaGreatDoor
open Go Go.RowKit
set_option maxRecDepth 100000 in
set_option maxHeartbeats 4000000 in
theorem name_w (s:ByteArray) (hs:s.size≤140737488355328):Good Tryz.prog 91 [St s] (Bo (namB s)):=by
 have ht:=trim_w hs
 have hcs:nmS=⟨#[97,98,99,100,101,102,103,104,105,106,107,108,109,110,111,112,113,114,115,116,117,118,119,120,121,122,48,49,50,51,52,53,54,55,56,57,95]⟩:=rfl
 rw [hcs] at ht
 cases h0:decide (s=⟨#[]⟩) with
 | true =>
  have e:namB s=false:=by unfold namB;rw [size_zero.1 (of_decide_eq_true h0)];rfl
  refine good_of Tryz.func91 rfl (by kernel_rfl) fun X hO hrd=>?_;rw [Tryz.ntmps91,Tryz.results91];simp only [ast0,List.map_cons,List.map_nil,List.length_cons,List.length_nil,Nat.reduceAdd,Nat.reduceSub,List.replicate_succ,List.replicate_zero,List.cons_append,List.nil_append]
  (repeat (with_reducible first|refine W_seq fun K hK=>?_|refine J_ret ?_|refine J_region ?_ |refine J_c ?_|refine Jc_true ?_|(refine Kont.go (by assumption) ?_)|(simp (config:={ maxSteps:=3000000 }) (disch:=omega) only [go_sem,h0])))
  rw [e];exact Frz.f _
 | false =>
  have hp:0<s.size:=by have:=mt size_zero.2 (of_decide_eq_false h0);omega
  have hp':decide (0<s.size)=true:=decide_eq_true hp
  obtain ⟨c,hc⟩:∃c,c=(s.data.toList.getD 0 0).toNat:=⟨_,rfl⟩
  by_cases h1:(12:Int)<(s.size:Int)
  ·have e:namB s=false:=by unfold namB;rw [hp',decide_eq_false (show ¬s.size≤12 by omega)];rfl
   refine good_of Tryz.func91 rfl (by kernel_rfl) fun X hO hrd=>?_;rw [Tryz.ntmps91,Tryz.results91];simp only [ast0,List.map_cons,List.map_nil,List.length_cons,List.length_nil,Nat.reduceAdd,Nat.reduceSub,List.replicate_succ,List.replicate_zero,List.cons_append,List.nil_append]
   (repeat (with_reducible first|refine W_seq fun K hK=>?_|refine J_ret ?_|refine J_region ?_ |refine J_c ?_|refine Jc_true ?_|(refine Kont.go (by assumption) ?_)|(simp (config:={ maxSteps:=3000000 }) (disch:=omega) only [go_sem,h0,h1])))
   rw [e];exact Frz.f _
  have h1':decide (s.size≤12)=true:=decide_eq_true (by omega)
  by_cases h2:(c:Int)<97
  ·have e:namB s=false:=by
    unfold namB;rw [hp',h1',←hc,show letN c=false from decide_eq_false fun h=>by omega];rfl
   refine good_of Tryz.func91 rfl (by kernel_rfl) fun X hO hrd=>?_;rw [Tryz.ntmps91,Tryz.results91];simp only [ast0,List.map_cons,List.map_nil,List.length_cons,List.length_nil,Nat.reduceAdd,Nat.reduceSub,List.replicate_succ,List.replicate_zero,List.cons_append,List.nil_append]
   (repeat (first|(with_reducible first|refine W_seq fun K hK=>?_|refine J_ret ?_|refine J_region ?_ |refine J_c ?_|refine Jc_true ?_|(refine Kont.go (by assumption) ?_)|(simp (config:={ maxSteps:=3000000 }) (disch:=omega) only [go_sem,Int.reduceLE,h0,h1,idx_str,Int.toNat_zero,←hc,h2]))|refine And.intro (by omega) ?_))
   rw [e];exact Frz.f _
  by_cases h3:(122:Int)<(c:Int)
  ·have e:namB s=false:=by
    unfold namB;rw [hp',h1',←hc,show letN c=false from decide_eq_false fun h=>by omega];rfl
   refine good_of Tryz.func91 rfl (by kernel_rfl) fun X hO hrd=>?_;rw [Tryz.ntmps91,Tryz.results91];simp only [ast0,List.map_cons,List.map_nil,List.length_cons,List.length_nil,Nat.reduceAdd,Nat.reduceSub,List.replicate_succ,List.replicate_zero,List.cons_append,List.nil_append]
   (repeat (first|(with_reducible first|refine W_seq fun K hK=>?_|refine J_ret ?_|refine J_region ?_ |refine J_c ?_|refine Jc_true ?_|(refine Kont.go (by assumption) ?_)|(simp (config:={ maxSteps:=3000000 }) (disch:=omega) only [go_sem,Int.reduceLE,h0,h1,idx_str,Int.toNat_zero,←hc,h2,h3]))|refine And.intro (by omega) ?_))
   rw [e];exact Frz.f _
  have h23:letN c=true:=decide_eq_true ⟨by omega,by omega⟩
  cases h4:decide (s=⟨#[118,97,114]⟩) with
  | true =>
   have e:namB s=false:=by unfold namB;rw [hp',h1',←hc,h23,h4];simp
   refine good_of Tryz.func91 rfl (by kernel_rfl) fun X hO hrd=>?_;rw [Tryz.ntmps91,Tryz.results91];simp only [ast0,List.map_cons,List.map_nil,List.length_cons,List.length_nil,Nat.reduceAdd,Nat.reduceSub,List.replicate_succ,List.replicate_zero,List.cons_append,List.nil_append]
   (repeat (first|(with_reducible first|refine W_seq fun K hK=>?_|refine J_ret ?_|refine J_region ?_ |refine J_c ?_|refine Jc_true ?_|(refine Kont.go (by assumption) ?_)|(simp (config:={ maxSteps:=3000000 }) (disch:=omega) only [go_sem,Int.reduceLE,h0,h1,idx_str,Int.toNat_zero,←hc,h2,h3,h4]))|refine And.intro (by omega) ?_))
   rw [e];exact Frz.f _
  | false =>
   cases h5:decide (s=⟨#[101,108,115,101]⟩) with
   | true =>
    have e:namB s=false:=by unfold namB;rw [hp',h1',←hc,h23,h4,h5];simp
    refine good_of Tryz.func91 rfl (by kernel_rfl) fun X hO hrd=>?_;rw [Tryz.ntmps91,Tryz.results91];simp only [ast0,List.map_cons,List.map_nil,List.length_cons,List.length_nil,Nat.reduceAdd,Nat.reduceSub,List.replicate_succ,List.replicate_zero,List.cons_append,List.nil_append]
    (repeat (first|(with_reducible first|refine W_seq fun K hK=>?_|refine J_ret ?_|refine J_region ?_ |refine J_c ?_|refine Jc_true ?_|(refine Kont.go (by assumption) ?_)|(simp (config:={ maxSteps:=3000000 }) (disch:=omega) only [go_sem,Int.reduceLE,h0,h1,idx_str,Int.toNat_zero,←hc,h2,h3,h4,h5]))|refine And.intro (by omega) ?_))
    rw [e];exact Frz.f _
   | false =>
    have e:namB s=s.data.toList.all (fun b=>chN b.toNat):=by unfold namB;rw [hp',h1',←hc,h23,h4,h5];simp
    have e2:decide ((⟨(Lib.trimS s.data.toList nmCs).toArray⟩:ByteArray)=⟨#[]⟩)=s.data.toList.all (fun b=>chN b.toNat):=by
     refine (Bool.eq_iff_iff.2 ?_)
     rw [decide_eq_true_iff,List.all_eq_true]
     rw [size_zero]
     constructor
     ·intro h
      have h':(Lib.trimS s.data.toList nmCs).toArray.size=0:=h
      have:(Lib.trimS s.data.toList nmCs).length=0:=by rw [List.size_toArray] at h';exact h'
      exact trim_nil.1 (List.length_eq_zero_iff.1 this)
     ·intro h
      rw [trim_nil.2 h];rfl
    refine good_of Tryz.func91 rfl (by kernel_rfl) fun X hO hrd=>?_;rw [Tryz.ntmps91,Tryz.results91];simp only [ast0,List.map_cons,List.map_nil,List.length_cons,List.length_nil,Nat.reduceAdd,Nat.reduceSub,List.replicate_succ,List.replicate_zero,List.cons_append,List.nil_append]
    (repeat (first|(with_reducible first|refine W_seq fun K hK=>?_|refine J_skip ?_|refine J_region ?_ |refine J_c ?_|refine Jc_false ?_|(refine Kont.go (by assumption) ?_)|(simp (config:={ maxSteps:=3000000 }) (disch:=omega) only [go_sem,Int.reduceLE,h0,h1,idx_str,Int.toNat_zero,←hc,h2,h3,h4,h5]))|refine And.intro (by omega) ?_))
    (first|refine call_f (ht) rfl ?_|refine callQ_f (ht) rfl ?_|refine callHK_f (ht) rfl ?_|refine callH_f (ht) rfl ?_)
    (repeat (with_reducible first|refine J_ret ?_|(refine Kont.go (by assumption) ?_)|(simp (config:={ maxSteps:=3000000 }) (disch:=omega) only [go_sem])))
    rw [e,←e2];exact Frz.f _
set_option maxRecDepth 100000 in
theorem indexS_w {l:List ByteArray} {s:ByteArray} (hl:l.length≤140737488355328):Good Tryz.prog 132 [.fz 1 (l.map St),St s] (I (frsI (fun i=>decide (s=l.getD i ⟨#[]⟩)) l.length)):=by
 refine good_of Tryz.func132 rfl (by kernel_rfl) fun X hO hrd=>?_;rw [Tryz.ntmps132,Tryz.results132];simp only [ast0,List.map_cons,List.map_nil,List.length_cons,List.length_nil,Nat.reduceAdd,Nat.reduceSub,List.replicate_succ,List.replicate_zero,List.cons_append,List.nil_append]
 (repeat (with_reducible first|refine W_seq fun K hK=>?_|refine J_block ?_|refine J_region ?_ |(refine Kont.go (by assumption) ?_)|(simp (config:={ maxSteps:=3000000 }) (disch:=omega) only [go_sem,List.length_map])))
 refine W_loop [4,5,8,9,10,11,12,13,14,15,16,17,18] (fun x:Nat=>[(8,.f (I x))]) (fun x:Nat=>[]) (fun x:Nat=>x≤l.length∧∀j,j<x→decide (s=l.getD j ⟨#[]⟩)=false) (fun x:Nat=>l.length-x) (0) (⟨Nat.zero_le _,fun j h=>by omega⟩) (by refine weak_of ?_ ?_<;>simp (disch:=omega) only [go_sem]<;>first|rfl|exact ⟨rfl,rfl⟩|exact Or.inl rfl|exact ⟨Or.inl rfl,Or.inl rfl⟩|trivial|assumption|omega|(symm;assumption)|((repeat' apply And.intro)<;>first|rfl|omega|trivial|exact .inl rfl|exact .inr ⟨rfl,rfl⟩|exact .inr rfl|(right;symm;assumption)|(symm;assumption)|assumption)) ?_
 rintro i ⟨hi,hp⟩
 simp only [go_sem]
 (repeat (with_reducible first|refine W_seq fun K hK=>?_|refine J_region ?_ |refine J_c ?_|(refine Kont.go (by assumption) ?_)|(simp (config:={ maxSteps:=3000000 }) (disch:=omega) only [go_sem])))
 refine Jc_if (fun hlt=>?_) (fun hlt=>?_)<;>try simp only [decide_eq_true_eq,decide_eq_false_iff_not] at hlt
 ·have hx:=map_get St l hlt
  have g3:l.getD i ⟨#[]⟩=l[i]:=lget_lt l ⟨#[]⟩ hlt
  cases hb:decide (s=l[i]) with
  | true =>
   have e:frsI (fun i=>decide (s=l.getD i ⟨#[]⟩)) l.length=i:=frsI_some hlt (by show decide (s=l.getD i ⟨#[]⟩)=true;rw [g3];exact hb) hp
   (repeat (with_reducible first|refine W_seq fun K hK=>?_|refine J_block ?_|refine J_skip ?_|refine J_ret ?_|refine J_region ?_ |refine J_c ?_|refine Jc_true ?_|(refine Kont.go (by assumption) ?_)|(simp (config:={ maxSteps:=3000000 }) (disch:=omega) only [go_sem,↓reduceIte,hx,hb])))
   rw [e]
   exact Frz.f _
  | false =>
   (repeat (with_reducible first|refine W_seq fun K hK=>?_|refine J_block ?_|refine J_skip ?_|refine J_region ?_ |refine J_c ?_|refine Jc_false ?_|(refine Kont.go (by assumption) ?_)|(simp (config:={ maxSteps:=3000000 }) (disch:=omega) only [go_sem,↓reduceIte,hx,hb])))
   refine ⟨i+1,⟨by omega,upto_next (p:=fun j=>decide (s=l.getD j ⟨#[]⟩)=false) hp (by rw [g3];exact hb)⟩,by omega,weak_of ?_ ?_⟩<;>(try simp (disch:=omega) only [go_sem])<;>(try first|done|omega|rfl|exact ⟨rfl,rfl⟩|trivial)
 ·have he:i=l.length:=by omega
  have e:frsI (fun i=>decide (s=l.getD i ⟨#[]⟩)) l.length=-1:=frsI_none (he▸hp)
  (repeat (with_reducible first|refine W_seq fun K hK=>?_|refine J_exit ?_|refine J_ret ?_|refine J_region ?_ |(refine Kont.go (by assumption) ?_)|(simp (config:={ maxSteps:=3000000 }) (disch:=omega) only [go_sem,↓reduceIte,Int.reduceNeg])))
  rw [e]
  exact Frz.f _
theorem first_orS (p:Nat→Bool) (n:Nat):(∀j,j<n→p j=false)∨∃i,i<n∧p i=true∧∀j,j<i→p j=false:=by
 induction n with
 | zero=>exact .inl fun j h=>by omega
 | succ n ih =>
  rcases ih with h|⟨i,h1,h2,h3⟩
  ·cases hn:p n with
   | true=>exact .inr ⟨n,by omega,hn,h⟩
   | false=>exact .inl fun j hj=>(Nat.lt_or_eq_of_le (Nat.le_of_lt_succ hj)).elim (h j) fun e=>by rw [e];exact hn
  ·exact .inr ⟨i,by omega,h2,h3⟩
theorem any_frs {l:List ByteArray} {s:ByteArray}:decide (0≤frsI (fun i=>decide (s=l.getD i ⟨#[]⟩)) l.length)=l.any fun t=>decide (t=s):=by
 rw [frsI_any]
 refine Bool.eq_iff_iff.2 ⟨fun h=>?_,fun h=>?_⟩
 ·obtain ⟨i,hi,hh⟩:=List.any_eq_true.1 h
  have hi:=List.mem_range.1 hi
  rw [lget_lt l _ hi] at hh
  exact List.any_eq_true.2 ⟨l[i],List.getElem_mem _,decide_eq_true (of_decide_eq_true hh).symm⟩
 ·obtain ⟨t,ht,hh⟩:=List.any_eq_true.1 h
  obtain ⟨i,hi,rfl⟩:=List.getElem_of_mem ht
  refine List.any_eq_true.2 ⟨i,List.mem_range.2 hi,?_⟩
  rw [lget_lt l _ hi]
  exact decide_eq_true (of_decide_eq_true hh).symm
set_option maxRecDepth 100000 in
theorem contS_w {l:List ByteArray} {s:ByteArray} (hl:l.length≤140737488355328):Good Tryz.prog 92 [.fz 1 (l.map St),St s] (Bo (l.any fun t=>decide (t=s))):=by
 have h:=indexS_w (s:=s) hl
 rw [←any_frs]
 refine good_of Tryz.func92 rfl (by kernel_rfl) fun X hO hrd=>?_;rw [Tryz.ntmps92,Tryz.results92];simp only [ast0,List.map_cons,List.map_nil,List.length_cons,List.length_nil,Nat.reduceAdd,Nat.reduceSub,List.replicate_succ,List.replicate_zero,List.cons_append,List.nil_append]
 (repeat (with_reducible first|refine W_seq fun K hK=>?_|refine J_region ?_ |(refine Kont.go (by assumption) ?_)|(simp (config:={ maxSteps:=3000000 }) (disch:=omega) only [go_sem])))
 refine call_f h rfl ?_
 (repeat (with_reducible first|refine J_ret ?_|exact Frz.f _|(refine Kont.go (by assumption) ?_)|(simp (config:={ maxSteps:=3000000 }) (disch:=omega) only [go_sem])))
theorem namF_no {l:List ByteArray} {x:Nat} (h:namB (l.getD x ⟨#[]⟩)=false):namF l x=4:=by unfold namF;rw [h];rfl
theorem namF_yes {l:List ByteArray} {x:Nat} (h:namB (l.getD x ⟨#[]⟩)=true):namF l x=if ((l.take x).any fun t=>decide (t=l.getD x ⟨#[]⟩))=true then 7 else 0:=by unfold namF;rw [if_pos h]
set_option maxRecDepth 100000 in
set_option maxHeartbeats 4000000 in
theorem names_w (l:List ByteArray) (hl:l.length≤1000000) (hs:∀s∈l,s.size≤140737488355328):Good Tryz.prog 51 [.fz 1 (l.map St)] (I (namesE l)):=by
 refine good_of Tryz.func51 rfl (by kernel_rfl) fun X hO hrd=>?_;rw [Tryz.ntmps51,Tryz.results51];simp only [ast0,List.map_cons,List.map_nil,List.length_cons,List.length_nil,Nat.reduceAdd,Nat.reduceSub,List.replicate_succ,List.replicate_zero,List.cons_append,List.nil_append]
 (repeat (with_reducible first|refine W_seq fun K hK=>?_|refine J_block ?_|refine J_region ?_ |(refine Kont.go (by assumption) ?_)|(simp (config:={ maxSteps:=3000000 }) (disch:=omega) only [go_sem,List.length_map])))
 refine W_loop [2,3,4,7,8,9,10,11,12,13,14,15,16,17,18,19,20,21,22] (fun x:Nat=>[(7,.f (I x))]) (fun x:Nat=>[]) (fun x:Nat=>x≤l.length∧fe (namF l) x=0) (fun x:Nat=>l.length-x) (0) (⟨Nat.zero_le _,rfl⟩) (by refine weak_of ?_ ?_<;>simp (disch:=omega) only [go_sem]<;>first|rfl|exact ⟨rfl,rfl⟩|exact Or.inl rfl|exact ⟨Or.inl rfl,Or.inl rfl⟩|trivial|assumption|omega|(symm;assumption)|((repeat' apply And.intro)<;>first|rfl|omega|trivial|exact .inl rfl|exact .inr ⟨rfl,rfl⟩|exact .inr rfl|(right;symm;assumption)|(symm;assumption)|assumption)) ?_
 rintro x ⟨hx,hf⟩
 simp only [go_sem]
 (repeat (with_reducible first|refine W_seq fun K hK=>?_|refine J_region ?_ |refine J_c ?_|(refine Kont.go (by assumption) ?_)|(simp (config:={ maxSteps:=3000000 }) (disch:=omega) only [go_sem])))
 refine Jc_if (fun hxl=>?_) (fun hxl=>?_)<;>try simp only [decide_eq_true_eq,decide_eq_false_iff_not] at hxl
 ·have g1:=map_get St l hxl
  have g3:l.getD x ⟨#[]⟩=l[x]:=lget_lt l ⟨#[]⟩ hxl
  have hn:=name_w l[x] (hs _ (List.getElem_mem _))
  have hct:=contS_w (l:=l.take x) (s:=l[x]) (by rw [List.length_take];omega)
  have htk:(l.map St).take x=(l.take x).map St:=by rw [List.map_take]
  (repeat (with_reducible first|refine W_seq fun K hK=>?_|refine J_block ?_|refine J_skip ?_|refine J_region ?_ |(refine Kont.go (by assumption) ?_)|(simp (config:={ maxSteps:=3000000 }) (disch:=omega) only [go_sem,↓reduceIte,g1])))
  (first|refine call_f (hn) rfl ?_|refine callQ_f (hn) rfl ?_|refine callHK_f (hn) rfl ?_|refine callH_f (hn) rfl ?_)
  cases hb:namB l[x] with
  | false =>
   have e:=namF_no (l:=l) (x:=x) (by rw [g3];exact hb)
   have e2:namesE l=4:=by unfold namesE;rw [fe_at hf (by rw [e];decide) hxl,e]
   (repeat (with_reducible first|refine W_seq fun K hK=>?_|refine J_ret ?_|refine J_region ?_ |refine J_c ?_|refine Jc_true ?_|(refine Kont.go (by assumption) ?_)|(simp (config:={ maxSteps:=3000000 }) (disch:=omega) only [go_sem])))
   rw [e2];exact Frz.f _
  | true =>
   have e:=namF_yes (l:=l) (x:=x) (by rw [g3];exact hb)
   rw [g3] at e
   (repeat (first|(with_reducible first|refine W_seq fun K hK=>?_|refine J_region ?_ |refine J_c ?_|refine Jc_false ?_|(refine Kont.go (by assumption) ?_)|(simp (config:={ maxSteps:=3000000 }) (disch:=omega) only [go_sem,Int.reduceLE,List.length_map,List.drop_zero,Int.toNat_natCast,Int.sub_zero,htk]))|refine And.intro (by omega) ?_))
   (first|refine call_f (hct) rfl ?_|refine callQ_f (hct) rfl ?_|refine callHK_f (hct) rfl ?_|refine callH_f (hct) rfl ?_)
   cases hc:(l.take x).any fun t=>decide (t=l[x]) with
   | true =>
    rw [hc,if_pos rfl] at e
    have e2:namesE l=7:=by unfold namesE;rw [fe_at hf (by rw [e];decide) hxl,e]
    (repeat (with_reducible first|refine W_seq fun K hK=>?_|refine J_ret ?_|refine J_region ?_ |refine J_c ?_|refine Jc_true ?_|(refine Kont.go (by assumption) ?_)|(simp (config:={ maxSteps:=3000000 }) (disch:=omega) only [go_sem])))
    rw [e2];exact Frz.f _
   | false =>
    rw [hc,if_neg (by decide)] at e
    (repeat (with_reducible first|refine J_skip ?_|refine J_region ?_ |refine J_c ?_|refine Jc_false ?_|(refine Kont.go (by assumption) ?_)|(simp (config:={ maxSteps:=3000000 }) (disch:=omega) only [go_sem])))
    refine ⟨x+1,⟨by omega,by rw [fe_next hf,e]⟩,by omega,weak_of ?_ ?_⟩<;>(try simp (disch:=omega) only [go_sem])<;>(try first|done|omega|rfl|exact ⟨rfl,rfl⟩|trivial)
 ·have he:x=l.length:=by omega
  subst he
  have e2:namesE l=0:=hf
  (repeat (with_reducible first|refine W_seq fun K hK=>?_|refine J_exit ?_|refine J_ret ?_|refine J_region ?_ |(refine Kont.go (by assumption) ?_)|(simp (config:={ maxSteps:=3000000 }) (disch:=omega) only [go_sem,↓reduceIte])))
  rw [e2];exact Frz.f _
set_option maxRecDepth 100000 in
theorem hasS_w (l:List ByteArray) (s:ByteArray) (hl:l.length≤1000000):Good Tryz.prog 97 [.fz 1 (l.map St),St s] (I (frsI (fun i=>decide (l.getD i ⟨#[]⟩=s)) l.length)):=by
 refine good_of Tryz.func97 rfl (by kernel_rfl) fun X hO hrd=>?_;rw [Tryz.ntmps97,Tryz.results97];simp only [ast0,List.map_cons,List.map_nil,List.length_cons,List.length_nil,Nat.reduceAdd,Nat.reduceSub,List.replicate_succ,List.replicate_zero,List.cons_append,List.nil_append]
 (repeat (with_reducible first|refine W_seq fun K hK=>?_|refine J_block ?_|refine J_region ?_ |(refine Kont.go (by assumption) ?_)|(simp (config:={ maxSteps:=3000000 }) (disch:=omega) only [go_sem])))
 refine W_loop [4,5,6,7,8,9,10,11,12,13,14,15,16,17,18] (fun x:Nat=>[(5,.f (I x))]) (fun x:Nat=>[]) (fun x:Nat=>x≤l.length∧∀j,j<x→decide (l.getD j ⟨#[]⟩=s)=false) (fun x:Nat=>l.length-x) (0) (⟨Nat.zero_le _,fun j h=>by omega⟩) (by refine weak_of ?_ ?_<;>simp (disch:=omega) only [go_sem]<;>first|rfl|exact ⟨rfl,rfl⟩|exact Or.inl rfl|exact ⟨Or.inl rfl,Or.inl rfl⟩|trivial|assumption|omega|(symm;assumption)|((repeat' apply And.intro)<;>first|rfl|omega|trivial|exact .inl rfl|exact .inr ⟨rfl,rfl⟩|exact .inr rfl|(right;symm;assumption)|(symm;assumption)|assumption)) ?_
 rintro i ⟨hi,hp⟩
 simp only [go_sem]
 (repeat (with_reducible first|refine W_seq fun K hK=>?_|refine J_region ?_ |refine J_c ?_|(refine Kont.go (by assumption) ?_)|(simp (config:={ maxSteps:=3000000 }) (disch:=omega) only [go_sem,List.length_map])))
 refine Jc_if (fun hlt=>?_) (fun hlt=>?_)<;>try simp only [decide_eq_true_eq,decide_eq_false_iff_not] at hlt
 ·have hx:=map_get St l hlt
  have g3:l.getD i ⟨#[]⟩=l[i]:=lget_lt l ⟨#[]⟩ hlt
  cases hb:decide (l[i]=s) with
  | true =>
   have e:frsI (fun i=>decide (l.getD i ⟨#[]⟩=s)) l.length=i:=frsI_some hlt (by show decide (l.getD i ⟨#[]⟩=s)=true;rw [g3];exact hb) hp
   (repeat (with_reducible first|refine W_seq fun K hK=>?_|refine J_block ?_|refine J_skip ?_|refine J_ret ?_|refine J_region ?_ |refine J_c ?_|refine Jc_true ?_|(refine Kont.go (by assumption) ?_)|(simp (config:={ maxSteps:=3000000 }) (disch:=omega) only [go_sem,↓reduceIte,hx,hb])))
   rw [e]
   exact Frz.f _
  | false =>
   (repeat (with_reducible first|refine W_seq fun K hK=>?_|refine J_block ?_|refine J_skip ?_|refine J_region ?_ |refine J_c ?_|refine Jc_false ?_|(refine Kont.go (by assumption) ?_)|(simp (config:={ maxSteps:=3000000 }) (disch:=omega) only [go_sem,↓reduceIte,hx,hb])))
   refine ⟨i+1,⟨by omega,upto_next (p:=fun j=>decide (l.getD j ⟨#[]⟩=s)=false) hp (by rw [g3];exact hb)⟩,by omega,weak_of ?_ ?_⟩<;>(try simp (disch:=omega) only [go_sem])<;>(try first|done|omega|rfl|exact ⟨rfl,rfl⟩|trivial)
 ·have he:i=l.length:=by omega
  have e:frsI (fun i=>decide (l.getD i ⟨#[]⟩=s)) l.length=-1:=frsI_none (he▸hp)
  (repeat (with_reducible first|refine W_seq fun K hK=>?_|refine J_exit ?_|refine J_ret ?_|refine J_region ?_ |(refine Kont.go (by assumption) ?_)|(simp (config:={ maxSteps:=3000000 }) (disch:=omega) only [go_sem,↓reduceIte,Int.reduceNeg])))
  rw [e]
  exact Frz.f _
theorem hasS_at {l:List ByteArray} {x:Nat} (hx:x<l.length):(if ((l.take x).any fun t=>decide (t=l[x]))=true then frsI (fun i=>decide (l.getD i ⟨#[]⟩=l[x])) l.length<x else frsI (fun i=>decide (l.getD i ⟨#[]⟩=l[x])) l.length=x):=by
 split
 ·rename_i h
  obtain ⟨t,ht,e⟩:=List.any_eq_true.1 h
  have e:=of_decide_eq_true e
  obtain ⟨j,hj,ej⟩:=List.getElem_of_mem ht
  rw [List.length_take] at hj
  rw [List.getElem_take] at ej
  rcases first_orS (fun i=>decide (l.getD i ⟨#[]⟩=l[x])) x with hno|⟨i,hi,hp,hlo⟩
  ·have:=hno j (by omega)
   rw [lget_lt l _ (by omega),ej,e] at this
   simp at this
  ·rw [frsI_some (by omega) hp hlo];omega
 ·rename_i h
  refine frsI_some hx (decide_eq_true (lget_lt l _ hx)) fun j hj=>decide_eq_false fun e=>h ?_
  rw [lget_lt l _ (by omega)] at e
  refine List.any_eq_true.2 ⟨l[j],?_,decide_eq_true e⟩
  have:(l.take x)[j]'(by rw [List.length_take];omega)=l[j]:=List.getElem_take
  rw [←this];exact List.getElem_mem _
set_option maxRecDepth 100000 in
set_option maxHeartbeats 4000000 in
theorem namesOK_w (l:List ByteArray) (hl:l.length≤1000000) (hs:∀s∈l,s.size≤140737488355328):Good Tryz.prog 54 [.fz 1 (l.map St)] (I (namesE l)):=by
 refine good_of Tryz.func54 rfl (by kernel_rfl) fun X hO hrd=>?_;rw [Tryz.ntmps54,Tryz.results54];simp only [ast0,List.map_cons,List.map_nil,List.length_cons,List.length_nil,Nat.reduceAdd,Nat.reduceSub,List.replicate_succ,List.replicate_zero,List.cons_append,List.nil_append]
 (repeat (with_reducible first|refine W_seq fun K hK=>?_|refine J_block ?_|refine J_region ?_ |(refine Kont.go (by assumption) ?_)|(simp (config:={ maxSteps:=3000000 }) (disch:=omega) only [go_sem])))
 refine W_loop [2,3,4,5,6,7,8,9,10,11,12,13,14,15,16,17,18,19,20,21,22,23,24,25,26,27] (fun x:Nat=>[(3,.f (I x))]) (fun x:Nat=>[]) (fun x:Nat=>x≤l.length∧fe (namF l) x=0) (fun x:Nat=>l.length-x) (0) (⟨Nat.zero_le _,rfl⟩) (by refine weak_of ?_ ?_<;>simp (disch:=omega) only [go_sem]<;>first|rfl|exact ⟨rfl,rfl⟩|exact Or.inl rfl|exact ⟨Or.inl rfl,Or.inl rfl⟩|trivial|assumption|omega|(symm;assumption)|((repeat' apply And.intro)<;>first|rfl|omega|trivial|exact .inl rfl|exact .inr ⟨rfl,rfl⟩|exact .inr rfl|(right;symm;assumption)|(symm;assumption)|assumption)) ?_
 rintro x ⟨hx,hf⟩
 simp only [go_sem]
 (repeat (with_reducible first|refine W_seq fun K hK=>?_|refine J_region ?_ |refine J_c ?_|(refine Kont.go (by assumption) ?_)|(simp (config:={ maxSteps:=3000000 }) (disch:=omega) only [go_sem,List.length_map])))
 refine Jc_if (fun hxl=>?_) (fun hxl=>?_)<;>try simp only [decide_eq_true_eq,decide_eq_false_iff_not] at hxl
 ·have g1:=map_get St l hxl
  have g3:l.getD x ⟨#[]⟩=l[x]:=lget_lt l ⟨#[]⟩ hxl
  have hn:=isName_w l[x] (hs _ (List.getElem_mem _))
  have hh:=hasS_w l l[x] hl
  have hat:=hasS_at hxl
  (repeat (with_reducible first|refine W_seq fun K hK=>?_|refine J_block ?_|refine J_skip ?_|refine J_region ?_ |(refine Kont.go (by assumption) ?_)|(simp (config:={ maxSteps:=3000000 }) (disch:=omega) only [go_sem,↓reduceIte,g1,hxl])))
  (first|refine call_f (hn) rfl ?_|refine callQ_f (hn) rfl ?_|refine callHK_f (hn) rfl ?_|refine callH_f (hn) rfl ?_)
  cases hb:namB l[x] with
  | false =>
   have e:=namF_no (l:=l) (x:=x) (by rw [g3];exact hb)
   have e2:namesE l=4:=by unfold namesE;rw [fe_at hf (by rw [e];decide) hxl,e]
   (repeat (with_reducible first|refine W_seq fun K hK=>?_|refine J_ret ?_|refine J_region ?_ |refine J_c ?_|refine Jc_true ?_|(refine Kont.go (by assumption) ?_)|(simp (config:={ maxSteps:=3000000 }) (disch:=omega) only [go_sem])))
   rw [e2];exact Frz.f _
  | true =>
   have e:=namF_yes (l:=l) (x:=x) (by rw [g3];exact hb)
   rw [g3] at e
   (repeat (with_reducible first|refine W_seq fun K hK=>?_|refine J_skip ?_|refine J_region ?_ |refine J_c ?_|refine Jc_false ?_|(refine Kont.go (by assumption) ?_)|(simp (config:={ maxSteps:=3000000 }) (disch:=omega) only [go_sem,↓reduceIte,g1])))
   (first|refine call_f (hh) rfl ?_|refine callQ_f (hh) rfl ?_|refine callHK_f (hh) rfl ?_|refine callH_f (hh) rfl ?_)
   cases hc:(l.take x).any fun t=>decide (t=l[x]) with
   | true =>
    rw [hc,if_pos rfl] at e hat
    have e2:namesE l=7:=by unfold namesE;rw [fe_at hf (by rw [e];decide) hxl,e]
    (repeat (with_reducible first|refine W_seq fun K hK=>?_|refine J_ret ?_|refine J_region ?_ |refine J_c ?_|refine Jc_true ?_|(refine Kont.go (by assumption) ?_)|(simp (config:={ maxSteps:=3000000 }) (disch:=omega) only [go_sem,hat])))
    rw [e2];exact Frz.f _
   | false =>
    rw [hc,if_neg (by decide)] at e hat
    have hat':¬frsI (fun i=>decide (l.getD i ⟨#[]⟩=l[x])) l.length<(x:Int):=by omega
    (repeat (with_reducible first|refine W_seq fun K hK=>?_|refine J_skip ?_|refine J_region ?_ |refine J_c ?_|refine Jc_false ?_|(refine Kont.go (by assumption) ?_)|(simp (config:={ maxSteps:=3000000 }) (disch:=omega) only [go_sem,hat'])))
    refine ⟨x+1,⟨by omega,by rw [fe_next hf,e]⟩,by omega,weak_of ?_ ?_⟩<;>(try simp (disch:=omega) only [go_sem])<;>(try first|done|omega|rfl|exact ⟨rfl,rfl⟩|trivial)
 ·have he:x=l.length:=by omega
  subst he
  have e2:namesE l=0:=hf
  (repeat (with_reducible first|refine W_seq fun K hK=>?_|refine J_exit ?_|refine J_ret ?_|refine J_region ?_ |(refine Kont.go (by assumption) ?_)|(simp (config:={ maxSteps:=3000000 }) (disch:=omega) only [go_sem,↓reduceIte])))
  rw [e2];exact Frz.f _
end Go.Proofs.YthehegidpamldaaGreatDoor
