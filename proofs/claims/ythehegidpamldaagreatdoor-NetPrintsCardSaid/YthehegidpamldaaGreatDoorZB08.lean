/- The abstract machine, fourteenth part: contracts over values alone, and fractions. Conditions: none. -/
import Derived.Test.YthehegidpamldaaGreatDoorZAmM
import Derived.Test.YthehegidpamldaaGreatDoorZFracOne
import Derived.Test.YthehegidpamldaaGreatDoorProg
set_option linter.unusedVariables false
set_option linter.unusedSimpArgs false
namespace Go.Proofs.YthehegidpamldaaGreatDoor
open Go Go.RowKit

theorem vals_repf {w:World} {F:Nat→Prop}:∀{cs:List FV} {l:List Value},vals cs=some l→cs.length=l.length∧∀(j:Nat) c,cs[j]?=some c→RepF w F c (l.toArray.getD j undef)
 | [],l,h=>by cases h;exact ⟨rfl,fun j c h=>by simp at h⟩
 | .v x::cs,l,h=>by
  unfold vals at h
  cases hv:vals cs with
  | none=>rw [hv] at h;cases h
  | some l' =>
   rw [hv] at h
   cases h
   obtain ⟨h1,h2⟩:=vals_repf (w:=w) (F:=F) hv
   refine ⟨by simp [h1],fun j c hj=>?_⟩
   cases j with
   | zero=>simp at hj;subst hj;exact .v x
   | succ j =>
    have:=h2 j c (by simpa using hj)
    have e:(x::l').toArray.getD (j+1) undef=l'.toArray.getD j undef:=by simp [Array.getD_eq_getD_getElem?]
    rw [e];exact this
 | .agg _::_,l,h=>by cases h
 | .tup _::_,l,h=>by cases h
 | .fz _ _::_,l,h=>by cases h
 | .fp _ _::_,l,h=>by cases h
 | .fn _ _ _::_,l,h=>by cases h
theorem val_repf {w:World} {F:Nat→Prop} {x:FV} {v:Value} (h:x.val=some v):RepF w F x v:=by
 cases x with
 | v x=>cases h;exact .v _
 | agg cs =>
  replace h:(vals cs).map (fun l=>Value.agg l.toArray)=some v:=h
  cases hv:vals cs with
  | none=>rw [hv] at h;cases h
  | some l =>
   rw [hv] at h
   cases h
   obtain ⟨h1,h2⟩:=vals_repf (w:=w) (F:=F) hv
   exact .agg cs _ (by simpa using h1) h2
 | _=>cases h
def FV.val2:FV→Option Value
 | .tup cs=>(cs.mapM FV.val).map fun l=>.tuple l.toArray
 | x=>x.val
theorem mapM_vals {w:World} {F:Nat→Prop}:∀{cs:List FV} {l:List Value},cs.mapM FV.val=some l→cs.length=l.length∧(∀(j:Nat) c,cs[j]?=some c→RepF w F c (l.toArray.getD j undef))∧∀ys:Array Value,cs.length=ys.size→(∀(j:Nat) c,cs[j]?=some c→RepF w F c (ys.getD j undef))→ys.toList=l
 | [],l,h=>by
  cases h
  refine ⟨rfl,fun j c h=>by simp at h,fun ys hl _=>?_⟩
  simpa using hl.symm
 | x::cs,l,h=>by
  rw [List.mapM_cons] at h
  cases hx:x.val with
  | none=>rw [hx] at h;cases h
  | some v =>
   rw [hx] at h
   cases hv:cs.mapM FV.val with
   | none=>rw [hv] at h;cases h
   | some l' =>
    rw [hv] at h
    cases h
    obtain ⟨h1,h2,h3⟩:=mapM_vals (w:=w) (F:=F) hv
    refine ⟨by simp [h1],fun j c hj=>?_,fun ys hl hr=>?_⟩
    ·cases j with
     | zero=>simp at hj;subst hj;exact val_repf hx
     | succ j =>
      have:=h2 j c (by simpa using hj)
      have e:(v::l').toArray.getD (j+1) undef=l'.toArray.getD j undef:=by simp [Array.getD_eq_getD_getElem?]
      rw [e];exact this
    ·obtain ⟨ys⟩:=ys
     cases ys with
     | nil=>simp at hl
     | cons y ys =>
      have h0:=hr 0 x rfl
      have e0:(y::ys).toArray.getD 0 undef=y:=rfl
      rw [e0] at h0
      have:=val_rep hx h0
      subst this
      have:=h3 ys.toArray (by simpa using hl) (fun j c hj=>by
       have:=hr (j+1) c (by simpa using hj)
       have e:(y::ys).toArray.getD (j+1) undef=ys.toArray.getD j undef:=by simp [Array.getD_eq_getD_getElem?]
       rwa [e] at this)
      show y::ys=y::l'
      rw [←this]
theorem val2_repf {w:World} {F:Nat→Prop} {x:FV} {v:Value} (h:x.val2=some v):RepF w F x v:=by
 by_cases ht:∃cs,x=.tup cs
 ·obtain ⟨cs,rfl⟩:=ht
  replace h:(cs.mapM FV.val).map (fun l=>Value.tuple l.toArray)=some v:=h
  cases hv:cs.mapM FV.val with
  | none=>rw [hv] at h;cases h
  | some l =>
   rw [hv] at h
   cases h
   obtain ⟨h1,h2,_⟩:=mapM_vals (w:=w) (F:=F) hv
   exact .tup cs _ (by simpa using h1) h2
 ·have:x.val=some v:=by cases x<;>first|exact h|exact absurd ⟨_,rfl⟩ ht
  exact val_repf this
theorem good_calls {P:Program} {f:FuncId} {xs:List FV} {r:FV} {args:List Value} {v:Value} (hok:enterOk P f=true) (hx:xs.mapM FV.val=some args) (hr:r.val2=some v)
  (h:∀w,Calls P f args.toArray w fun e w'=>e=.returned v∧Below w.heap.size w w'):Good P f xs r:=by
 refine ⟨hok,fun w G ys _ hG hrep=>?_⟩
 obtain ⟨_,_,h3⟩:=mapM_vals (w:=w) (F:=G) hx
 have:=h3 ys hrep.1 hrep.2
 have e:ys=args.toArray:=by rw [←this]
 rw [e]
 exact (h w).mono fun e w' ⟨he,hb⟩=>⟨v,he,⟨hb.os,hb.tape,hb.output,hb.size,fun k hk _=>hb.block k hk⟩,val2_repf hr⟩
def fr (q:Rat):FV:=.agg [.v (.bool (cg q)),.v (.string (cn q)),.v (.string (cd q))]
abbrev frs (l:List Rat):FV:=.fz 3 (l.map fr)
abbrev I (n:Int):FV:=.v (.int .i64 n)
abbrev Bo (b:Bool):FV:=.v (.bool b)
abbrev ints (l:List Int):FV:=.fz 1 (l.map I)
theorem of_good {n:Int} (h0:-9223372036854775808≤n) (h1:n≤9223372036854775807):Good Tryz.prog 46 [I n] (fr (n:Rat)) :=
 good_calls (by kernel_rfl) rfl rfl fun w=>fof_g h0 h1 w
theorem fr_cells (q:Rat):(fr q).cells=[.v (.bool (cg q)),.v (.string (cn q)),.v (.string (cd q))]:=(rfl)
theorem fr_st (q:Rat):(fr q).st=true:=(rfl)
theorem fr_isA (q:Rat):(fr q).isA=true:=(rfl)
theorem lget_lt {α:Type} (l:List α) (d:α) {i:Nat} (h:i<l.length):l.getD i d=l[i]:=by rw [List.getD_eq_getElem?_getD,List.getElem?_eq_getElem h];rfl
attribute [go_sem] fr_cells fr_st fr_isA
end Go.Proofs.YthehegidpamldaaGreatDoor
set_option linter.unusedVariables false
namespace Go.Proofs.YthehegidpamldaaGreatDoor
open Go
@[go_sem] theorem ti2:tI Tryz.prog 2=some ⟨false,1,8,some (.v (.int .i64 0)),[],false,[]⟩:=by kernel_rfl
@[go_sem] theorem ti3:tI Tryz.prog 3=some ⟨false,1,8,some (.v (.int .i64 0)),[],false,[]⟩:=by kernel_rfl
@[go_sem] theorem ti4:tI Tryz.prog 4=some ⟨false,1,1,some (.v (.bool false)),[],false,[]⟩:=by kernel_rfl
@[go_sem] theorem ti5:tI Tryz.prog 5=some ⟨false,1,1,some (.v (.int .u8 0)),[],false,[]⟩:=by kernel_rfl
@[go_sem] theorem ti6:tI Tryz.prog 6=some ⟨false,1,1,some (.v (.int .u8 0)),[],false,[]⟩:=by kernel_rfl
@[go_sem] theorem ti7:tI Tryz.prog 7=some ⟨true,4,24,some (.agg [.v (.int .i64 0),.v (.int .i64 0),.v (.bool false),.v (.int .u8 0)]),[some 0,some 1,some 2,some 3],false,[1,1,1,1]⟩:=by kernel_rfl
@[go_sem] theorem fo7:fieldsOk Tryz.prog 7=true:=by kernel_rfl
@[go_sem] theorem ti8:tI Tryz.prog 8=some ⟨true,4,24,some (.agg [.v (.int .i64 0),.v (.int .i64 0),.v (.bool false),.v (.int .u8 0)]),[some 0,some 1,some 2,some 3],false,[1,1,1,1]⟩:=by kernel_rfl
@[go_sem] theorem fo8:fieldsOk Tryz.prog 8=true:=by kernel_rfl
@[go_sem] theorem ti9:tI Tryz.prog 9=some ⟨false,1,16,some (.v (.string ⟨#[]⟩)),[],true,[]⟩:=by kernel_rfl
@[go_sem] theorem ti10:tI Tryz.prog 10=some ⟨false,1,16,some (.v (.string ⟨#[]⟩)),[],true,[]⟩:=by kernel_rfl
@[go_sem] theorem ti11:tI Tryz.prog 11=some ⟨false,1,16,some (.v (.string ⟨#[]⟩)),[],true,[]⟩:=by kernel_rfl
@[go_sem] theorem ti12:tI Tryz.prog 12=some ⟨false,1,8,some (.v (.int .u64 0)),[],false,[]⟩:=by kernel_rfl
@[go_sem] theorem ti13:tI Tryz.prog 13=some ⟨true,2,24,some (.agg [.v (.string ⟨#[]⟩),.v (.int .u64 0)]),[some 0,some 1],false,[1,1]⟩:=by kernel_rfl
@[go_sem] theorem fo13:fieldsOk Tryz.prog 13=true:=by kernel_rfl
@[go_sem] theorem ti14:tI Tryz.prog 14=some ⟨true,2,24,some (.agg [.v (.string ⟨#[]⟩),.v (.int .u64 0)]),[some 0,some 1],false,[1,1]⟩:=by kernel_rfl
@[go_sem] theorem fo14:fieldsOk Tryz.prog 14=true:=by kernel_rfl
@[go_sem] theorem ti15:tI Tryz.prog 15=some ⟨false,1,8,some (.v (.pointer none)),[],false,[]⟩:=by kernel_rfl
@[go_sem] theorem ti16:tI Tryz.prog 16=some ⟨false,1,8,some (.v (.pointer none)),[],false,[]⟩:=by kernel_rfl
@[go_sem] theorem ti17:tI Tryz.prog 17=some ⟨false,1,8,some (.v (.pointer none)),[],false,[]⟩:=by kernel_rfl
@[go_sem] theorem ti18:tI Tryz.prog 18=some ⟨true,1,8,some (.agg [.v (.pointer none)]),[some 0],false,[1]⟩:=by kernel_rfl
@[go_sem] theorem fo18:fieldsOk Tryz.prog 18=true:=by kernel_rfl
@[go_sem] theorem ti19:tI Tryz.prog 19=some ⟨true,1,8,some (.agg [.v (.pointer none)]),[some 0],false,[1]⟩:=by kernel_rfl
@[go_sem] theorem fo19:fieldsOk Tryz.prog 19=true:=by kernel_rfl
@[go_sem] theorem ti21:tI Tryz.prog 21=some ⟨false,1,4,some (.v (.int .i32 0)),[],false,[]⟩:=by kernel_rfl
@[go_sem] theorem ti22:tI Tryz.prog 22=some ⟨false,1,24,some (.v (.slice none 0 0)),[],false,[]⟩:=by kernel_rfl
@[go_sem] theorem ti23:tI Tryz.prog 23=some ⟨false,1,24,some (.v (.slice none 0 0)),[],false,[]⟩:=by kernel_rfl
@[go_sem] theorem ti24:tI Tryz.prog 24=some ⟨false,1,24,some (.v (.slice none 0 0)),[],false,[]⟩:=by kernel_rfl
@[go_sem] theorem ti25:tI Tryz.prog 25=some ⟨true,3,72,some (.agg [.v (.slice none 0 0),.v (.slice none 0 0),.v (.slice none 0 0)]),[some 0,some 1,some 2],false,[1,1,1]⟩:=by kernel_rfl
@[go_sem] theorem fo25:fieldsOk Tryz.prog 25=true:=by kernel_rfl
@[go_sem] theorem ti26:tI Tryz.prog 26=some ⟨true,3,72,some (.agg [.v (.slice none 0 0),.v (.slice none 0 0),.v (.slice none 0 0)]),[some 0,some 1,some 2],false,[1,1,1]⟩:=by kernel_rfl
@[go_sem] theorem fo26:fieldsOk Tryz.prog 26=true:=by kernel_rfl
@[go_sem] theorem ti28:tI Tryz.prog 28=some ⟨false,1,8,some (.v (.int .i64 0)),[],false,[]⟩:=by kernel_rfl
@[go_sem] theorem ti31:tI Tryz.prog 31=some ⟨false,1,24,some (.v (.slice none 0 0)),[],false,[]⟩:=by kernel_rfl
@[go_sem] theorem ti32:tI Tryz.prog 32=some ⟨false,1,24,some (.v (.slice none 0 0)),[],false,[]⟩:=by kernel_rfl
@[go_sem] theorem ti33:tI Tryz.prog 33=some ⟨true,2,48,some (.agg [.v (.slice none 0 0),.v (.slice none 0 0)]),[some 0,some 1],false,[1,1]⟩:=by kernel_rfl
@[go_sem] theorem fo33:fieldsOk Tryz.prog 33=true:=by kernel_rfl
@[go_sem] theorem ti34:tI Tryz.prog 34=some ⟨true,2,48,some (.agg [.v (.slice none 0 0),.v (.slice none 0 0)]),[some 0,some 1],false,[1,1]⟩:=by kernel_rfl
@[go_sem] theorem fo34:fieldsOk Tryz.prog 34=true:=by kernel_rfl
@[go_sem] theorem ti37:tI Tryz.prog 37=some ⟨false,1,16,some (.v (.string ⟨#[]⟩)),[],true,[]⟩:=by kernel_rfl
@[go_sem] theorem ti38:tI Tryz.prog 38=some ⟨true,3,40,some (.agg [.v (.bool false),.v (.string ⟨#[]⟩),.v (.string ⟨#[]⟩)]),[some 0,some 1,some 2],false,[1,1,1]⟩:=by kernel_rfl
@[go_sem] theorem fo38:fieldsOk Tryz.prog 38=true:=by kernel_rfl
@[go_sem] theorem ti39:tI Tryz.prog 39=some ⟨true,3,40,some (.agg [.v (.bool false),.v (.string ⟨#[]⟩),.v (.string ⟨#[]⟩)]),[some 0,some 1,some 2],false,[1,1,1]⟩:=by kernel_rfl
@[go_sem] theorem fo39:fieldsOk Tryz.prog 39=true:=by kernel_rfl
@[go_sem] theorem ti48:tI Tryz.prog 48=some ⟨true,4,80,some (.agg [.v (.slice none 0 0),.v (.slice none 0 0),.v (.slice none 0 0),.v (.bool false)]),[some 0,some 1,some 2,some 3],false,[1,1,1,1]⟩:=by kernel_rfl
@[go_sem] theorem fo48:fieldsOk Tryz.prog 48=true:=by kernel_rfl
@[go_sem] theorem ti49:tI Tryz.prog 49=some ⟨true,4,80,some (.agg [.v (.slice none 0 0),.v (.slice none 0 0),.v (.slice none 0 0),.v (.bool false)]),[some 0,some 1,some 2,some 3],false,[1,1,1,1]⟩:=by kernel_rfl
@[go_sem] theorem fo49:fieldsOk Tryz.prog 49=true:=by kernel_rfl
@[go_sem] theorem ti61:tI Tryz.prog 61=some ⟨false,1,24,some (.v (.slice none 0 0)),[],false,[]⟩:=by kernel_rfl
@[go_sem] theorem ti62:tI Tryz.prog 62=some ⟨true,2,40,some (.agg [.v (.string ⟨#[]⟩),.v (.slice none 0 0)]),[some 0,some 1],false,[1,1]⟩:=by kernel_rfl
@[go_sem] theorem fo62:fieldsOk Tryz.prog 62=true:=by kernel_rfl
@[go_sem] theorem ti63:tI Tryz.prog 63=some ⟨true,2,40,some (.agg [.v (.string ⟨#[]⟩),.v (.slice none 0 0)]),[some 0,some 1],false,[1,1]⟩:=by kernel_rfl
@[go_sem] theorem fo63:fieldsOk Tryz.prog 63=true:=by kernel_rfl
@[go_sem] theorem ti65:tI Tryz.prog 65=some ⟨false,1,8,some (.v (.pointer none)),[],false,[]⟩:=by kernel_rfl
@[go_sem] theorem ti66:tI Tryz.prog 66=some ⟨false,1,24,some (.v (.slice none 0 0)),[],false,[]⟩:=by kernel_rfl
@[go_sem] theorem ti67:tI Tryz.prog 67=some ⟨true,2,32,some (.agg [.v (.pointer none),.v (.slice none 0 0)]),[some 0,some 1],false,[1,1]⟩:=by kernel_rfl
@[go_sem] theorem fo67:fieldsOk Tryz.prog 67=true:=by kernel_rfl
@[go_sem] theorem ti68:tI Tryz.prog 68=some ⟨true,2,32,some (.agg [.v (.pointer none),.v (.slice none 0 0)]),[some 0,some 1],false,[1,1]⟩:=by kernel_rfl
@[go_sem] theorem fo68:fieldsOk Tryz.prog 68=true:=by kernel_rfl
@[go_sem] theorem ti108:tI Tryz.prog 108=some ⟨false,1,8,some (.v (.pointer none)),[],false,[]⟩:=by kernel_rfl
@[go_sem] theorem ti111:tI Tryz.prog 111=some ⟨false,1,8,some (.v (.int .u64 0)),[],false,[]⟩:=by kernel_rfl
@[go_sem] theorem ti137:tI Tryz.prog 137=some ⟨false,1,8,some (.v (.int .i64 0)),[],false,[]⟩:=by kernel_rfl
@[go_sem] theorem ti145:tI Tryz.prog 145=some ⟨false,1,4,some (.v (.int .u32 0)),[],false,[]⟩:=by kernel_rfl
@[go_sem] theorem ti147:tI Tryz.prog 147=some ⟨false,1,8,some (.v (.int .u64 0)),[],false,[]⟩:=by kernel_rfl
@[go_sem] theorem ti148:tI Tryz.prog 148=some ⟨false,1,24,some (.v (.slice none 0 0)),[],false,[]⟩:=by kernel_rfl
@[go_sem] theorem ti149:tI Tryz.prog 149=some ⟨false,1,24,some (.v (.slice none 0 0)),[],false,[]⟩:=by kernel_rfl
@[go_sem] theorem ti153:tI Tryz.prog 153=some ⟨false,1,24,some (.v (.slice none 0 0)),[],false,[]⟩:=by kernel_rfl
@[go_sem] theorem ti156:tI Tryz.prog 156=some ⟨false,1,8,some (.v (.int .u64 0)),[],false,[]⟩:=by kernel_rfl
@[go_sem] theorem ti164:tI Tryz.prog 164=some ⟨false,1,8,some (.v (.int .u64 0)),[],false,[]⟩:=by kernel_rfl
@[go_sem] theorem ti168:tI Tryz.prog 168=some ⟨false,1,8,some (.v (.pointer none)),[],false,[]⟩:=by kernel_rfl
@[go_sem] theorem ti187:tI Tryz.prog 187=some ⟨false,1,8,some (.v (.pointer none)),[],false,[]⟩:=by kernel_rfl
@[go_sem] theorem ti189:tI Tryz.prog 189=some ⟨false,1,8,some (.v (.pointer none)),[],false,[]⟩:=by kernel_rfl
@[go_sem] theorem ti202:tI Tryz.prog 202=some ⟨true,2,2,some (.agg [.v (.int .u8 0),.v (.int .u8 0)]),[some 0,some 1],false,[1,1]⟩:=by kernel_rfl
@[go_sem] theorem fo202:fieldsOk Tryz.prog 202=true:=by kernel_rfl
@[go_sem] theorem ti203:tI Tryz.prog 203=some ⟨true,2,2,some (.agg [.v (.int .u8 0),.v (.int .u8 0)]),[some 0,some 1],false,[1,1]⟩:=by kernel_rfl
@[go_sem] theorem fo203:fieldsOk Tryz.prog 203=true:=by kernel_rfl
@[go_sem] theorem ti208:tI Tryz.prog 208=some ⟨true,4,40,some (.agg [.v (.pointer none),.v (.pointer none),.v (.pointer none),.v (.string ⟨#[]⟩)]),[some 0,some 1,some 2,some 3],false,[1,1,1,1]⟩:=by kernel_rfl
@[go_sem] theorem fo208:fieldsOk Tryz.prog 208=true:=by kernel_rfl
@[go_sem] theorem ti209:tI Tryz.prog 209=some ⟨true,4,40,some (.agg [.v (.pointer none),.v (.pointer none),.v (.pointer none),.v (.string ⟨#[]⟩)]),[some 0,some 1,some 2,some 3],false,[1,1,1,1]⟩:=by kernel_rfl
@[go_sem] theorem fo209:fieldsOk Tryz.prog 209=true:=by kernel_rfl
@[go_sem] theorem ti211:tI Tryz.prog 211=some ⟨true,0,0,some (.agg []),[none],false,[0]⟩:=by kernel_rfl
@[go_sem] theorem fo211:fieldsOk Tryz.prog 211=true:=by kernel_rfl
@[go_sem] theorem ti212:tI Tryz.prog 212=some ⟨true,0,0,some (.agg []),[none],false,[0]⟩:=by kernel_rfl
@[go_sem] theorem fo212:fieldsOk Tryz.prog 212=true:=by kernel_rfl
@[go_sem] theorem ti213:tI Tryz.prog 213=some ⟨false,1,1,some (.v (.int .u8 0)),[],false,[]⟩:=by kernel_rfl
@[go_sem] theorem ti214:tI Tryz.prog 214=some ⟨false,1,1,some (.v (.int .u8 0)),[],false,[]⟩:=by kernel_rfl
@[go_sem] theorem ti216:tI Tryz.prog 216=some ⟨false,1,4,some (.v (.int .i32 0)),[],false,[]⟩:=by kernel_rfl
@[go_sem] theorem ti217:tI Tryz.prog 217=some ⟨false,1,4,some (.v (.int .i32 0)),[],false,[]⟩:=by kernel_rfl
@[go_sem] theorem ts2:tS Tryz.prog 2=none:=by kernel_rfl
@[go_sem] theorem ts3:tS Tryz.prog 3=none:=by kernel_rfl
@[go_sem] theorem ts4:tS Tryz.prog 4=none:=by kernel_rfl
@[go_sem] theorem ts5:tS Tryz.prog 5=none:=by kernel_rfl
@[go_sem] theorem ts6:tS Tryz.prog 6=none:=by kernel_rfl
@[go_sem] theorem ts7:tS Tryz.prog 7=none:=by kernel_rfl
@[go_sem] theorem ts8:tS Tryz.prog 8=none:=by kernel_rfl
@[go_sem] theorem ts9:tS Tryz.prog 9=none:=by kernel_rfl
@[go_sem] theorem ts10:tS Tryz.prog 10=none:=by kernel_rfl
@[go_sem] theorem ts11:tS Tryz.prog 11=none:=by kernel_rfl
@[go_sem] theorem ts12:tS Tryz.prog 12=none:=by kernel_rfl
@[go_sem] theorem ts13:tS Tryz.prog 13=none:=by kernel_rfl
@[go_sem] theorem ts14:tS Tryz.prog 14=none:=by kernel_rfl
@[go_sem] theorem ts15:tS Tryz.prog 15=none:=by kernel_rfl
@[go_sem] theorem ts16:tS Tryz.prog 16=none:=by kernel_rfl
@[go_sem] theorem ts17:tS Tryz.prog 17=none:=by kernel_rfl
@[go_sem] theorem ts18:tS Tryz.prog 18=none:=by kernel_rfl
@[go_sem] theorem ts19:tS Tryz.prog 19=none:=by kernel_rfl
@[go_sem] theorem ts21:tS Tryz.prog 21=none:=by kernel_rfl
@[go_sem] theorem ts22:tS Tryz.prog 22=some (63,⟨true,2,40,some (.agg [.v (.string ⟨#[]⟩),.v (.slice none 0 0)]),[some 0,some 1],false,[1,1]⟩):=by kernel_rfl
@[go_sem] theorem ts23:tS Tryz.prog 23=some (31,⟨false,1,24,some (.v (.slice none 0 0)),[],false,[]⟩):=by kernel_rfl
@[go_sem] theorem ts24:tS Tryz.prog 24=some (32,⟨false,1,24,some (.v (.slice none 0 0)),[],false,[]⟩):=by kernel_rfl
@[go_sem] theorem ts25:tS Tryz.prog 25=none:=by kernel_rfl
@[go_sem] theorem ts26:tS Tryz.prog 26=none:=by kernel_rfl
@[go_sem] theorem ts28:tS Tryz.prog 28=none:=by kernel_rfl
@[go_sem] theorem ts31:tS Tryz.prog 31=some (3,⟨false,1,8,some (.v (.int .i64 0)),[],false,[]⟩):=by kernel_rfl
@[go_sem] theorem ts32:tS Tryz.prog 32=some (39,⟨true,3,40,some (.agg [.v (.bool false),.v (.string ⟨#[]⟩),.v (.string ⟨#[]⟩)]),[some 0,some 1,some 2],false,[1,1,1]⟩):=by kernel_rfl
@[go_sem] theorem ts33:tS Tryz.prog 33=none:=by kernel_rfl
@[go_sem] theorem ts34:tS Tryz.prog 34=none:=by kernel_rfl
@[go_sem] theorem ts37:tS Tryz.prog 37=none:=by kernel_rfl
@[go_sem] theorem ts38:tS Tryz.prog 38=none:=by kernel_rfl
@[go_sem] theorem ts39:tS Tryz.prog 39=none:=by kernel_rfl
@[go_sem] theorem ts48:tS Tryz.prog 48=none:=by kernel_rfl
@[go_sem] theorem ts49:tS Tryz.prog 49=none:=by kernel_rfl
@[go_sem] theorem ts61:tS Tryz.prog 61=some (9,⟨false,1,16,some (.v (.string ⟨#[]⟩)),[],true,[]⟩):=by kernel_rfl
@[go_sem] theorem ts62:tS Tryz.prog 62=none:=by kernel_rfl
@[go_sem] theorem ts63:tS Tryz.prog 63=none:=by kernel_rfl
@[go_sem] theorem ts65:tS Tryz.prog 65=none:=by kernel_rfl
@[go_sem] theorem ts66:tS Tryz.prog 66=some (5,⟨false,1,1,some (.v (.int .u8 0)),[],false,[]⟩):=by kernel_rfl
@[go_sem] theorem ts67:tS Tryz.prog 67=none:=by kernel_rfl
@[go_sem] theorem ts68:tS Tryz.prog 68=none:=by kernel_rfl
@[go_sem] theorem ts108:tS Tryz.prog 108=none:=by kernel_rfl
@[go_sem] theorem ts111:tS Tryz.prog 111=none:=by kernel_rfl
@[go_sem] theorem ts137:tS Tryz.prog 137=none:=by kernel_rfl
@[go_sem] theorem ts145:tS Tryz.prog 145=none:=by kernel_rfl
@[go_sem] theorem ts147:tS Tryz.prog 147=none:=by kernel_rfl
@[go_sem] theorem ts148:tS Tryz.prog 148=some (145,⟨false,1,4,some (.v (.int .u32 0)),[],false,[]⟩):=by kernel_rfl
@[go_sem] theorem ts149:tS Tryz.prog 149=some (145,⟨false,1,4,some (.v (.int .u32 0)),[],false,[]⟩):=by kernel_rfl
@[go_sem] theorem ts153:tS Tryz.prog 153=some (156,⟨false,1,8,some (.v (.int .u64 0)),[],false,[]⟩):=by kernel_rfl
@[go_sem] theorem ts156:tS Tryz.prog 156=none:=by kernel_rfl
@[go_sem] theorem ts164:tS Tryz.prog 164=none:=by kernel_rfl
@[go_sem] theorem ts168:tS Tryz.prog 168=none:=by kernel_rfl
@[go_sem] theorem ts187:tS Tryz.prog 187=none:=by kernel_rfl
@[go_sem] theorem ts189:tS Tryz.prog 189=none:=by kernel_rfl
@[go_sem] theorem ts202:tS Tryz.prog 202=none:=by kernel_rfl
@[go_sem] theorem ts203:tS Tryz.prog 203=none:=by kernel_rfl
@[go_sem] theorem ts208:tS Tryz.prog 208=none:=by kernel_rfl
@[go_sem] theorem ts209:tS Tryz.prog 209=none:=by kernel_rfl
@[go_sem] theorem ts211:tS Tryz.prog 211=none:=by kernel_rfl
@[go_sem] theorem ts212:tS Tryz.prog 212=none:=by kernel_rfl
@[go_sem] theorem ts213:tS Tryz.prog 213=none:=by kernel_rfl
@[go_sem] theorem ts214:tS Tryz.prog 214=none:=by kernel_rfl
@[go_sem] theorem ts216:tS Tryz.prog 216=none:=by kernel_rfl
@[go_sem] theorem ts217:tS Tryz.prog 217=none:=by kernel_rfl
theorem mixed:Tryz.prog.follows .mixedOrders=true:=by kernel_rfl
end Go.Proofs.YthehegidpamldaaGreatDoor
