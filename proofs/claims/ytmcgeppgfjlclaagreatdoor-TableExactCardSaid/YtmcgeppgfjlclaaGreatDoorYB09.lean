/- The abstract machine, fourteenth part: contracts over values alone, and fractions. Conditions: none. -/
import Derived.Test.YtmcgeppgfjlclaaGreatDoorYAmM
import Derived.Test.YtmcgeppgfjlclaaGreatDoorYFracOne
import Derived.Test.YtmcgeppgfjlclaaGreatDoorProg
import Derived.Test.YtmcgeppgfjlclaaGreatDoorYAmO
set_option linter.unusedVariables false
set_option linter.unusedSimpArgs false
namespace Go.Proofs.YtmcgeppgfjlclaaGreatDoor
open Go Go.RowKit

theorem vals_repf {w:World} {F:Nat→Prop}:∀{cs:List FV} {l:List Value},vals cs=some l→cs.length=l.length∧∀(j:Nat) c,cs[j]?=some c→RepF w F c (l.toArray.getD j undef)
 | [],l,h=>by cases h;exact ⟨rfl,fun j c h=>by simp at h⟩
 | .v x::cs,l,h=>by
  unfold vals at h
  cases hv:vals cs with
  | none=>rw [hv] at h;cases h
  | some l' =>
   rw [hv] at h
   cases h
   obtain ⟨h1,h2⟩:=vals_repf (w:=w) (F:=F) hv
   refine ⟨by simp [h1],fun j c hj=>?_⟩
   cases j with
   | zero=>simp at hj;subst hj;exact .v x
   | succ j =>
    have:=h2 j c (by simpa using hj)
    have e:(x::l').toArray.getD (j+1) undef=l'.toArray.getD j undef:=by simp [Array.getD_eq_getD_getElem?]
    rw [e];exact this
 | .agg _::_,l,h=>by cases h
 | .tup _::_,l,h=>by cases h
 | .fz _ _::_,l,h=>by cases h
 | .fp _ _::_,l,h=>by cases h
 | .fn _ _ _::_,l,h=>by cases h
theorem val_repf {w:World} {F:Nat→Prop} {x:FV} {v:Value} (h:x.val=some v):RepF w F x v:=by
 cases x with
 | v x=>cases h;exact .v _
 | agg cs =>
  replace h:(vals cs).map (fun l=>Value.agg l.toArray)=some v:=h
  cases hv:vals cs with
  | none=>rw [hv] at h;cases h
  | some l =>
   rw [hv] at h
   cases h
   obtain ⟨h1,h2⟩:=vals_repf (w:=w) (F:=F) hv
   exact .agg cs _ (by simpa using h1) h2
 | _=>cases h
def FV.val2:FV→Option Value
 | .tup cs=>(cs.mapM FV.val).map fun l=>.tuple l.toArray
 | x=>x.val
theorem mapM_vals {w:World} {F:Nat→Prop}:∀{cs:List FV} {l:List Value},cs.mapM FV.val=some l→cs.length=l.length∧(∀(j:Nat) c,cs[j]?=some c→RepF w F c (l.toArray.getD j undef))∧∀ys:Array Value,cs.length=ys.size→(∀(j:Nat) c,cs[j]?=some c→RepF w F c (ys.getD j undef))→ys.toList=l
 | [],l,h=>by
  cases h
  refine ⟨rfl,fun j c h=>by simp at h,fun ys hl _=>?_⟩
  simpa using hl.symm
 | x::cs,l,h=>by
  rw [List.mapM_cons] at h
  cases hx:x.val with
  | none=>rw [hx] at h;cases h
  | some v =>
   rw [hx] at h
   cases hv:cs.mapM FV.val with
   | none=>rw [hv] at h;cases h
   | some l' =>
    rw [hv] at h
    cases h
    obtain ⟨h1,h2,h3⟩:=mapM_vals (w:=w) (F:=F) hv
    refine ⟨by simp [h1],fun j c hj=>?_,fun ys hl hr=>?_⟩
    ·cases j with
     | zero=>simp at hj;subst hj;exact val_repf hx
     | succ j =>
      have:=h2 j c (by simpa using hj)
      have e:(v::l').toArray.getD (j+1) undef=l'.toArray.getD j undef:=by simp [Array.getD_eq_getD_getElem?]
      rw [e];exact this
    ·obtain ⟨ys⟩:=ys
     cases ys with
     | nil=>simp at hl
     | cons y ys =>
      have h0:=hr 0 x rfl
      have e0:(y::ys).toArray.getD 0 undef=y:=rfl
      rw [e0] at h0
      have:=val_rep hx h0
      subst this
      have:=h3 ys.toArray (by simpa using hl) (fun j c hj=>by
       have:=hr (j+1) c (by simpa using hj)
       have e:(y::ys).toArray.getD (j+1) undef=ys.toArray.getD j undef:=by simp [Array.getD_eq_getD_getElem?]
       rwa [e] at this)
      show y::ys=y::l'
      rw [←this]
theorem val2_repf {w:World} {F:Nat→Prop} {x:FV} {v:Value} (h:x.val2=some v):RepF w F x v:=by
 by_cases ht:∃cs,x=.tup cs
 ·obtain ⟨cs,rfl⟩:=ht
  replace h:(cs.mapM FV.val).map (fun l=>Value.tuple l.toArray)=some v:=h
  cases hv:cs.mapM FV.val with
  | none=>rw [hv] at h;cases h
  | some l =>
   rw [hv] at h
   cases h
   obtain ⟨h1,h2,_⟩:=mapM_vals (w:=w) (F:=F) hv
   exact .tup cs _ (by simpa using h1) h2
 ·have:x.val=some v:=by cases x<;>first|exact h|exact absurd ⟨_,rfl⟩ ht
  exact val_repf this
theorem good_calls {P:Program} {f:FuncId} {xs:List FV} {r:FV} {args:List Value} {v:Value} (hok:enterOk P f=true) (hx:xs.mapM FV.val=some args) (hr:r.val2=some v)
  (h:∀w,Calls P f args.toArray w fun e w'=>e=.returned v∧Below w.heap.size w w'):Good P f xs r:=by
 refine ⟨hok,fun w G ys _ hG hrep=>?_⟩
 obtain ⟨_,_,h3⟩:=mapM_vals (w:=w) (F:=G) hx
 have:=h3 ys hrep.1 hrep.2
 have e:ys=args.toArray:=by rw [←this]
 rw [e]
 exact (h w).mono fun e w' ⟨he,hb⟩=>⟨v,he,⟨hb.os,hb.tape,hb.output,hb.size,fun k hk _=>hb.block k hk⟩,val2_repf hr⟩
def fr (q:Rat):FV:=.agg [.v (.bool (cg q)),.v (.string (cn q)),.v (.string (cd q))]
abbrev frs (l:List Rat):FV:=.fz 3 (l.map fr)
abbrev I (n:Int):FV:=.v (.int .i64 n)
abbrev Bo (b:Bool):FV:=.v (.bool b)
abbrev ints (l:List Int):FV:=.fz 1 (l.map I)
theorem of_good {n:Int} (h0:-9223372036854775808≤n) (h1:n≤9223372036854775807):Good Tryz.prog 37 [I n] (fr (n:Rat)) :=
 good_calls (by kernel_rfl) rfl rfl fun w=>fof_g h0 h1 w
theorem fr_cells (q:Rat):(fr q).cells=[.v (.bool (cg q)),.v (.string (cn q)),.v (.string (cd q))]:=(rfl)
theorem fr_st (q:Rat):(fr q).st=true:=(rfl)
theorem fr_isA (q:Rat):(fr q).isA=true:=(rfl)
theorem lget_lt {α:Type} (l:List α) (d:α) {i:Nat} (h:i<l.length):l.getD i d=l[i]:=by rw [List.getD_eq_getElem?_getD,List.getElem?_eq_getElem h];rfl
attribute [go_sem] fr_cells fr_st fr_isA
end Go.Proofs.YtmcgeppgfjlclaaGreatDoor
set_option linter.unusedVariables false
namespace Go.Proofs.YtmcgeppgfjlclaaGreatDoor
open Go
@[go_sem] theorem ti2:tI Tryz.prog 2=some ⟨false,1,8,some (.v (.int .i64 0)),[],false,[]⟩:=by kernel_rfl
@[go_sem] theorem ti3:tI Tryz.prog 3=some ⟨false,1,8,some (.v (.int .i64 0)),[],false,[]⟩:=by kernel_rfl
@[go_sem] theorem ti4:tI Tryz.prog 4=some ⟨false,1,1,some (.v (.bool false)),[],false,[]⟩:=by kernel_rfl
@[go_sem] theorem ti5:tI Tryz.prog 5=some ⟨false,1,1,some (.v (.int .u8 0)),[],false,[]⟩:=by kernel_rfl
@[go_sem] theorem ti6:tI Tryz.prog 6=some ⟨false,1,1,some (.v (.int .u8 0)),[],false,[]⟩:=by kernel_rfl
@[go_sem] theorem ti7:tI Tryz.prog 7=some ⟨true,4,24,some (.agg [.v (.int .i64 0),.v (.int .i64 0),.v (.bool false),.v (.int .u8 0)]),[some 0,some 1,some 2,some 3],false,[1,1,1,1]⟩:=by kernel_rfl
@[go_sem] theorem fo7:fieldsOk Tryz.prog 7=true:=by kernel_rfl
@[go_sem] theorem ti8:tI Tryz.prog 8=some ⟨true,4,24,some (.agg [.v (.int .i64 0),.v (.int .i64 0),.v (.bool false),.v (.int .u8 0)]),[some 0,some 1,some 2,some 3],false,[1,1,1,1]⟩:=by kernel_rfl
@[go_sem] theorem fo8:fieldsOk Tryz.prog 8=true:=by kernel_rfl
@[go_sem] theorem ti9:tI Tryz.prog 9=some ⟨false,1,16,some (.v (.string ⟨#[]⟩)),[],true,[]⟩:=by kernel_rfl
@[go_sem] theorem ti10:tI Tryz.prog 10=some ⟨false,1,16,some (.v (.string ⟨#[]⟩)),[],true,[]⟩:=by kernel_rfl
@[go_sem] theorem ti11:tI Tryz.prog 11=some ⟨false,1,16,some (.v (.string ⟨#[]⟩)),[],true,[]⟩:=by kernel_rfl
@[go_sem] theorem ti12:tI Tryz.prog 12=some ⟨false,1,8,some (.v (.int .u64 0)),[],false,[]⟩:=by kernel_rfl
@[go_sem] theorem ti13:tI Tryz.prog 13=some ⟨true,2,24,some (.agg [.v (.string ⟨#[]⟩),.v (.int .u64 0)]),[some 0,some 1],false,[1,1]⟩:=by kernel_rfl
@[go_sem] theorem fo13:fieldsOk Tryz.prog 13=true:=by kernel_rfl
@[go_sem] theorem ti14:tI Tryz.prog 14=some ⟨true,2,24,some (.agg [.v (.string ⟨#[]⟩),.v (.int .u64 0)]),[some 0,some 1],false,[1,1]⟩:=by kernel_rfl
@[go_sem] theorem fo14:fieldsOk Tryz.prog 14=true:=by kernel_rfl
@[go_sem] theorem ti15:tI Tryz.prog 15=some ⟨false,1,8,some (.v (.pointer none)),[],false,[]⟩:=by kernel_rfl
@[go_sem] theorem ti16:tI Tryz.prog 16=some ⟨false,1,8,some (.v (.pointer none)),[],false,[]⟩:=by kernel_rfl
@[go_sem] theorem ti17:tI Tryz.prog 17=some ⟨false,1,8,some (.v (.pointer none)),[],false,[]⟩:=by kernel_rfl
@[go_sem] theorem ti18:tI Tryz.prog 18=some ⟨true,1,8,some (.agg [.v (.pointer none)]),[some 0],false,[1]⟩:=by kernel_rfl
@[go_sem] theorem fo18:fieldsOk Tryz.prog 18=true:=by kernel_rfl
@[go_sem] theorem ti19:tI Tryz.prog 19=some ⟨true,1,8,some (.agg [.v (.pointer none)]),[some 0],false,[1]⟩:=by kernel_rfl
@[go_sem] theorem fo19:fieldsOk Tryz.prog 19=true:=by kernel_rfl
@[go_sem] theorem ti21:tI Tryz.prog 21=some ⟨false,1,4,some (.v (.int .i32 0)),[],false,[]⟩:=by kernel_rfl
@[go_sem] theorem ti22:tI Tryz.prog 22=some ⟨false,1,24,some (.v (.slice none 0 0)),[],false,[]⟩:=by kernel_rfl
@[go_sem] theorem ti25:tI Tryz.prog 25=some ⟨false,1,24,some (.v (.slice none 0 0)),[],false,[]⟩:=by kernel_rfl
@[go_sem] theorem ti26:tI Tryz.prog 26=some ⟨true,2,48,some (.agg [.v (.slice none 0 0),.v (.slice none 0 0)]),[some 0,some 1],false,[1,1]⟩:=by kernel_rfl
@[go_sem] theorem fo26:fieldsOk Tryz.prog 26=true:=by kernel_rfl
@[go_sem] theorem ti27:tI Tryz.prog 27=some ⟨true,2,48,some (.agg [.v (.slice none 0 0),.v (.slice none 0 0)]),[some 0,some 1],false,[1,1]⟩:=by kernel_rfl
@[go_sem] theorem fo27:fieldsOk Tryz.prog 27=true:=by kernel_rfl
@[go_sem] theorem ti31:tI Tryz.prog 31=some ⟨false,1,8,some (.v (.int .i64 0)),[],false,[]⟩:=by kernel_rfl
@[go_sem] theorem ti48:tI Tryz.prog 48=some ⟨false,1,16,some (.v (.string ⟨#[]⟩)),[],true,[]⟩:=by kernel_rfl
@[go_sem] theorem ti49:tI Tryz.prog 49=some ⟨true,3,40,some (.agg [.v (.bool false),.v (.string ⟨#[]⟩),.v (.string ⟨#[]⟩)]),[some 0,some 1,some 2],false,[1,1,1]⟩:=by kernel_rfl
@[go_sem] theorem fo49:fieldsOk Tryz.prog 49=true:=by kernel_rfl
@[go_sem] theorem ti50:tI Tryz.prog 50=some ⟨true,3,40,some (.agg [.v (.bool false),.v (.string ⟨#[]⟩),.v (.string ⟨#[]⟩)]),[some 0,some 1,some 2],false,[1,1,1]⟩:=by kernel_rfl
@[go_sem] theorem fo50:fieldsOk Tryz.prog 50=true:=by kernel_rfl
@[go_sem] theorem ti89:tI Tryz.prog 89=some ⟨false,1,24,some (.v (.slice none 0 0)),[],false,[]⟩:=by kernel_rfl
@[go_sem] theorem ti92:tI Tryz.prog 92=some ⟨false,1,8,some (.v (.int .u64 0)),[],false,[]⟩:=by kernel_rfl
@[go_sem] theorem ti96:tI Tryz.prog 96=some ⟨false,1,24,some (.v (.slice none 0 0)),[],false,[]⟩:=by kernel_rfl
@[go_sem] theorem ti99:tI Tryz.prog 99=some ⟨false,1,24,some (.v (.slice none 0 0)),[],false,[]⟩:=by kernel_rfl
@[go_sem] theorem ti100:tI Tryz.prog 100=some ⟨false,1,24,some (.v (.slice none 0 0)),[],false,[]⟩:=by kernel_rfl
@[go_sem] theorem ti102:tI Tryz.prog 102=some ⟨false,1,8,some (.v (.int .u64 0)),[],false,[]⟩:=by kernel_rfl
@[go_sem] theorem ti103:tI Tryz.prog 103=some ⟨false,1,4,some (.v (.int .u32 0)),[],false,[]⟩:=by kernel_rfl
@[go_sem] theorem ti112:tI Tryz.prog 112=some ⟨false,1,8,some (.v (.int .i64 0)),[],false,[]⟩:=by kernel_rfl
@[go_sem] theorem ti136:tI Tryz.prog 136=some ⟨false,1,8,some (.v (.int .u64 0)),[],false,[]⟩:=by kernel_rfl
@[go_sem] theorem ti140:tI Tryz.prog 140=some ⟨false,1,8,some (.v (.pointer none)),[],false,[]⟩:=by kernel_rfl
@[go_sem] theorem ti149:tI Tryz.prog 149=some ⟨false,1,8,some (.v (.pointer none)),[],false,[]⟩:=by kernel_rfl
@[go_sem] theorem ti152:tI Tryz.prog 152=some ⟨false,1,8,some (.v (.pointer none)),[],false,[]⟩:=by kernel_rfl
@[go_sem] theorem ti161:tI Tryz.prog 161=some ⟨true,2,2,some (.agg [.v (.int .u8 0),.v (.int .u8 0)]),[some 0,some 1],false,[1,1]⟩:=by kernel_rfl
@[go_sem] theorem fo161:fieldsOk Tryz.prog 161=true:=by kernel_rfl
@[go_sem] theorem ti162:tI Tryz.prog 162=some ⟨true,2,2,some (.agg [.v (.int .u8 0),.v (.int .u8 0)]),[some 0,some 1],false,[1,1]⟩:=by kernel_rfl
@[go_sem] theorem fo162:fieldsOk Tryz.prog 162=true:=by kernel_rfl
@[go_sem] theorem ti167:tI Tryz.prog 167=some ⟨true,4,40,some (.agg [.v (.pointer none),.v (.pointer none),.v (.pointer none),.v (.string ⟨#[]⟩)]),[some 0,some 1,some 2,some 3],false,[1,1,1,1]⟩:=by kernel_rfl
@[go_sem] theorem fo167:fieldsOk Tryz.prog 167=true:=by kernel_rfl
@[go_sem] theorem ti168:tI Tryz.prog 168=some ⟨true,4,40,some (.agg [.v (.pointer none),.v (.pointer none),.v (.pointer none),.v (.string ⟨#[]⟩)]),[some 0,some 1,some 2,some 3],false,[1,1,1,1]⟩:=by kernel_rfl
@[go_sem] theorem fo168:fieldsOk Tryz.prog 168=true:=by kernel_rfl
@[go_sem] theorem ti170:tI Tryz.prog 170=some ⟨true,0,0,some (.agg []),[none],false,[0]⟩:=by kernel_rfl
@[go_sem] theorem fo170:fieldsOk Tryz.prog 170=true:=by kernel_rfl
@[go_sem] theorem ti171:tI Tryz.prog 171=some ⟨true,0,0,some (.agg []),[none],false,[0]⟩:=by kernel_rfl
@[go_sem] theorem fo171:fieldsOk Tryz.prog 171=true:=by kernel_rfl
@[go_sem] theorem ti173:tI Tryz.prog 173=some ⟨false,1,1,some (.v (.int .u8 0)),[],false,[]⟩:=by kernel_rfl
@[go_sem] theorem ti174:tI Tryz.prog 174=some ⟨false,1,1,some (.v (.int .u8 0)),[],false,[]⟩:=by kernel_rfl
@[go_sem] theorem ti176:tI Tryz.prog 176=some ⟨false,1,8,some (.v (.pointer none)),[],false,[]⟩:=by kernel_rfl
@[go_sem] theorem ti177:tI Tryz.prog 177=some ⟨false,1,4,some (.v (.int .i32 0)),[],false,[]⟩:=by kernel_rfl
@[go_sem] theorem ti178:tI Tryz.prog 178=some ⟨false,1,4,some (.v (.int .i32 0)),[],false,[]⟩:=by kernel_rfl
@[go_sem] theorem ts2:tS Tryz.prog 2=none:=by kernel_rfl
@[go_sem] theorem ts3:tS Tryz.prog 3=none:=by kernel_rfl
@[go_sem] theorem ts4:tS Tryz.prog 4=none:=by kernel_rfl
@[go_sem] theorem ts5:tS Tryz.prog 5=none:=by kernel_rfl
@[go_sem] theorem ts6:tS Tryz.prog 6=none:=by kernel_rfl
@[go_sem] theorem ts7:tS Tryz.prog 7=none:=by kernel_rfl
@[go_sem] theorem ts8:tS Tryz.prog 8=none:=by kernel_rfl
@[go_sem] theorem ts9:tS Tryz.prog 9=none:=by kernel_rfl
@[go_sem] theorem ts10:tS Tryz.prog 10=none:=by kernel_rfl
@[go_sem] theorem ts11:tS Tryz.prog 11=none:=by kernel_rfl
@[go_sem] theorem ts12:tS Tryz.prog 12=none:=by kernel_rfl
@[go_sem] theorem ts13:tS Tryz.prog 13=none:=by kernel_rfl
@[go_sem] theorem ts14:tS Tryz.prog 14=none:=by kernel_rfl
@[go_sem] theorem ts15:tS Tryz.prog 15=none:=by kernel_rfl
@[go_sem] theorem ts16:tS Tryz.prog 16=none:=by kernel_rfl
@[go_sem] theorem ts17:tS Tryz.prog 17=none:=by kernel_rfl
@[go_sem] theorem ts18:tS Tryz.prog 18=none:=by kernel_rfl
@[go_sem] theorem ts19:tS Tryz.prog 19=none:=by kernel_rfl
@[go_sem] theorem ts21:tS Tryz.prog 21=none:=by kernel_rfl
@[go_sem] theorem ts22:tS Tryz.prog 22=some (3,⟨false,1,8,some (.v (.int .i64 0)),[],false,[]⟩):=by kernel_rfl
@[go_sem] theorem ts25:tS Tryz.prog 25=some (50,⟨true,3,40,some (.agg [.v (.bool false),.v (.string ⟨#[]⟩),.v (.string ⟨#[]⟩)]),[some 0,some 1,some 2],false,[1,1,1]⟩):=by kernel_rfl
@[go_sem] theorem ts26:tS Tryz.prog 26=none:=by kernel_rfl
@[go_sem] theorem ts27:tS Tryz.prog 27=none:=by kernel_rfl
@[go_sem] theorem ts31:tS Tryz.prog 31=none:=by kernel_rfl
@[go_sem] theorem ts48:tS Tryz.prog 48=none:=by kernel_rfl
@[go_sem] theorem ts49:tS Tryz.prog 49=none:=by kernel_rfl
@[go_sem] theorem ts50:tS Tryz.prog 50=none:=by kernel_rfl
@[go_sem] theorem ts89:tS Tryz.prog 89=some (22,⟨false,1,24,some (.v (.slice none 0 0)),[],false,[]⟩):=by kernel_rfl
@[go_sem] theorem ts92:tS Tryz.prog 92=none:=by kernel_rfl
@[go_sem] theorem ts96:tS Tryz.prog 96=some (5,⟨false,1,1,some (.v (.int .u8 0)),[],false,[]⟩):=by kernel_rfl
@[go_sem] theorem ts99:tS Tryz.prog 99=some (103,⟨false,1,4,some (.v (.int .u32 0)),[],false,[]⟩):=by kernel_rfl
@[go_sem] theorem ts100:tS Tryz.prog 100=some (103,⟨false,1,4,some (.v (.int .u32 0)),[],false,[]⟩):=by kernel_rfl
@[go_sem] theorem ts102:tS Tryz.prog 102=none:=by kernel_rfl
@[go_sem] theorem ts103:tS Tryz.prog 103=none:=by kernel_rfl
@[go_sem] theorem ts112:tS Tryz.prog 112=none:=by kernel_rfl
@[go_sem] theorem ts136:tS Tryz.prog 136=none:=by kernel_rfl
@[go_sem] theorem ts140:tS Tryz.prog 140=none:=by kernel_rfl
@[go_sem] theorem ts149:tS Tryz.prog 149=none:=by kernel_rfl
@[go_sem] theorem ts152:tS Tryz.prog 152=none:=by kernel_rfl
@[go_sem] theorem ts161:tS Tryz.prog 161=none:=by kernel_rfl
@[go_sem] theorem ts162:tS Tryz.prog 162=none:=by kernel_rfl
@[go_sem] theorem ts167:tS Tryz.prog 167=none:=by kernel_rfl
@[go_sem] theorem ts168:tS Tryz.prog 168=none:=by kernel_rfl
@[go_sem] theorem ts170:tS Tryz.prog 170=none:=by kernel_rfl
@[go_sem] theorem ts171:tS Tryz.prog 171=none:=by kernel_rfl
@[go_sem] theorem ts173:tS Tryz.prog 173=none:=by kernel_rfl
@[go_sem] theorem ts174:tS Tryz.prog 174=none:=by kernel_rfl
@[go_sem] theorem ts176:tS Tryz.prog 176=none:=by kernel_rfl
@[go_sem] theorem ts177:tS Tryz.prog 177=none:=by kernel_rfl
@[go_sem] theorem ts178:tS Tryz.prog 178=none:=by kernel_rfl
theorem mixed:Tryz.prog.follows .mixedOrders=true:=by kernel_rfl
end Go.Proofs.YtmcgeppgfjlclaaGreatDoor
set_option linter.unusedVariables false
set_option linter.unusedSimpArgs false
namespace Go.Proofs.YtmcgeppgfjlclaaGreatDoor
open Go Go.RowKit
theorem upto_next {p:Nat→Prop} {i:Nat} (h:∀j,j<i→p j) (hi:p i):∀j,j<i+1→p j:=fun j hj=>by
 by_cases e:j=i
 ·subst e;exact hi
 ·exact h j (by omega)
def fillL {α:Type} (n k:Nat) (f:Nat→α) (z:α):List α:=(List.range n).map fun j=>if j<k then f j else z
section
variable {α : Type} {n k : Nat} {f : Nat → α} {z : α}
theorem fill_len:(fillL n k f z).length=n:=by simp [fillL]
theorem fill_zero:fillL n 0 f z=List.replicate n z:=by
 apply List.ext_getElem?
 intro i
 by_cases h:i<n<;>simp [fillL,h]
theorem fill_get {i:Nat} (h:i<n):(fillL n k f z)[i]?=some (if i<k then f i else z):=by simp [fillL,h]
theorem fill_set (h:k<n):(fillL n k f z).set k (f k)=fillL n (k+1) f z:=by
 apply List.ext_getElem?
 intro i
 by_cases hi:i<n
 ·by_cases e:i=k
  ·subst e;rw [List.getElem?_set_self (by rw [fill_len];exact hi),fill_get hi,if_pos (by omega)]
  ·rw [List.getElem?_set_ne (Ne.symm e),fill_get hi,fill_get hi]
   by_cases hk:i<k
   ·rw [if_pos hk,if_pos (by omega)]
   ·rw [if_neg hk,if_neg (by omega)]
 ·rw [List.getElem?_eq_none (by rw [List.length_set,fill_len];omega),List.getElem?_eq_none (by rw [fill_len];omega)]
theorem fill_all:fillL n n f z=(List.range n).map f:=by
 unfold fillL
 refine List.map_congr_left fun i hi=>?_
 rw [if_pos (List.mem_range.1 hi)]
theorem range_set {g:Nat→α} {i:Nat} {x:α} (hi:i<n):((List.range n).map g).set i x=(List.range n).map fun k=>if k=i then x else g k:=by
 apply List.ext_getElem?
 intro j
 by_cases hj:j<n
 ·by_cases e:j=i
  ·subst e;rw [List.getElem?_set_self (by simpa using hj)];simp [hj]
  ·rw [List.getElem?_set_ne (Ne.symm e)];simp [hj,e]
 ·rw [List.getElem?_eq_none (by simp;omega),List.getElem?_eq_none (by simp;omega)]
end
theorem fillA_get {n k:Nat} {f:Nat→FV} {z:FV} {j:Nat} (h:j<n):((fillL n k f z).map AV.f)[j]?=some (.f (if j<k then f j else z)):=by rw [List.getElem?_map,fill_get h];rfl
theorem fillA_set {n k:Nat} {f:Nat→FV} {z x:FV} (h:k<n) (hx:f k=x):((fillL n k f z).map AV.f).set k (.f x)=(fillL n (k+1) f z).map AV.f:=by rw [←hx,←fill_set h,List.map_set]
end Go.Proofs.YtmcgeppgfjlclaaGreatDoor
set_option linter.unusedVariables false
set_option linter.unusedSimpArgs false
namespace Go.Proofs.YtmcgeppgfjlclaaGreatDoor
open Go Go.RowKit
def Ns (l:List Nat):List FV:=l.map fun k:Nat=>I (k:Int)
theorem Ns_len {l:List Nat}:(Ns l).length=l.length:=by unfold Ns;rw [List.length_map]
theorem Ns_get {l:List Nat} {i:Nat} (h:i<l.length):(Ns l)[i]?=some (I (l.getD i 0:Nat)):=by
 unfold Ns;rw [map_get (fun k:Nat=>I (k:Int)) l h,lget_lt l 0 h]
theorem Ns_snoc {l:List Nat} {j:Nat}:Ns l++[I (j:Int)]=Ns (l++[j]):=by simp [Ns]
set_option maxRecDepth 100000 in
set_option maxHeartbeats 4000000 in
theorem rin_w (k:Int) (l:List Int) (hk:-9223372036854775808≤k∧k≤9223372036854775807) (hl:l.length≤140737488355328):Good Tryz.prog 35 [I k,ints l] (Bo (decide (k∈l))):=by
 refine good_of Tryz.func35 rfl (by kernel_rfl) fun X hO hrd=>?_;rw [Tryz.ntmps35,Tryz.results35];simp only [ast0,List.map_cons,List.map_nil,List.length_cons,List.length_nil,Nat.reduceAdd,Nat.reduceSub,List.replicate_succ,List.replicate_zero,List.cons_append,List.nil_append]
 (repeat (with_reducible first|refine W_seq fun K hK=>?_|refine J_block ?_|refine J_region ?_ |(refine Kont.go (by assumption) ?_)|(simp (config:={ maxSteps:=3000000 }) (disch:=omega) only [go_sem])))
 refine W_loop [4,5,6,7,8,9,10,11,12,13,14,15,16,17] (fun x:Nat=>[(5,.f (I x))]) (fun x:Nat=>[]) (fun x:Nat=>x≤l.length∧∀j,j<x→l.getD j 0≠k) (fun x:Nat=>l.length-x) (0) (⟨Nat.zero_le _,fun j h=>by omega⟩) (by refine weak_of ?_ ?_<;>simp (disch:=omega) only [go_sem]<;>first|rfl|exact ⟨rfl,rfl⟩|exact Or.inl rfl|exact ⟨Or.inl rfl,Or.inl rfl⟩|trivial|assumption|omega|(symm;assumption)|((repeat' apply And.intro)<;>first|rfl|omega|trivial|exact .inl rfl|exact .inr ⟨rfl,rfl⟩|exact .inr rfl|(right;symm;assumption)|(symm;assumption)|assumption)) ?_
 rintro i ⟨hi,hp⟩
 simp only [go_sem]
 (repeat (with_reducible first|refine W_seq fun K hK=>?_|refine J_region ?_ |refine J_c ?_|(refine Kont.go (by assumption) ?_)|(simp (config:={ maxSteps:=3000000 }) (disch:=omega) only [go_sem,List.length_map])))
 refine Jc_if (fun hlt=>?_) (fun hlt=>?_)<;>try simp only [decide_eq_true_eq,decide_eq_false_iff_not] at hlt
 ·have hx:=map_get I l hlt
  by_cases e:l[i]=k
  ·have hm:decide (k∈l)=true:=decide_eq_true (e▸List.getElem_mem _)
   (repeat (with_reducible first|refine W_seq fun K hK=>?_|refine J_block ?_|refine J_skip ?_|refine J_ret ?_|refine J_region ?_ |refine J_c ?_|refine Jc_true ?_|(refine Kont.go (by assumption) ?_)|(simp (config:={ maxSteps:=3000000 }) (disch:=omega) only [go_sem,↓reduceIte,hx,e])))
   rw [hm]
   exact Frz.f _
  ·(repeat (with_reducible first|refine W_seq fun K hK=>?_|refine J_block ?_|refine J_skip ?_|refine J_region ?_ |refine J_c ?_|refine Jc_false ?_|(refine Kont.go (by assumption) ?_)|(simp (config:={ maxSteps:=3000000 }) (disch:=omega) only [go_sem,↓reduceIte,hx,e])))
   refine ⟨i+1,⟨by omega,upto_next (p:=fun j=>l.getD j 0≠k) hp (by rw [lget_lt l 0 hlt];exact e)⟩,by omega,weak_of ?_ ?_⟩<;>(try simp (disch:=omega) only [go_sem])<;>(try first|done|omega|rfl|exact ⟨rfl,rfl⟩|trivial)
 ·have he:i=l.length:=by omega
  have hm:decide (k∈l)=false:=decide_eq_false fun hm=>by
   obtain ⟨c,hc,e⟩:=List.getElem_of_mem hm
   exact hp c (by omega) (by rw [lget_lt l 0 hc];exact e)
  (repeat (with_reducible first|refine W_seq fun K hK=>?_|refine J_exit ?_|refine J_ret ?_|refine J_region ?_ |(refine Kont.go (by assumption) ?_)|(simp (config:={ maxSteps:=3000000 }) (disch:=omega) only [go_sem,↓reduceIte])))
  rw [hm]
  exact Frz.f _
theorem rinN_w (k:Nat) (l:List Nat) (hk:k≤1000000) (hl:l.length≤1000000):Good Tryz.prog 35 [I (k:Int),.fz 1 (Ns l)] (Bo (decide (k∈l))):=by
 have h:=rin_w (k:Int) (l.map Int.ofNat) (by omega) (by rw [List.length_map];omega)
 have e1:ints (l.map Int.ofNat)=.fz 1 (Ns l):=by unfold Ns;simp [ints]
 have e2:decide ((k:Int)∈l.map Int.ofNat)=decide (k∈l):=by
  have:((k:Int)∈l.map Int.ofNat)=(k∈l):=propext ⟨fun h=>by
   obtain ⟨a,ha,e⟩:=List.mem_map.1 h
   have:a=k:=Int.ofNat.inj e
   exact this▸ha,fun h=>List.mem_map.2 ⟨k,h,rfl⟩⟩
  simp only [this]
 rw [e1,e2] at h
 exact h
def prevI (l:List Int) (x:Nat):Int:=if x=0 then -1 else l.getD (x-1) 0
def risB (n:Nat) (l:List Int):Bool:=(List.range l.length).all fun x=>decide (prevI l x<l.getD x 0)&&decide (l.getD x 0<(n:Int))
theorem prevI_next {l:List Int} {x:Nat}:prevI l (x+1)=l.getD x 0:=by unfold prevI;rw [if_neg (by omega)];rfl
theorem risB_iff {n:Nat} {l:List Int}:risB n l=true↔∀x,x<l.length→prevI l x<l.getD x 0∧l.getD x 0<(n:Int):=by
 simp [risB]
end Go.Proofs.YtmcgeppgfjlclaaGreatDoor
set_option linter.unusedVariables false
set_option linter.unusedSimpArgs false
namespace Go.Proofs.YtmcgeppgfjlclaaGreatDoor
open Go Go.RowKit
theorem rep_two {α:Type} (x:α):List.replicate 2 x=[x,x]:=(rfl)
theorem rep_three {α:Type} (x:α):List.replicate 3 x=[x,x,x]:=(rfl)
theorem rep_four {α:Type} (x:α):List.replicate 4 x=[x,x,x,x]:=(rfl)
theorem rep_five {α:Type} (x:α):List.replicate 5 x=[x,x,x,x,x]:=(rfl)
theorem opt_ex {α:Type} {a:α} {p:α→Prop}:(∃e,some a=some e∧p e)=p a:=propext ⟨fun ⟨e,h,hp⟩=>by cases h;exact hp,fun h=>⟨a,rfl,h⟩⟩
theorem objLt_fset (N:Nat) (e:TypeId) (sz i:Nat) (l:List FV) (x:FV):objLt N ⟨e,sz,(l.map AV.f).set i (.f x)⟩=True:=by
 rw [←List.map_set];exact objLt_f N e sz _
theorem acallQV_f {P:Program} {f:FuncId} {a b:List FV} {xs:List AV} {H:AH} {k:AV→Prop}:acallQV P (.f (.fn f a b)) xs H k=acallQ P f (a.map .f++xs++b.map .f) H k:=(rfl)
theorem acallV_f {P:Program} {f:FuncId} {a b:List FV} {xs:List AV} {s:AS} {d:Option Tmp} {K:AS→Prop}:acallV P (.f (.fn f a b)) xs s d K=acall P f (a.map .f++xs++b.map .f) s d K:=(rfl)
attribute [go_sem] objLt_fset acallQV_f acallV_f
attribute [go_sem] rep_two rep_three rep_four rep_five opt_ex
end Go.Proofs.YtmcgeppgfjlclaaGreatDoor
