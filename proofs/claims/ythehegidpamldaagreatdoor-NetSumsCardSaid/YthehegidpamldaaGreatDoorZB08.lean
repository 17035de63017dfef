/- What the types of this program are, for the abstract machine. Made by geninfo.py. -/
import Derived.Test.YthehegidpamldaaGreatDoorProg
import Derived.Test.YthehegidpamldaaGreatDoorZAmM
import Derived.Test.YthehegidpamldaaGreatDoorZB07
set_option linter.unusedVariables false
namespace Go.Proofs.YthehegidpamldaaGreatDoor
open Go
@[go_sem] theorem ti2:tI Tryz.prog 2=some ⟨false,1,8,some (.v (.int .i64 0)),[],false,[]⟩:=by kernel_rfl
@[go_sem] theorem ti3:tI Tryz.prog 3=some ⟨false,1,8,some (.v (.int .i64 0)),[],false,[]⟩:=by kernel_rfl
@[go_sem] theorem ti4:tI Tryz.prog 4=some ⟨false,1,1,some (.v (.bool false)),[],false,[]⟩:=by kernel_rfl
@[go_sem] theorem ti5:tI Tryz.prog 5=some ⟨false,1,1,some (.v (.int .u8 0)),[],false,[]⟩:=by kernel_rfl
@[go_sem] theorem ti6:tI Tryz.prog 6=some ⟨false,1,1,some (.v (.int .u8 0)),[],false,[]⟩:=by kernel_rfl
@[go_sem] theorem ti7:tI Tryz.prog 7=some ⟨true,4,24,some (.agg [.v (.int .i64 0),.v (.int .i64 0),.v (.bool false),.v (.int .u8 0)]),[some 0,some 1,some 2,some 3],false,[1,1,1,1]⟩:=by kernel_rfl
@[go_sem] theorem fo7:fieldsOk Tryz.prog 7=true:=by kernel_rfl
@[go_sem] theorem ti8:tI Tryz.prog 8=some ⟨true,4,24,some (.agg [.v (.int .i64 0),.v (.int .i64 0),.v (.bool false),.v (.int .u8 0)]),[some 0,some 1,some 2,some 3],false,[1,1,1,1]⟩:=by kernel_rfl
@[go_sem] theorem fo8:fieldsOk Tryz.prog 8=true:=by kernel_rfl
@[go_sem] theorem ti9:tI Tryz.prog 9=some ⟨false,1,16,some (.v (.string ⟨#[]⟩)),[],true,[]⟩:=by kernel_rfl
@[go_sem] theorem ti10:tI Tryz.prog 10=some ⟨false,1,16,some (.v (.string ⟨#[]⟩)),[],true,[]⟩:=by kernel_rfl
@[go_sem] theorem ti11:tI Tryz.prog 11=some ⟨false,1,16,some (.v (.string ⟨#[]⟩)),[],true,[]⟩:=by kernel_rfl
@[go_sem] theorem ti12:tI Tryz.prog 12=some ⟨false,1,8,some (.v (.int .u64 0)),[],false,[]⟩:=by kernel_rfl
@[go_sem] theorem ti13:tI Tryz.prog 13=some ⟨true,2,24,some (.agg [.v (.string ⟨#[]⟩),.v (.int .u64 0)]),[some 0,some 1],false,[1,1]⟩:=by kernel_rfl
@[go_sem] theorem fo13:fieldsOk Tryz.prog 13=true:=by kernel_rfl
@[go_sem] theorem ti14:tI Tryz.prog 14=some ⟨true,2,24,some (.agg [.v (.string ⟨#[]⟩),.v (.int .u64 0)]),[some 0,some 1],false,[1,1]⟩:=by kernel_rfl
@[go_sem] theorem fo14:fieldsOk Tryz.prog 14=true:=by kernel_rfl
@[go_sem] theorem ti15:tI Tryz.prog 15=some ⟨false,1,8,some (.v (.pointer none)),[],false,[]⟩:=by kernel_rfl
@[go_sem] theorem ti16:tI Tryz.prog 16=some ⟨false,1,8,some (.v (.pointer none)),[],false,[]⟩:=by kernel_rfl
@[go_sem] theorem ti17:tI Tryz.prog 17=some ⟨false,1,8,some (.v (.pointer none)),[],false,[]⟩:=by kernel_rfl
@[go_sem] theorem ti18:tI Tryz.prog 18=some ⟨true,1,8,some (.agg [.v (.pointer none)]),[some 0],false,[1]⟩:=by kernel_rfl
@[go_sem] theorem fo18:fieldsOk Tryz.prog 18=true:=by kernel_rfl
@[go_sem] theorem ti19:tI Tryz.prog 19=some ⟨true,1,8,some (.agg [.v (.pointer none)]),[some 0],false,[1]⟩:=by kernel_rfl
@[go_sem] theorem fo19:fieldsOk Tryz.prog 19=true:=by kernel_rfl
@[go_sem] theorem ti21:tI Tryz.prog 21=some ⟨false,1,4,some (.v (.int .i32 0)),[],false,[]⟩:=by kernel_rfl
@[go_sem] theorem ti22:tI Tryz.prog 22=some ⟨false,1,24,some (.v (.slice none 0 0)),[],false,[]⟩:=by kernel_rfl
@[go_sem] theorem ti23:tI Tryz.prog 23=some ⟨false,1,24,some (.v (.slice none 0 0)),[],false,[]⟩:=by kernel_rfl
@[go_sem] theorem ti24:tI Tryz.prog 24=some ⟨false,1,24,some (.v (.slice none 0 0)),[],false,[]⟩:=by kernel_rfl
@[go_sem] theorem ti25:tI Tryz.prog 25=some ⟨true,3,72,some (.agg [.v (.slice none 0 0),.v (.slice none 0 0),.v (.slice none 0 0)]),[some 0,some 1,some 2],false,[1,1,1]⟩:=by kernel_rfl
@[go_sem] theorem fo25:fieldsOk Tryz.prog 25=true:=by kernel_rfl
@[go_sem] theorem ti26:tI Tryz.prog 26=some ⟨true,3,72,some (.agg [.v (.slice none 0 0),.v (.slice none 0 0),.v (.slice none 0 0)]),[some 0,some 1,some 2],false,[1,1,1]⟩:=by kernel_rfl
@[go_sem] theorem fo26:fieldsOk Tryz.prog 26=true:=by kernel_rfl
@[go_sem] theorem ti28:tI Tryz.prog 28=some ⟨false,1,8,some (.v (.int .i64 0)),[],false,[]⟩:=by kernel_rfl
@[go_sem] theorem ti31:tI Tryz.prog 31=some ⟨false,1,24,some (.v (.slice none 0 0)),[],false,[]⟩:=by kernel_rfl
@[go_sem] theorem ti32:tI Tryz.prog 32=some ⟨false,1,24,some (.v (.slice none 0 0)),[],false,[]⟩:=by kernel_rfl
@[go_sem] theorem ti33:tI Tryz.prog 33=some ⟨true,2,48,some (.agg [.v (.slice none 0 0),.v (.slice none 0 0)]),[some 0,some 1],false,[1,1]⟩:=by kernel_rfl
@[go_sem] theorem fo33:fieldsOk Tryz.prog 33=true:=by kernel_rfl
@[go_sem] theorem ti34:tI Tryz.prog 34=some ⟨true,2,48,some (.agg [.v (.slice none 0 0),.v (.slice none 0 0)]),[some 0,some 1],false,[1,1]⟩:=by kernel_rfl
@[go_sem] theorem fo34:fieldsOk Tryz.prog 34=true:=by kernel_rfl
@[go_sem] theorem ti37:tI Tryz.prog 37=some ⟨false,1,16,some (.v (.string ⟨#[]⟩)),[],true,[]⟩:=by kernel_rfl
@[go_sem] theorem ti38:tI Tryz.prog 38=some ⟨true,3,40,some (.agg [.v (.bool false),.v (.string ⟨#[]⟩),.v (.string ⟨#[]⟩)]),[some 0,some 1,some 2],false,[1,1,1]⟩:=by kernel_rfl
@[go_sem] theorem fo38:fieldsOk Tryz.prog 38=true:=by kernel_rfl
@[go_sem] theorem ti39:tI Tryz.prog 39=some ⟨true,3,40,some (.agg [.v (.bool false),.v (.string ⟨#[]⟩),.v (.string ⟨#[]⟩)]),[some 0,some 1,some 2],false,[1,1,1]⟩:=by kernel_rfl
@[go_sem] theorem fo39:fieldsOk Tryz.prog 39=true:=by kernel_rfl
@[go_sem] theorem ti48:tI Tryz.prog 48=some ⟨true,4,80,some (.agg [.v (.slice none 0 0),.v (.slice none 0 0),.v (.slice none 0 0),.v (.bool false)]),[some 0,some 1,some 2,some 3],false,[1,1,1,1]⟩:=by kernel_rfl
@[go_sem] theorem fo48:fieldsOk Tryz.prog 48=true:=by kernel_rfl
@[go_sem] theorem ti49:tI Tryz.prog 49=some ⟨true,4,80,some (.agg [.v (.slice none 0 0),.v (.slice none 0 0),.v (.slice none 0 0),.v (.bool false)]),[some 0,some 1,some 2,some 3],false,[1,1,1,1]⟩:=by kernel_rfl
@[go_sem] theorem fo49:fieldsOk Tryz.prog 49=true:=by kernel_rfl
@[go_sem] theorem ti61:tI Tryz.prog 61=some ⟨false,1,24,some (.v (.slice none 0 0)),[],false,[]⟩:=by kernel_rfl
@[go_sem] theorem ti62:tI Tryz.prog 62=some ⟨true,2,40,some (.agg [.v (.string ⟨#[]⟩),.v (.slice none 0 0)]),[some 0,some 1],false,[1,1]⟩:=by kernel_rfl
@[go_sem] theorem fo62:fieldsOk Tryz.prog 62=true:=by kernel_rfl
@[go_sem] theorem ti63:tI Tryz.prog 63=some ⟨true,2,40,some (.agg [.v (.string ⟨#[]⟩),.v (.slice none 0 0)]),[some 0,some 1],false,[1,1]⟩:=by kernel_rfl
@[go_sem] theorem fo63:fieldsOk Tryz.prog 63=true:=by kernel_rfl
@[go_sem] theorem ti65:tI Tryz.prog 65=some ⟨false,1,8,some (.v (.pointer none)),[],false,[]⟩:=by kernel_rfl
@[go_sem] theorem ti66:tI Tryz.prog 66=some ⟨false,1,24,some (.v (.slice none 0 0)),[],false,[]⟩:=by kernel_rfl
@[go_sem] theorem ti67:tI Tryz.prog 67=some ⟨true,2,32,some (.agg [.v (.pointer none),.v (.slice none 0 0)]),[some 0,some 1],false,[1,1]⟩:=by kernel_rfl
@[go_sem] theorem fo67:fieldsOk Tryz.prog 67=true:=by kernel_rfl
@[go_sem] theorem ti68:tI Tryz.prog 68=some ⟨true,2,32,some (.agg [.v (.pointer none),.v (.slice none 0 0)]),[some 0,some 1],false,[1,1]⟩:=by kernel_rfl
@[go_sem] theorem fo68:fieldsOk Tryz.prog 68=true:=by kernel_rfl
@[go_sem] theorem ti108:tI Tryz.prog 108=some ⟨false,1,8,some (.v (.pointer none)),[],false,[]⟩:=by kernel_rfl
@[go_sem] theorem ti111:tI Tryz.prog 111=some ⟨false,1,8,some (.v (.int .u64 0)),[],false,[]⟩:=by kernel_rfl
@[go_sem] theorem ti137:tI Tryz.prog 137=some ⟨false,1,8,some (.v (.int .i64 0)),[],false,[]⟩:=by kernel_rfl
@[go_sem] theorem ti145:tI Tryz.prog 145=some ⟨false,1,4,some (.v (.int .u32 0)),[],false,[]⟩:=by kernel_rfl
@[go_sem] theorem ti147:tI Tryz.prog 147=some ⟨false,1,8,some (.v (.int .u64 0)),[],false,[]⟩:=by kernel_rfl
@[go_sem] theorem ti148:tI Tryz.prog 148=some ⟨false,1,24,some (.v (.slice none 0 0)),[],false,[]⟩:=by kernel_rfl
@[go_sem] theorem ti149:tI Tryz.prog 149=some ⟨false,1,24,some (.v (.slice none 0 0)),[],false,[]⟩:=by kernel_rfl
@[go_sem] theorem ti153:tI Tryz.prog 153=some ⟨false,1,24,some (.v (.slice none 0 0)),[],false,[]⟩:=by kernel_rfl
@[go_sem] theorem ti156:tI Tryz.prog 156=some ⟨false,1,8,some (.v (.int .u64 0)),[],false,[]⟩:=by kernel_rfl
@[go_sem] theorem ti164:tI Tryz.prog 164=some ⟨false,1,8,some (.v (.int .u64 0)),[],false,[]⟩:=by kernel_rfl
@[go_sem] theorem ti168:tI Tryz.prog 168=some ⟨false,1,8,some (.v (.pointer none)),[],false,[]⟩:=by kernel_rfl
@[go_sem] theorem ti187:tI Tryz.prog 187=some ⟨false,1,8,some (.v (.pointer none)),[],false,[]⟩:=by kernel_rfl
@[go_sem] theorem ti189:tI Tryz.prog 189=some ⟨false,1,8,some (.v (.pointer none)),[],false,[]⟩:=by kernel_rfl
@[go_sem] theorem ti202:tI Tryz.prog 202=some ⟨true,2,2,some (.agg [.v (.int .u8 0),.v (.int .u8 0)]),[some 0,some 1],false,[1,1]⟩:=by kernel_rfl
@[go_sem] theorem fo202:fieldsOk Tryz.prog 202=true:=by kernel_rfl
@[go_sem] theorem ti203:tI Tryz.prog 203=some ⟨true,2,2,some (.agg [.v (.int .u8 0),.v (.int .u8 0)]),[some 0,some 1],false,[1,1]⟩:=by kernel_rfl
@[go_sem] theorem fo203:fieldsOk Tryz.prog 203=true:=by kernel_rfl
@[go_sem] theorem ti208:tI Tryz.prog 208=some ⟨true,4,40,some (.agg [.v (.pointer none),.v (.pointer none),.v (.pointer none),.v (.string ⟨#[]⟩)]),[some 0,some 1,some 2,some 3],false,[1,1,1,1]⟩:=by kernel_rfl
@[go_sem] theorem fo208:fieldsOk Tryz.prog 208=true:=by kernel_rfl
@[go_sem] theorem ti209:tI Tryz.prog 209=some ⟨true,4,40,some (.agg [.v (.pointer none),.v (.pointer none),.v (.pointer none),.v (.string ⟨#[]⟩)]),[some 0,some 1,some 2,some 3],false,[1,1,1,1]⟩:=by kernel_rfl
@[go_sem] theorem fo209:fieldsOk Tryz.prog 209=true:=by kernel_rfl
@[go_sem] theorem ti211:tI Tryz.prog 211=some ⟨true,0,0,some (.agg []),[none],false,[0]⟩:=by kernel_rfl
@[go_sem] theorem fo211:fieldsOk Tryz.prog 211=true:=by kernel_rfl
@[go_sem] theorem ti212:tI Tryz.prog 212=some ⟨true,0,0,some (.agg []),[none],false,[0]⟩:=by kernel_rfl
@[go_sem] theorem fo212:fieldsOk Tryz.prog 212=true:=by kernel_rfl
@[go_sem] theorem ti213:tI Tryz.prog 213=some ⟨false,1,1,some (.v (.int .u8 0)),[],false,[]⟩:=by kernel_rfl
@[go_sem] theorem ti214:tI Tryz.prog 214=some ⟨false,1,1,some (.v (.int .u8 0)),[],false,[]⟩:=by kernel_rfl
@[go_sem] theorem ti216:tI Tryz.prog 216=some ⟨false,1,4,some (.v (.int .i32 0)),[],false,[]⟩:=by kernel_rfl
@[go_sem] theorem ti217:tI Tryz.prog 217=some ⟨false,1,4,some (.v (.int .i32 0)),[],false,[]⟩:=by kernel_rfl
@[go_sem] theorem ts2:tS Tryz.prog 2=none:=by kernel_rfl
@[go_sem] theorem ts3:tS Tryz.prog 3=none:=by kernel_rfl
@[go_sem] theorem ts4:tS Tryz.prog 4=none:=by kernel_rfl
@[go_sem] theorem ts5:tS Tryz.prog 5=none:=by kernel_rfl
@[go_sem] theorem ts6:tS Tryz.prog 6=none:=by kernel_rfl
@[go_sem] theorem ts7:tS Tryz.prog 7=none:=by kernel_rfl
@[go_sem] theorem ts8:tS Tryz.prog 8=none:=by kernel_rfl
@[go_sem] theorem ts9:tS Tryz.prog 9=none:=by kernel_rfl
@[go_sem] theorem ts10:tS Tryz.prog 10=none:=by kernel_rfl
@[go_sem] theorem ts11:tS Tryz.prog 11=none:=by kernel_rfl
@[go_sem] theorem ts12:tS Tryz.prog 12=none:=by kernel_rfl
@[go_sem] theorem ts13:tS Tryz.prog 13=none:=by kernel_rfl
@[go_sem] theorem ts14:tS Tryz.prog 14=none:=by kernel_rfl
@[go_sem] theorem ts15:tS Tryz.prog 15=none:=by kernel_rfl
@[go_sem] theorem ts16:tS Tryz.prog 16=none:=by kernel_rfl
@[go_sem] theorem ts17:tS Tryz.prog 17=none:=by kernel_rfl
@[go_sem] theorem ts18:tS Tryz.prog 18=none:=by kernel_rfl
@[go_sem] theorem ts19:tS Tryz.prog 19=none:=by kernel_rfl
@[go_sem] theorem ts21:tS Tryz.prog 21=none:=by kernel_rfl
@[go_sem] theorem ts22:tS Tryz.prog 22=some (63,⟨true,2,40,some (.agg [.v (.string ⟨#[]⟩),.v (.slice none 0 0)]),[some 0,some 1],false,[1,1]⟩):=by kernel_rfl
@[go_sem] theorem ts23:tS Tryz.prog 23=some (31,⟨false,1,24,some (.v (.slice none 0 0)),[],false,[]⟩):=by kernel_rfl
@[go_sem] theorem ts24:tS Tryz.prog 24=some (32,⟨false,1,24,some (.v (.slice none 0 0)),[],false,[]⟩):=by kernel_rfl
@[go_sem] theorem ts25:tS Tryz.prog 25=none:=by kernel_rfl
@[go_sem] theorem ts26:tS Tryz.prog 26=none:=by kernel_rfl
@[go_sem] theorem ts28:tS Tryz.prog 28=none:=by kernel_rfl
@[go_sem] theorem ts31:tS Tryz.prog 31=some (3,⟨false,1,8,some (.v (.int .i64 0)),[],false,[]⟩):=by kernel_rfl
@[go_sem] theorem ts32:tS Tryz.prog 32=some (39,⟨true,3,40,some (.agg [.v (.bool false),.v (.string ⟨#[]⟩),.v (.string ⟨#[]⟩)]),[some 0,some 1,some 2],false,[1,1,1]⟩):=by kernel_rfl
@[go_sem] theorem ts33:tS Tryz.prog 33=none:=by kernel_rfl
@[go_sem] theorem ts34:tS Tryz.prog 34=none:=by kernel_rfl
@[go_sem] theorem ts37:tS Tryz.prog 37=none:=by kernel_rfl
@[go_sem] theorem ts38:tS Tryz.prog 38=none:=by kernel_rfl
@[go_sem] theorem ts39:tS Tryz.prog 39=none:=by kernel_rfl
@[go_sem] theorem ts48:tS Tryz.prog 48=none:=by kernel_rfl
@[go_sem] theorem ts49:tS Tryz.prog 49=none:=by kernel_rfl
@[go_sem] theorem ts61:tS Tryz.prog 61=some (9,⟨false,1,16,some (.v (.string ⟨#[]⟩)),[],true,[]⟩):=by kernel_rfl
@[go_sem] theorem ts62:tS Tryz.prog 62=none:=by kernel_rfl
@[go_sem] theorem ts63:tS Tryz.prog 63=none:=by kernel_rfl
@[go_sem] theorem ts65:tS Tryz.prog 65=none:=by kernel_rfl
@[go_sem] theorem ts66:tS Tryz.prog 66=some (5,⟨false,1,1,some (.v (.int .u8 0)),[],false,[]⟩):=by kernel_rfl
@[go_sem] theorem ts67:tS Tryz.prog 67=none:=by kernel_rfl
@[go_sem] theorem ts68:tS Tryz.prog 68=none:=by kernel_rfl
@[go_sem] theorem ts108:tS Tryz.prog 108=none:=by kernel_rfl
@[go_sem] theorem ts111:tS Tryz.prog 111=none:=by kernel_rfl
@[go_sem] theorem ts137:tS Tryz.prog 137=none:=by kernel_rfl
@[go_sem] theorem ts145:tS Tryz.prog 145=none:=by kernel_rfl
@[go_sem] theorem ts147:tS Tryz.prog 147=none:=by kernel_rfl
@[go_sem] theorem ts148:tS Tryz.prog 148=some (145,⟨false,1,4,some (.v (.int .u32 0)),[],false,[]⟩):=by kernel_rfl
@[go_sem] theorem ts149:tS Tryz.prog 149=some (145,⟨false,1,4,some (.v (.int .u32 0)),[],false,[]⟩):=by kernel_rfl
@[go_sem] theorem ts153:tS Tryz.prog 153=some (156,⟨false,1,8,some (.v (.int .u64 0)),[],false,[]⟩):=by kernel_rfl
@[go_sem] theorem ts156:tS Tryz.prog 156=none:=by kernel_rfl
@[go_sem] theorem ts164:tS Tryz.prog 164=none:=by kernel_rfl
@[go_sem] theorem ts168:tS Tryz.prog 168=none:=by kernel_rfl
@[go_sem] theorem ts187:tS Tryz.prog 187=none:=by kernel_rfl
@[go_sem] theorem ts189:tS Tryz.prog 189=none:=by kernel_rfl
@[go_sem] theorem ts202:tS Tryz.prog 202=none:=by kernel_rfl
@[go_sem] theorem ts203:tS Tryz.prog 203=none:=by kernel_rfl
@[go_sem] theorem ts208:tS Tryz.prog 208=none:=by kernel_rfl
@[go_sem] theorem ts209:tS Tryz.prog 209=none:=by kernel_rfl
@[go_sem] theorem ts211:tS Tryz.prog 211=none:=by kernel_rfl
@[go_sem] theorem ts212:tS Tryz.prog 212=none:=by kernel_rfl
@[go_sem] theorem ts213:tS Tryz.prog 213=none:=by kernel_rfl
@[go_sem] theorem ts214:tS Tryz.prog 214=none:=by kernel_rfl
@[go_sem] theorem ts216:tS Tryz.prog 216=none:=by kernel_rfl
@[go_sem] theorem ts217:tS Tryz.prog 217=none:=by kernel_rfl
theorem mixed:Tryz.prog.follows .mixedOrders=true:=by kernel_rfl
end Go.Proofs.YthehegidpamldaaGreatDoor
set_option linter.unusedVariables false
set_option linter.unusedSimpArgs false
namespace Go.Proofs.YthehegidpamldaaGreatDoor
open Go Go.RowKit
theorem upto_next {p:Nat→Prop} {i:Nat} (h:∀j,j<i→p j) (hi:p i):∀j,j<i+1→p j:=fun j hj=>by
 by_cases e:j=i
 ·subst e;exact hi
 ·exact h j (by omega)
theorem uptoL_next {α:Type} {l:List α} {p:α→Prop} {i:Nat} (h:∀j (hj:j<l.length),j<i→p l[j]) (hi:∀hj:i<l.length,p l[i]):∀j (hj:j<l.length),j<i+1→p l[j]:=fun j hj hji=>by
 by_cases e:j=i
 ·subst e;exact hi hj
 ·exact h j hj (by omega)
def fillL {α:Type} (n k:Nat) (f:Nat→α) (z:α):List α:=(List.range n).map fun j=>if j<k then f j else z
section
variable {α : Type} {n k : Nat} {f : Nat → α} {z : α}
theorem fill_len:(fillL n k f z).length=n:=by simp [fillL]
theorem fill_zero:fillL n 0 f z=List.replicate n z:=by
 apply List.ext_getElem?
 intro i
 by_cases h:i<n<;>simp [fillL,h]
theorem fill_get {i:Nat} (h:i<n):(fillL n k f z)[i]?=some (if i<k then f i else z):=by simp [fillL,h]
theorem fill_set (h:k<n):(fillL n k f z).set k (f k)=fillL n (k+1) f z:=by
 apply List.ext_getElem?
 intro i
 by_cases hi:i<n
 ·by_cases e:i=k
  ·subst e;rw [List.getElem?_set_self (by rw [fill_len];exact hi),fill_get hi,if_pos (by omega)]
  ·rw [List.getElem?_set_ne (Ne.symm e),fill_get hi,fill_get hi]
   by_cases hk:i<k
   ·rw [if_pos hk,if_pos (by omega)]
   ·rw [if_neg hk,if_neg (by omega)]
 ·rw [List.getElem?_eq_none (by rw [List.length_set,fill_len];omega),List.getElem?_eq_none (by rw [fill_len];omega)]
theorem fill_all:fillL n n f z=(List.range n).map f:=by
 unfold fillL
 refine List.map_congr_left fun i hi=>?_
 rw [if_pos (List.mem_range.1 hi)]
theorem range_set {g:Nat→α} {i:Nat} {x:α} (hi:i<n):((List.range n).map g).set i x=(List.range n).map fun k=>if k=i then x else g k:=by
 apply List.ext_getElem?
 intro j
 by_cases hj:j<n
 ·by_cases e:j=i
  ·subst e;rw [List.getElem?_set_self (by simpa using hj)];simp [hj]
  ·rw [List.getElem?_set_ne (Ne.symm e)];simp [hj,e]
 ·rw [List.getElem?_eq_none (by simp;omega),List.getElem?_eq_none (by simp;omega)]
end
theorem fillA_get {n k:Nat} {f:Nat→FV} {z:FV} {j:Nat} (h:j<n):((fillL n k f z).map AV.f)[j]?=some (.f (if j<k then f j else z)):=by rw [List.getElem?_map,fill_get h];rfl
theorem fillA_set {n k:Nat} {f:Nat→FV} {z x:FV} (h:k<n) (hx:f k=x):((fillL n k f z).map AV.f).set k (.f x)=(fillL n (k+1) f z).map AV.f:=by rw [←hx,←fill_set h,List.map_set]
end Go.Proofs.YthehegidpamldaaGreatDoor
set_option linter.unusedVariables false
set_option linter.unusedSimpArgs false
namespace Go.Proofs.YthehegidpamldaaGreatDoor
open Go Go.RowKit
def Ns (l:List Nat):List FV:=l.map fun k:Nat=>I (k:Int)
theorem Ns_len {l:List Nat}:(Ns l).length=l.length:=by unfold Ns;rw [List.length_map]
theorem Ns_get {l:List Nat} {i:Nat} (h:i<l.length):(Ns l)[i]?=some (I (l.getD i 0:Nat)):=by
 unfold Ns;rw [map_get (fun k:Nat=>I (k:Int)) l h,lget_lt l 0 h]
theorem Ns_snoc {l:List Nat} {j:Nat}:Ns l++[I (j:Int)]=Ns (l++[j]):=by simp [Ns]
set_option maxRecDepth 100000 in
set_option maxHeartbeats 4000000 in
theorem rin_w (k:Int) (l:List Int) (hk:-9223372036854775808≤k∧k≤9223372036854775807) (hl:l.length≤140737488355328):Good Tryz.prog 41 [I k,ints l] (Bo (decide (k∈l))):=by
 refine good_of Tryz.func41 rfl (by kernel_rfl) fun X hO hrd=>?_;rw [Tryz.ntmps41,Tryz.results41];simp only [ast0,List.map_cons,List.map_nil,List.length_cons,List.length_nil,Nat.reduceAdd,Nat.reduceSub,List.replicate_succ,List.replicate_zero,List.cons_append,List.nil_append]
 (repeat (with_reducible first|refine W_seq fun K hK=>?_|refine J_block ?_|refine J_region ?_ |(refine Kont.go (by assumption) ?_)|(simp (config:={ maxSteps:=3000000 }) (disch:=omega) only [go_sem])))
 refine W_loop [4,5,6,7,8,9,10,11,12,13,14,15,16,17] (fun x:Nat=>[(5,.f (I x))]) (fun x:Nat=>[]) (fun x:Nat=>x≤l.length∧∀j,j<x→l.getD j 0≠k) (fun x:Nat=>l.length-x) (0) (⟨Nat.zero_le _,fun j h=>by omega⟩) (by refine weak_of ?_ ?_<;>simp (disch:=omega) only [go_sem]<;>first|rfl|exact ⟨rfl,rfl⟩|exact Or.inl rfl|exact ⟨Or.inl rfl,Or.inl rfl⟩|trivial|assumption|omega|(symm;assumption)|((repeat' apply And.intro)<;>first|rfl|omega|trivial|exact .inl rfl|exact .inr ⟨rfl,rfl⟩|exact .inr rfl|(right;symm;assumption)|(symm;assumption)|assumption)) ?_
 rintro i ⟨hi,hp⟩
 simp only [go_sem]
 (repeat (with_reducible first|refine W_seq fun K hK=>?_|refine J_region ?_ |refine J_c ?_|(refine Kont.go (by assumption) ?_)|(simp (config:={ maxSteps:=3000000 }) (disch:=omega) only [go_sem,List.length_map])))
 refine Jc_if (fun hlt=>?_) (fun hlt=>?_)<;>try simp only [decide_eq_true_eq,decide_eq_false_iff_not] at hlt
 ·have hx:=map_get I l hlt
  by_cases e:l[i]=k
  ·have hm:decide (k∈l)=true:=decide_eq_true (e▸List.getElem_mem _)
   (repeat (with_reducible first|refine W_seq fun K hK=>?_|refine J_block ?_|refine J_skip ?_|refine J_ret ?_|refine J_region ?_ |refine J_c ?_|refine Jc_true ?_|(refine Kont.go (by assumption) ?_)|(simp (config:={ maxSteps:=3000000 }) (disch:=omega) only [go_sem,↓reduceIte,hx,e])))
   rw [hm]
   exact Frz.f _
  ·(repeat (with_reducible first|refine W_seq fun K hK=>?_|refine J_block ?_|refine J_skip ?_|refine J_region ?_ |refine J_c ?_|refine Jc_false ?_|(refine Kont.go (by assumption) ?_)|(simp (config:={ maxSteps:=3000000 }) (disch:=omega) only [go_sem,↓reduceIte,hx,e])))
   refine ⟨i+1,⟨by omega,upto_next (p:=fun j=>l.getD j 0≠k) hp (by rw [lget_lt l 0 hlt];exact e)⟩,by omega,weak_of ?_ ?_⟩<;>(try simp (disch:=omega) only [go_sem])<;>(try first|done|omega|rfl|exact ⟨rfl,rfl⟩|trivial)
 ·have he:i=l.length:=by omega
  have hm:decide (k∈l)=false:=decide_eq_false fun hm=>by
   obtain ⟨c,hc,e⟩:=List.getElem_of_mem hm
   exact hp c (by omega) (by rw [lget_lt l 0 hc];exact e)
  (repeat (with_reducible first|refine W_seq fun K hK=>?_|refine J_exit ?_|refine J_ret ?_|refine J_region ?_ |(refine Kont.go (by assumption) ?_)|(simp (config:={ maxSteps:=3000000 }) (disch:=omega) only [go_sem,↓reduceIte])))
  rw [hm]
  exact Frz.f _
theorem rinN_w (k:Nat) (l:List Nat) (hk:k≤1000000) (hl:l.length≤1000000):Good Tryz.prog 41 [I (k:Int),.fz 1 (Ns l)] (Bo (decide (k∈l))):=by
 have h:=rin_w (k:Int) (l.map Int.ofNat) (by omega) (by rw [List.length_map];omega)
 have e1:ints (l.map Int.ofNat)=.fz 1 (Ns l):=by unfold Ns;simp [ints]
 have e2:decide ((k:Int)∈l.map Int.ofNat)=decide (k∈l):=by
  have:((k:Int)∈l.map Int.ofNat)=(k∈l):=propext ⟨fun h=>by
   obtain ⟨a,ha,e⟩:=List.mem_map.1 h
   have:a=k:=Int.ofNat.inj e
   exact this▸ha,fun h=>List.mem_map.2 ⟨k,h,rfl⟩⟩
  simp only [this]
 rw [e1,e2] at h
 exact h
def prevI (l:List Int) (x:Nat):Int:=if x=0 then -1 else l.getD (x-1) 0
def risB (n:Nat) (l:List Int):Bool:=(List.range l.length).all fun x=>decide (prevI l x<l.getD x 0)&&decide (l.getD x 0<(n:Int))
theorem prevI_next {l:List Int} {x:Nat}:prevI l (x+1)=l.getD x 0:=by unfold prevI;rw [if_neg (by omega)];rfl
theorem risB_iff {n:Nat} {l:List Int}:risB n l=true↔∀x,x<l.length→prevI l x<l.getD x 0∧l.getD x 0<(n:Int):=by
 simp [risB]
end Go.Proofs.YthehegidpamldaaGreatDoor
set_option linter.unusedVariables false
set_option linter.unusedSimpArgs false
namespace Go.Proofs.YthehegidpamldaaGreatDoor
open Go Go.RowKit
theorem rep_two {α:Type} (x:α):List.replicate 2 x=[x,x]:=(rfl)
theorem rep_three {α:Type} (x:α):List.replicate 3 x=[x,x,x]:=(rfl)
theorem rep_four {α:Type} (x:α):List.replicate 4 x=[x,x,x,x]:=(rfl)
theorem rep_five {α:Type} (x:α):List.replicate 5 x=[x,x,x,x,x]:=(rfl)
theorem opt_ex {α:Type} {a:α} {p:α→Prop}:(∃e,some a=some e∧p e)=p a:=propext ⟨fun ⟨e,h,hp⟩=>by cases h;exact hp,fun h=>⟨a,rfl,h⟩⟩
theorem objLt_fset (N:Nat) (e:TypeId) (sz i:Nat) (l:List FV) (x:FV):objLt N ⟨e,sz,(l.map AV.f).set i (.f x)⟩=True:=by
 rw [←List.map_set];exact objLt_f N e sz _
theorem acallQV_f {P:Program} {f:FuncId} {a b:List FV} {xs:List AV} {H:AH} {k:AV→Prop}:acallQV P (.f (.fn f a b)) xs H k=acallQ P f (a.map .f++xs++b.map .f) H k:=(rfl)
theorem acallV_f {P:Program} {f:FuncId} {a b:List FV} {xs:List AV} {s:AS} {d:Option Tmp} {K:AS→Prop}:acallV P (.f (.fn f a b)) xs s d K=acall P f (a.map .f++xs++b.map .f) s d K:=(rfl)
attribute [go_sem] objLt_fset acallQV_f acallV_f
attribute [go_sem] rep_two rep_three rep_four rep_five opt_ex
end Go.Proofs.YthehegidpamldaaGreatDoor
