/- What the types of this program are, for the abstract machine. Made by geninfo.py. -/
import Derived.Test.YtcgagiimlkjcpaaGreatDoorProg
import Derived.Test.YtcgagiimlkjcpaaGreatDoorZAmM
set_option linter.unusedVariables false
namespace Go.Proofs.YtcgagiimlkjcpaaGreatDoor
open Go
@[go_sem] theorem ti2:tI Tryz.prog 2=some ⟨false,1,8,some (.v (.int .i64 0)),[],false,[]⟩:=by kernel_rfl
@[go_sem] theorem ti3:tI Tryz.prog 3=some ⟨false,1,8,some (.v (.int .i64 0)),[],false,[]⟩:=by kernel_rfl
@[go_sem] theorem ti4:tI Tryz.prog 4=some ⟨false,1,1,some (.v (.bool false)),[],false,[]⟩:=by kernel_rfl
@[go_sem] theorem ti5:tI Tryz.prog 5=some ⟨false,1,1,some (.v (.int .u8 0)),[],false,[]⟩:=by kernel_rfl
@[go_sem] theorem ti6:tI Tryz.prog 6=some ⟨false,1,1,some (.v (.int .u8 0)),[],false,[]⟩:=by kernel_rfl
@[go_sem] theorem ti7:tI Tryz.prog 7=some ⟨true,4,24,some (.agg [.v (.int .i64 0),.v (.int .i64 0),.v (.bool false),.v (.int .u8 0)]),[some 0,some 1,some 2,some 3],false,[1,1,1,1]⟩:=by kernel_rfl
@[go_sem] theorem fo7:fieldsOk Tryz.prog 7=true:=by kernel_rfl
@[go_sem] theorem ti8:tI Tryz.prog 8=some ⟨true,4,24,some (.agg [.v (.int .i64 0),.v (.int .i64 0),.v (.bool false),.v (.int .u8 0)]),[some 0,some 1,some 2,some 3],false,[1,1,1,1]⟩:=by kernel_rfl
@[go_sem] theorem fo8:fieldsOk Tryz.prog 8=true:=by kernel_rfl
@[go_sem] theorem ti9:tI Tryz.prog 9=some ⟨false,1,16,some (.v (.string ⟨#[]⟩)),[],true,[]⟩:=by kernel_rfl
@[go_sem] theorem ti10:tI Tryz.prog 10=some ⟨false,1,16,some (.v (.string ⟨#[]⟩)),[],true,[]⟩:=by kernel_rfl
@[go_sem] theorem ti11:tI Tryz.prog 11=some ⟨false,1,16,some (.v (.string ⟨#[]⟩)),[],true,[]⟩:=by kernel_rfl
@[go_sem] theorem ti12:tI Tryz.prog 12=some ⟨false,1,8,some (.v (.int .u64 0)),[],false,[]⟩:=by kernel_rfl
@[go_sem] theorem ti13:tI Tryz.prog 13=some ⟨true,2,24,some (.agg [.v (.string ⟨#[]⟩),.v (.int .u64 0)]),[some 0,some 1],false,[1,1]⟩:=by kernel_rfl
@[go_sem] theorem fo13:fieldsOk Tryz.prog 13=true:=by kernel_rfl
@[go_sem] theorem ti14:tI Tryz.prog 14=some ⟨true,2,24,some (.agg [.v (.string ⟨#[]⟩),.v (.int .u64 0)]),[some 0,some 1],false,[1,1]⟩:=by kernel_rfl
@[go_sem] theorem fo14:fieldsOk Tryz.prog 14=true:=by kernel_rfl
@[go_sem] theorem ti15:tI Tryz.prog 15=some ⟨false,1,8,some (.v (.pointer none)),[],false,[]⟩:=by kernel_rfl
@[go_sem] theorem ti16:tI Tryz.prog 16=some ⟨false,1,8,some (.v (.pointer none)),[],false,[]⟩:=by kernel_rfl
@[go_sem] theorem ti17:tI Tryz.prog 17=some ⟨false,1,8,some (.v (.pointer none)),[],false,[]⟩:=by kernel_rfl
@[go_sem] theorem ti18:tI Tryz.prog 18=some ⟨true,1,8,some (.agg [.v (.pointer none)]),[some 0],false,[1]⟩:=by kernel_rfl
@[go_sem] theorem fo18:fieldsOk Tryz.prog 18=true:=by kernel_rfl
@[go_sem] theorem ti19:tI Tryz.prog 19=some ⟨true,1,8,some (.agg [.v (.pointer none)]),[some 0],false,[1]⟩:=by kernel_rfl
@[go_sem] theorem fo19:fieldsOk Tryz.prog 19=true:=by kernel_rfl
@[go_sem] theorem ti21:tI Tryz.prog 21=some ⟨false,1,4,some (.v (.int .i32 0)),[],false,[]⟩:=by kernel_rfl
@[go_sem] theorem ti22:tI Tryz.prog 22=some ⟨false,1,24,some (.v (.slice none 0 0)),[],false,[]⟩:=by kernel_rfl
@[go_sem] theorem ti23:tI Tryz.prog 23=some ⟨false,1,24,some (.v (.slice none 0 0)),[],false,[]⟩:=by kernel_rfl
@[go_sem] theorem ti24:tI Tryz.prog 24=some ⟨false,1,24,some (.v (.slice none 0 0)),[],false,[]⟩:=by kernel_rfl
@[go_sem] theorem ti27:tI Tryz.prog 27=some ⟨false,1,8,some (.v (.int .i64 0)),[],false,[]⟩:=by kernel_rfl
@[go_sem] theorem ti35:tI Tryz.prog 35=some ⟨false,1,24,some (.v (.slice none 0 0)),[],false,[]⟩:=by kernel_rfl
@[go_sem] theorem ti36:tI Tryz.prog 36=some ⟨false,1,24,some (.v (.slice none 0 0)),[],false,[]⟩:=by kernel_rfl
@[go_sem] theorem ti42:tI Tryz.prog 42=some ⟨false,1,16,some (.v (.string ⟨#[]⟩)),[],true,[]⟩:=by kernel_rfl
@[go_sem] theorem ti43:tI Tryz.prog 43=some ⟨true,3,40,some (.agg [.v (.bool false),.v (.string ⟨#[]⟩),.v (.string ⟨#[]⟩)]),[some 0,some 1,some 2],false,[1,1,1]⟩:=by kernel_rfl
@[go_sem] theorem fo43:fieldsOk Tryz.prog 43=true:=by kernel_rfl
@[go_sem] theorem ti44:tI Tryz.prog 44=some ⟨true,3,40,some (.agg [.v (.bool false),.v (.string ⟨#[]⟩),.v (.string ⟨#[]⟩)]),[some 0,some 1,some 2],false,[1,1,1]⟩:=by kernel_rfl
@[go_sem] theorem fo44:fieldsOk Tryz.prog 44=true:=by kernel_rfl
@[go_sem] theorem ti55:tI Tryz.prog 55=some ⟨false,1,24,some (.v (.slice none 0 0)),[],false,[]⟩:=by kernel_rfl
@[go_sem] theorem ti56:tI Tryz.prog 56=some ⟨true,3,72,some (.agg [.v (.slice none 0 0),.v (.slice none 0 0),.v (.slice none 0 0)]),[some 0,some 1,some 2],false,[1,1,1]⟩:=by kernel_rfl
@[go_sem] theorem fo56:fieldsOk Tryz.prog 56=true:=by kernel_rfl
@[go_sem] theorem ti57:tI Tryz.prog 57=some ⟨true,3,72,some (.agg [.v (.slice none 0 0),.v (.slice none 0 0),.v (.slice none 0 0)]),[some 0,some 1,some 2],false,[1,1,1]⟩:=by kernel_rfl
@[go_sem] theorem fo57:fieldsOk Tryz.prog 57=true:=by kernel_rfl
@[go_sem] theorem ti61:tI Tryz.prog 61=some ⟨true,3,72,some (.agg [.v (.slice none 0 0),.v (.slice none 0 0),.v (.slice none 0 0)]),[some 0,some 1,some 2],false,[1,1,1]⟩:=by kernel_rfl
@[go_sem] theorem fo61:fieldsOk Tryz.prog 61=true:=by kernel_rfl
@[go_sem] theorem ti62:tI Tryz.prog 62=some ⟨true,3,72,some (.agg [.v (.slice none 0 0),.v (.slice none 0 0),.v (.slice none 0 0)]),[some 0,some 1,some 2],false,[1,1,1]⟩:=by kernel_rfl
@[go_sem] theorem fo62:fieldsOk Tryz.prog 62=true:=by kernel_rfl
@[go_sem] theorem ti78:tI Tryz.prog 78=some ⟨true,2,48,some (.agg [.v (.slice none 0 0),.v (.slice none 0 0)]),[some 0,some 1],false,[1,1]⟩:=by kernel_rfl
@[go_sem] theorem fo78:fieldsOk Tryz.prog 78=true:=by kernel_rfl
@[go_sem] theorem ti79:tI Tryz.prog 79=some ⟨true,2,48,some (.agg [.v (.slice none 0 0),.v (.slice none 0 0)]),[some 0,some 1],false,[1,1]⟩:=by kernel_rfl
@[go_sem] theorem fo79:fieldsOk Tryz.prog 79=true:=by kernel_rfl
@[go_sem] theorem ti87:tI Tryz.prog 87=some ⟨true,7,88,some (.agg [.v (.string ⟨#[]⟩),.v (.int .i64 0),.v (.int .i64 0),.v (.string ⟨#[]⟩),.v (.bool false),.v (.string ⟨#[]⟩),.v (.string ⟨#[]⟩)]),[some 0,some 1,some 2,some 3,some 4],false,[1,1,1,1,3]⟩:=by kernel_rfl
@[go_sem] theorem fo87:fieldsOk Tryz.prog 87=true:=by kernel_rfl
@[go_sem] theorem ti88:tI Tryz.prog 88=some ⟨true,7,88,some (.agg [.v (.string ⟨#[]⟩),.v (.int .i64 0),.v (.int .i64 0),.v (.string ⟨#[]⟩),.v (.bool false),.v (.string ⟨#[]⟩),.v (.string ⟨#[]⟩)]),[some 0,some 1,some 2,some 3,some 4],false,[1,1,1,1,3]⟩:=by kernel_rfl
@[go_sem] theorem fo88:fieldsOk Tryz.prog 88=true:=by kernel_rfl
@[go_sem] theorem ti89:tI Tryz.prog 89=some ⟨true,8,112,some (.agg [.v (.int .i64 0),.v (.bool false),.v (.string ⟨#[]⟩),.v (.string ⟨#[]⟩),.v (.int .i64 0),.v (.int .i64 0),.v (.slice none 0 0),.v (.slice none 0 0)]),[some 0,some 1,some 4,some 5,some 6,some 7],false,[1,3,1,1,1,1]⟩:=by kernel_rfl
@[go_sem] theorem fo89:fieldsOk Tryz.prog 89=true:=by kernel_rfl
@[go_sem] theorem ti90:tI Tryz.prog 90=some ⟨true,8,112,some (.agg [.v (.int .i64 0),.v (.bool false),.v (.string ⟨#[]⟩),.v (.string ⟨#[]⟩),.v (.int .i64 0),.v (.int .i64 0),.v (.slice none 0 0),.v (.slice none 0 0)]),[some 0,some 1,some 4,some 5,some 6,some 7],false,[1,3,1,1,1,1]⟩:=by kernel_rfl
@[go_sem] theorem fo90:fieldsOk Tryz.prog 90=true:=by kernel_rfl
@[go_sem] theorem ti91:tI Tryz.prog 91=some ⟨false,1,24,some (.v (.slice none 0 0)),[],false,[]⟩:=by kernel_rfl
@[go_sem] theorem ti92:tI Tryz.prog 92=some ⟨true,19,248,some (.agg [.v (.string ⟨#[]⟩),.v (.int .i64 0),.v (.int .i64 0),.v (.string ⟨#[]⟩),.v (.bool false),.v (.string ⟨#[]⟩),.v (.string ⟨#[]⟩),.v (.int .i64 0),.v (.int .i64 0),.v (.int .i64 0),.v (.int .i64 0),.v (.bool false),.v (.string ⟨#[]⟩),.v (.string ⟨#[]⟩),.v (.int .i64 0),.v (.int .i64 0),.v (.slice none 0 0),.v (.slice none 0 0),.v (.slice none 0 0)]),[some 0,some 7,some 8,some 9,some 10,some 18],false,[7,1,1,1,8,1]⟩:=by kernel_rfl
@[go_sem] theorem fo92:fieldsOk Tryz.prog 92=true:=by kernel_rfl
@[go_sem] theorem ti93:tI Tryz.prog 93=some ⟨true,19,248,some (.agg [.v (.string ⟨#[]⟩),.v (.int .i64 0),.v (.int .i64 0),.v (.string ⟨#[]⟩),.v (.bool false),.v (.string ⟨#[]⟩),.v (.string ⟨#[]⟩),.v (.int .i64 0),.v (.int .i64 0),.v (.int .i64 0),.v (.int .i64 0),.v (.bool false),.v (.string ⟨#[]⟩),.v (.string ⟨#[]⟩),.v (.int .i64 0),.v (.int .i64 0),.v (.slice none 0 0),.v (.slice none 0 0),.v (.slice none 0 0)]),[some 0,some 7,some 8,some 9,some 10,some 18],false,[7,1,1,1,8,1]⟩:=by kernel_rfl
@[go_sem] theorem fo93:fieldsOk Tryz.prog 93=true:=by kernel_rfl
@[go_sem] theorem ti95:tI Tryz.prog 95=some ⟨false,1,24,some (.v (.slice none 0 0)),[],false,[]⟩:=by kernel_rfl
@[go_sem] theorem ti96:tI Tryz.prog 96=some ⟨true,2,48,some (.agg [.v (.slice none 0 0),.v (.slice none 0 0)]),[some 0,some 1],false,[1,1]⟩:=by kernel_rfl
@[go_sem] theorem fo96:fieldsOk Tryz.prog 96=true:=by kernel_rfl
@[go_sem] theorem ti97:tI Tryz.prog 97=some ⟨true,2,48,some (.agg [.v (.slice none 0 0),.v (.slice none 0 0)]),[some 0,some 1],false,[1,1]⟩:=by kernel_rfl
@[go_sem] theorem fo97:fieldsOk Tryz.prog 97=true:=by kernel_rfl
@[go_sem] theorem ti99:tI Tryz.prog 99=some ⟨true,2,16,some (.agg [.v (.int .i64 0),.v (.int .i64 0)]),[some 0,some 1],false,[1,1]⟩:=by kernel_rfl
@[go_sem] theorem fo99:fieldsOk Tryz.prog 99=true:=by kernel_rfl
@[go_sem] theorem ti100:tI Tryz.prog 100=some ⟨true,2,16,some (.agg [.v (.int .i64 0),.v (.int .i64 0)]),[some 0,some 1],false,[1,1]⟩:=by kernel_rfl
@[go_sem] theorem fo100:fieldsOk Tryz.prog 100=true:=by kernel_rfl
@[go_sem] theorem ti104:tI Tryz.prog 104=some ⟨false,1,24,some (.v (.slice none 0 0)),[],false,[]⟩:=by kernel_rfl
@[go_sem] theorem ti105:tI Tryz.prog 105=some ⟨true,7,104,some (.agg [.v (.slice none 0 0),.v (.bool false),.v (.string ⟨#[]⟩),.v (.string ⟨#[]⟩),.v (.bool false),.v (.string ⟨#[]⟩),.v (.string ⟨#[]⟩)]),[some 0,some 1,some 4],false,[1,3,3]⟩:=by kernel_rfl
@[go_sem] theorem fo105:fieldsOk Tryz.prog 105=true:=by kernel_rfl
@[go_sem] theorem ti106:tI Tryz.prog 106=some ⟨true,7,104,some (.agg [.v (.slice none 0 0),.v (.bool false),.v (.string ⟨#[]⟩),.v (.string ⟨#[]⟩),.v (.bool false),.v (.string ⟨#[]⟩),.v (.string ⟨#[]⟩)]),[some 0,some 1,some 4],false,[1,3,3]⟩:=by kernel_rfl
@[go_sem] theorem fo106:fieldsOk Tryz.prog 106=true:=by kernel_rfl
@[go_sem] theorem ti146:tI Tryz.prog 146=some ⟨false,1,24,some (.v (.slice none 0 0)),[],false,[]⟩:=by kernel_rfl
@[go_sem] theorem ti147:tI Tryz.prog 147=some ⟨true,2,40,some (.agg [.v (.string ⟨#[]⟩),.v (.slice none 0 0)]),[some 0,some 1],false,[1,1]⟩:=by kernel_rfl
@[go_sem] theorem fo147:fieldsOk Tryz.prog 147=true:=by kernel_rfl
@[go_sem] theorem ti148:tI Tryz.prog 148=some ⟨true,2,40,some (.agg [.v (.string ⟨#[]⟩),.v (.slice none 0 0)]),[some 0,some 1],false,[1,1]⟩:=by kernel_rfl
@[go_sem] theorem fo148:fieldsOk Tryz.prog 148=true:=by kernel_rfl
@[go_sem] theorem ti150:tI Tryz.prog 150=some ⟨false,1,8,some (.v (.pointer none)),[],false,[]⟩:=by kernel_rfl
@[go_sem] theorem ti151:tI Tryz.prog 151=some ⟨false,1,24,some (.v (.slice none 0 0)),[],false,[]⟩:=by kernel_rfl
@[go_sem] theorem ti152:tI Tryz.prog 152=some ⟨true,2,32,some (.agg [.v (.pointer none),.v (.slice none 0 0)]),[some 0,some 1],false,[1,1]⟩:=by kernel_rfl
@[go_sem] theorem fo152:fieldsOk Tryz.prog 152=true:=by kernel_rfl
@[go_sem] theorem ti153:tI Tryz.prog 153=some ⟨true,2,32,some (.agg [.v (.pointer none),.v (.slice none 0 0)]),[some 0,some 1],false,[1,1]⟩:=by kernel_rfl
@[go_sem] theorem fo153:fieldsOk Tryz.prog 153=true:=by kernel_rfl
@[go_sem] theorem ti190:tI Tryz.prog 190=some ⟨true,4,48,some (.agg [.v (.int .i64 0),.v (.slice none 0 0),.v (.int .i64 0),.v (.int .i64 0)]),[some 0,some 1,some 2],false,[1,1,2]⟩:=by kernel_rfl
@[go_sem] theorem fo190:fieldsOk Tryz.prog 190=true:=by kernel_rfl
@[go_sem] theorem ti191:tI Tryz.prog 191=some ⟨true,4,48,some (.agg [.v (.int .i64 0),.v (.slice none 0 0),.v (.int .i64 0),.v (.int .i64 0)]),[some 0,some 1,some 2],false,[1,1,2]⟩:=by kernel_rfl
@[go_sem] theorem fo191:fieldsOk Tryz.prog 191=true:=by kernel_rfl
@[go_sem] theorem ti193:tI Tryz.prog 193=some ⟨false,1,24,some (.v (.slice none 0 0)),[],false,[]⟩:=by kernel_rfl
@[go_sem] theorem ti194:tI Tryz.prog 194=some ⟨false,1,24,some (.v (.slice none 0 0)),[],false,[]⟩:=by kernel_rfl
@[go_sem] theorem ti195:tI Tryz.prog 195=some ⟨true,2,48,some (.agg [.v (.slice none 0 0),.v (.slice none 0 0)]),[some 0,some 1],false,[1,1]⟩:=by kernel_rfl
@[go_sem] theorem fo195:fieldsOk Tryz.prog 195=true:=by kernel_rfl
@[go_sem] theorem ti196:tI Tryz.prog 196=some ⟨true,2,48,some (.agg [.v (.slice none 0 0),.v (.slice none 0 0)]),[some 0,some 1],false,[1,1]⟩:=by kernel_rfl
@[go_sem] theorem fo196:fieldsOk Tryz.prog 196=true:=by kernel_rfl
@[go_sem] theorem ti232:tI Tryz.prog 232=some ⟨false,1,8,some (.v (.pointer none)),[],false,[]⟩:=by kernel_rfl
@[go_sem] theorem ti242:tI Tryz.prog 242=some ⟨false,1,8,some (.v (.int .u64 0)),[],false,[]⟩:=by kernel_rfl
@[go_sem] theorem ti245:tI Tryz.prog 245=some ⟨false,1,8,some (.v (.pointer none)),[],false,[]⟩:=by kernel_rfl
@[go_sem] theorem ti246:tI Tryz.prog 246=some ⟨true,3,64,some (.agg [.v (.string ⟨#[]⟩),.v (.slice none 0 0),.v (.slice none 0 0)]),[some 0,some 1,some 2],false,[1,1,1]⟩:=by kernel_rfl
@[go_sem] theorem fo246:fieldsOk Tryz.prog 246=true:=by kernel_rfl
@[go_sem] theorem ti247:tI Tryz.prog 247=some ⟨true,3,64,some (.agg [.v (.string ⟨#[]⟩),.v (.slice none 0 0),.v (.slice none 0 0)]),[some 0,some 1,some 2],false,[1,1,1]⟩:=by kernel_rfl
@[go_sem] theorem fo247:fieldsOk Tryz.prog 247=true:=by kernel_rfl
@[go_sem] theorem ti253:tI Tryz.prog 253=some ⟨false,1,8,some (.v (.pointer none)),[],false,[]⟩:=by kernel_rfl
@[go_sem] theorem ti254:tI Tryz.prog 254=some ⟨true,5,120,some (.agg [.v (.slice none 0 0),.v (.slice none 0 0),.v (.slice none 0 0),.v (.slice none 0 0),.v (.slice none 0 0)]),[some 0,some 2,some 3],false,[2,1,2]⟩:=by kernel_rfl
@[go_sem] theorem fo254:fieldsOk Tryz.prog 254=true:=by kernel_rfl
@[go_sem] theorem ti255:tI Tryz.prog 255=some ⟨true,5,120,some (.agg [.v (.slice none 0 0),.v (.slice none 0 0),.v (.slice none 0 0),.v (.slice none 0 0),.v (.slice none 0 0)]),[some 0,some 2,some 3],false,[2,1,2]⟩:=by kernel_rfl
@[go_sem] theorem fo255:fieldsOk Tryz.prog 255=true:=by kernel_rfl
@[go_sem] theorem ti258:tI Tryz.prog 258=some ⟨false,1,8,some (.v (.pointer none)),[],false,[]⟩:=by kernel_rfl
@[go_sem] theorem ti261:tI Tryz.prog 261=some ⟨false,1,8,some (.v (.int .i64 0)),[],false,[]⟩:=by kernel_rfl
@[go_sem] theorem ti264:tI Tryz.prog 264=some ⟨false,1,8,some (.v (.pointer none)),[],false,[]⟩:=by kernel_rfl
@[go_sem] theorem ti265:tI Tryz.prog 265=some ⟨true,5,40,some (.agg [.v (.string ⟨#[]⟩),.v (.int .i64 0),.v (.int .i64 0),.v (.bool false),.v (.bool false)]),[some 0,some 1,some 2,some 3,some 4],false,[1,1,1,1,1]⟩:=by kernel_rfl
@[go_sem] theorem fo265:fieldsOk Tryz.prog 265=true:=by kernel_rfl
@[go_sem] theorem ti266:tI Tryz.prog 266=some ⟨true,5,40,some (.agg [.v (.string ⟨#[]⟩),.v (.int .i64 0),.v (.int .i64 0),.v (.bool false),.v (.bool false)]),[some 0,some 1,some 2,some 3,some 4],false,[1,1,1,1,1]⟩:=by kernel_rfl
@[go_sem] theorem fo266:fieldsOk Tryz.prog 266=true:=by kernel_rfl
@[go_sem] theorem ti270:tI Tryz.prog 270=some ⟨true,4,48,some (.agg [.v (.int .i64 0),.v (.bool false),.v (.string ⟨#[]⟩),.v (.string ⟨#[]⟩)]),[some 0,some 1],false,[1,3]⟩:=by kernel_rfl
@[go_sem] theorem fo270:fieldsOk Tryz.prog 270=true:=by kernel_rfl
@[go_sem] theorem ti271:tI Tryz.prog 271=some ⟨true,4,48,some (.agg [.v (.int .i64 0),.v (.bool false),.v (.string ⟨#[]⟩),.v (.string ⟨#[]⟩)]),[some 0,some 1],false,[1,3]⟩:=by kernel_rfl
@[go_sem] theorem fo271:fieldsOk Tryz.prog 271=true:=by kernel_rfl
@[go_sem] theorem ti278:tI Tryz.prog 278=some ⟨false,1,24,some (.v (.slice none 0 0)),[],false,[]⟩:=by kernel_rfl
@[go_sem] theorem ti279:tI Tryz.prog 279=some ⟨false,1,24,some (.v (.slice none 0 0)),[],false,[]⟩:=by kernel_rfl
@[go_sem] theorem ti281:tI Tryz.prog 281=some ⟨false,1,8,some (.v (.int .u64 0)),[],false,[]⟩:=by kernel_rfl
@[go_sem] theorem ti282:tI Tryz.prog 282=some ⟨false,1,4,some (.v (.int .u32 0)),[],false,[]⟩:=by kernel_rfl
@[go_sem] theorem ti301:tI Tryz.prog 301=some ⟨false,1,8,some (.v (.int .i64 0)),[],false,[]⟩:=by kernel_rfl
@[go_sem] theorem ti310:tI Tryz.prog 310=some ⟨false,1,8,some (.v (.pointer none)),[],false,[]⟩:=by kernel_rfl
@[go_sem] theorem ti311:tI Tryz.prog 311=some ⟨false,1,24,some (.v (.slice none 0 0)),[],false,[]⟩:=by kernel_rfl
@[go_sem] theorem ti313:tI Tryz.prog 313=some ⟨true,4,48,some (.agg [.v (.slice none 0 0),.v (.int .i64 0),.v (.int .i64 0),.v (.int .i64 0)]),[some 0,some 1,some 2,some 3],false,[1,1,1,1]⟩:=by kernel_rfl
@[go_sem] theorem fo313:fieldsOk Tryz.prog 313=true:=by kernel_rfl
@[go_sem] theorem ti314:tI Tryz.prog 314=some ⟨true,4,48,some (.agg [.v (.slice none 0 0),.v (.int .i64 0),.v (.int .i64 0),.v (.int .i64 0)]),[some 0,some 1,some 2,some 3],false,[1,1,1,1]⟩:=by kernel_rfl
@[go_sem] theorem fo314:fieldsOk Tryz.prog 314=true:=by kernel_rfl
@[go_sem] theorem ti319:tI Tryz.prog 319=some ⟨false,1,24,some (.v (.slice none 0 0)),[],false,[]⟩:=by kernel_rfl
@[go_sem] theorem ti320:tI Tryz.prog 320=some ⟨true,4,56,some (.agg [.v (.int .i64 0),.v (.int .i64 0),.v (.string ⟨#[]⟩),.v (.slice none 0 0)]),[some 0,some 1,some 2,some 3],false,[1,1,1,1]⟩:=by kernel_rfl
@[go_sem] theorem fo320:fieldsOk Tryz.prog 320=true:=by kernel_rfl
@[go_sem] theorem ti321:tI Tryz.prog 321=some ⟨true,4,56,some (.agg [.v (.int .i64 0),.v (.int .i64 0),.v (.string ⟨#[]⟩),.v (.slice none 0 0)]),[some 0,some 1,some 2,some 3],false,[1,1,1,1]⟩:=by kernel_rfl
@[go_sem] theorem fo321:fieldsOk Tryz.prog 321=true:=by kernel_rfl
@[go_sem] theorem ti322:tI Tryz.prog 322=some ⟨true,17,248,some (.agg [.v (.int .i64 0),.v (.string ⟨#[]⟩),.v (.int .i64 0),.v (.int .i64 0),.v (.int .i64 0),.v (.string ⟨#[]⟩),.v (.slice none 0 0),.v (.int .i64 0),.v (.bool false),.v (.string ⟨#[]⟩),.v (.string ⟨#[]⟩),.v (.int .i64 0),.v (.int .i64 0),.v (.slice none 0 0),.v (.slice none 0 0),.v (.slice none 0 0),.v (.slice none 0 0)]),[some 0,some 1,some 2,some 3,some 7,some 15,some 16],false,[1,1,1,4,8,1,1]⟩:=by kernel_rfl
@[go_sem] theorem fo322:fieldsOk Tryz.prog 322=true:=by kernel_rfl
@[go_sem] theorem ti323:tI Tryz.prog 323=some ⟨true,17,248,some (.agg [.v (.int .i64 0),.v (.string ⟨#[]⟩),.v (.int .i64 0),.v (.int .i64 0),.v (.int .i64 0),.v (.string ⟨#[]⟩),.v (.slice none 0 0),.v (.int .i64 0),.v (.bool false),.v (.string ⟨#[]⟩),.v (.string ⟨#[]⟩),.v (.int .i64 0),.v (.int .i64 0),.v (.slice none 0 0),.v (.slice none 0 0),.v (.slice none 0 0),.v (.slice none 0 0)]),[some 0,some 1,some 2,some 3,some 7,some 15,some 16],false,[1,1,1,4,8,1,1]⟩:=by kernel_rfl
@[go_sem] theorem fo323:fieldsOk Tryz.prog 323=true:=by kernel_rfl
@[go_sem] theorem ti324:tI Tryz.prog 324=some ⟨false,1,8,some (.v (.pointer none)),[],false,[]⟩:=by kernel_rfl
@[go_sem] theorem ti348:tI Tryz.prog 348=some ⟨false,1,24,some (.v (.slice none 0 0)),[],false,[]⟩:=by kernel_rfl
@[go_sem] theorem ti351:tI Tryz.prog 351=some ⟨false,1,8,some (.v (.int .u64 0)),[],false,[]⟩:=by kernel_rfl
@[go_sem] theorem ti360:tI Tryz.prog 360=some ⟨false,1,8,some (.v (.int .u64 0)),[],false,[]⟩:=by kernel_rfl
@[go_sem] theorem ti364:tI Tryz.prog 364=some ⟨false,1,8,some (.v (.pointer none)),[],false,[]⟩:=by kernel_rfl
@[go_sem] theorem ti368:tI Tryz.prog 368=some ⟨true,2,24,some (.agg [.v (.int .u8 0),.v (.string ⟨#[]⟩)]),[some 0,some 1],false,[1,1]⟩:=by kernel_rfl
@[go_sem] theorem fo368:fieldsOk Tryz.prog 368=true:=by kernel_rfl
@[go_sem] theorem ti369:tI Tryz.prog 369=some ⟨true,2,24,some (.agg [.v (.int .u8 0),.v (.string ⟨#[]⟩)]),[some 0,some 1],false,[1,1]⟩:=by kernel_rfl
@[go_sem] theorem fo369:fieldsOk Tryz.prog 369=true:=by kernel_rfl
@[go_sem] theorem ti375:tI Tryz.prog 375=some ⟨false,1,8,some (.v (.pointer none)),[],false,[]⟩:=by kernel_rfl
@[go_sem] theorem ti376:tI Tryz.prog 376=some ⟨true,5,104,some (.agg [.v (.slice none 0 0),.v (.slice none 0 0),.v (.slice none 0 0),.v (.slice none 0 0),.v (.int .i64 0)]),[some 0,some 1,some 2,some 3,some 4],false,[1,1,1,1,1]⟩:=by kernel_rfl
@[go_sem] theorem fo376:fieldsOk Tryz.prog 376=true:=by kernel_rfl
@[go_sem] theorem ti377:tI Tryz.prog 377=some ⟨true,5,104,some (.agg [.v (.slice none 0 0),.v (.slice none 0 0),.v (.slice none 0 0),.v (.slice none 0 0),.v (.int .i64 0)]),[some 0,some 1,some 2,some 3,some 4],false,[1,1,1,1,1]⟩:=by kernel_rfl
@[go_sem] theorem fo377:fieldsOk Tryz.prog 377=true:=by kernel_rfl
@[go_sem] theorem ti381:tI Tryz.prog 381=some ⟨false,1,8,some (.v (.pointer none)),[],false,[]⟩:=by kernel_rfl
@[go_sem] theorem ti382:tI Tryz.prog 382=some ⟨true,6,112,some (.agg [.v (.slice none 0 0),.v (.slice none 0 0),.v (.slice none 0 0),.v (.int .i64 0),.v (.int .i64 0),.v (.slice none 0 0)]),[some 0,some 2,some 3,some 4,some 5],false,[2,1,1,1,1]⟩:=by kernel_rfl
@[go_sem] theorem fo382:fieldsOk Tryz.prog 382=true:=by kernel_rfl
@[go_sem] theorem ti383:tI Tryz.prog 383=some ⟨true,6,112,some (.agg [.v (.slice none 0 0),.v (.slice none 0 0),.v (.slice none 0 0),.v (.int .i64 0),.v (.int .i64 0),.v (.slice none 0 0)]),[some 0,some 2,some 3,some 4,some 5],false,[2,1,1,1,1]⟩:=by kernel_rfl
@[go_sem] theorem fo383:fieldsOk Tryz.prog 383=true:=by kernel_rfl
@[go_sem] theorem ti398:tI Tryz.prog 398=some ⟨false,1,8,some (.v (.pointer none)),[],false,[]⟩:=by kernel_rfl
@[go_sem] theorem ti405:tI Tryz.prog 405=some ⟨false,1,8,some (.v (.pointer none)),[],false,[]⟩:=by kernel_rfl
@[go_sem] theorem ti411:tI Tryz.prog 411=some ⟨false,1,24,some (.v (.slice none 0 0)),[],false,[]⟩:=by kernel_rfl
@[go_sem] theorem ti413:tI Tryz.prog 413=some ⟨true,2,24,some (.agg [.v (.string ⟨#[]⟩),.v (.int .i64 0)]),[some 0,some 1],false,[1,1]⟩:=by kernel_rfl
@[go_sem] theorem fo413:fieldsOk Tryz.prog 413=true:=by kernel_rfl
@[go_sem] theorem ti414:tI Tryz.prog 414=some ⟨true,2,24,some (.agg [.v (.string ⟨#[]⟩),.v (.int .i64 0)]),[some 0,some 1],false,[1,1]⟩:=by kernel_rfl
@[go_sem] theorem fo414:fieldsOk Tryz.prog 414=true:=by kernel_rfl
@[go_sem] theorem ti422:tI Tryz.prog 422=some ⟨false,1,24,some (.v (.slice none 0 0)),[],false,[]⟩:=by kernel_rfl
@[go_sem] theorem ti424:tI Tryz.prog 424=some ⟨true,3,32,some (.agg [.v (.string ⟨#[]⟩),.v (.int .i64 0),.v (.int .i64 0)]),[some 0,some 1,some 2],false,[1,1,1]⟩:=by kernel_rfl
@[go_sem] theorem fo424:fieldsOk Tryz.prog 424=true:=by kernel_rfl
@[go_sem] theorem ti425:tI Tryz.prog 425=some ⟨true,3,32,some (.agg [.v (.string ⟨#[]⟩),.v (.int .i64 0),.v (.int .i64 0)]),[some 0,some 1,some 2],false,[1,1,1]⟩:=by kernel_rfl
@[go_sem] theorem fo425:fieldsOk Tryz.prog 425=true:=by kernel_rfl
@[go_sem] theorem ti443:tI Tryz.prog 443=some ⟨true,2,2,some (.agg [.v (.int .u8 0),.v (.int .u8 0)]),[some 0,some 1],false,[1,1]⟩:=by kernel_rfl
@[go_sem] theorem fo443:fieldsOk Tryz.prog 443=true:=by kernel_rfl
@[go_sem] theorem ti444:tI Tryz.prog 444=some ⟨true,2,2,some (.agg [.v (.int .u8 0),.v (.int .u8 0)]),[some 0,some 1],false,[1,1]⟩:=by kernel_rfl
@[go_sem] theorem fo444:fieldsOk Tryz.prog 444=true:=by kernel_rfl
@[go_sem] theorem ti451:tI Tryz.prog 451=some ⟨true,4,40,some (.agg [.v (.pointer none),.v (.pointer none),.v (.pointer none),.v (.string ⟨#[]⟩)]),[some 0,some 1,some 2,some 3],false,[1,1,1,1]⟩:=by kernel_rfl
@[go_sem] theorem fo451:fieldsOk Tryz.prog 451=true:=by kernel_rfl
@[go_sem] theorem ti452:tI Tryz.prog 452=some ⟨true,4,40,some (.agg [.v (.pointer none),.v (.pointer none),.v (.pointer none),.v (.string ⟨#[]⟩)]),[some 0,some 1,some 2,some 3],false,[1,1,1,1]⟩:=by kernel_rfl
@[go_sem] theorem fo452:fieldsOk Tryz.prog 452=true:=by kernel_rfl
@[go_sem] theorem ti454:tI Tryz.prog 454=some ⟨true,0,0,some (.agg []),[none],false,[0]⟩:=by kernel_rfl
@[go_sem] theorem fo454:fieldsOk Tryz.prog 454=true:=by kernel_rfl
@[go_sem] theorem ti455:tI Tryz.prog 455=some ⟨true,0,0,some (.agg []),[none],false,[0]⟩:=by kernel_rfl
@[go_sem] theorem fo455:fieldsOk Tryz.prog 455=true:=by kernel_rfl
@[go_sem] theorem ti456:tI Tryz.prog 456=some ⟨false,1,1,some (.v (.int .u8 0)),[],false,[]⟩:=by kernel_rfl
@[go_sem] theorem ti457:tI Tryz.prog 457=some ⟨false,1,1,some (.v (.int .u8 0)),[],false,[]⟩:=by kernel_rfl
@[go_sem] theorem ti459:tI Tryz.prog 459=some ⟨false,1,4,some (.v (.int .i32 0)),[],false,[]⟩:=by kernel_rfl
@[go_sem] theorem ti460:tI Tryz.prog 460=some ⟨false,1,4,some (.v (.int .i32 0)),[],false,[]⟩:=by kernel_rfl
@[go_sem] theorem ts2:tS Tryz.prog 2=none:=by kernel_rfl
@[go_sem] theorem ts3:tS Tryz.prog 3=none:=by kernel_rfl
@[go_sem] theorem ts4:tS Tryz.prog 4=none:=by kernel_rfl
@[go_sem] theorem ts5:tS Tryz.prog 5=none:=by kernel_rfl
@[go_sem] theorem ts6:tS Tryz.prog 6=none:=by kernel_rfl
@[go_sem] theorem ts7:tS Tryz.prog 7=none:=by kernel_rfl
@[go_sem] theorem ts8:tS Tryz.prog 8=none:=by kernel_rfl
@[go_sem] theorem ts9:tS Tryz.prog 9=none:=by kernel_rfl
@[go_sem] theorem ts10:tS Tryz.prog 10=none:=by kernel_rfl
@[go_sem] theorem ts11:tS Tryz.prog 11=none:=by kernel_rfl
@[go_sem] theorem ts12:tS Tryz.prog 12=none:=by kernel_rfl
@[go_sem] theorem ts13:tS Tryz.prog 13=none:=by kernel_rfl
@[go_sem] theorem ts14:tS Tryz.prog 14=none:=by kernel_rfl
@[go_sem] theorem ts15:tS Tryz.prog 15=none:=by kernel_rfl
@[go_sem] theorem ts16:tS Tryz.prog 16=none:=by kernel_rfl
@[go_sem] theorem ts17:tS Tryz.prog 17=none:=by kernel_rfl
@[go_sem] theorem ts18:tS Tryz.prog 18=none:=by kernel_rfl
@[go_sem] theorem ts19:tS Tryz.prog 19=none:=by kernel_rfl
@[go_sem] theorem ts21:tS Tryz.prog 21=none:=by kernel_rfl
@[go_sem] theorem ts22:tS Tryz.prog 22=some (23,⟨false,1,24,some (.v (.slice none 0 0)),[],false,[]⟩):=by kernel_rfl
@[go_sem] theorem ts23:tS Tryz.prog 23=some (44,⟨true,3,40,some (.agg [.v (.bool false),.v (.string ⟨#[]⟩),.v (.string ⟨#[]⟩)]),[some 0,some 1,some 2],false,[1,1,1]⟩):=by kernel_rfl
@[go_sem] theorem ts24:tS Tryz.prog 24=some (3,⟨false,1,8,some (.v (.int .i64 0)),[],false,[]⟩):=by kernel_rfl
@[go_sem] theorem ts27:tS Tryz.prog 27=none:=by kernel_rfl
@[go_sem] theorem ts35:tS Tryz.prog 35=some (24,⟨false,1,24,some (.v (.slice none 0 0)),[],false,[]⟩):=by kernel_rfl
@[go_sem] theorem ts36:tS Tryz.prog 36=some (4,⟨false,1,1,some (.v (.bool false)),[],false,[]⟩):=by kernel_rfl
@[go_sem] theorem ts42:tS Tryz.prog 42=none:=by kernel_rfl
@[go_sem] theorem ts43:tS Tryz.prog 43=none:=by kernel_rfl
@[go_sem] theorem ts44:tS Tryz.prog 44=none:=by kernel_rfl
@[go_sem] theorem ts55:tS Tryz.prog 55=some (148,⟨true,2,40,some (.agg [.v (.string ⟨#[]⟩),.v (.slice none 0 0)]),[some 0,some 1],false,[1,1]⟩):=by kernel_rfl
@[go_sem] theorem ts56:tS Tryz.prog 56=none:=by kernel_rfl
@[go_sem] theorem ts57:tS Tryz.prog 57=none:=by kernel_rfl
@[go_sem] theorem ts61:tS Tryz.prog 61=none:=by kernel_rfl
@[go_sem] theorem ts62:tS Tryz.prog 62=none:=by kernel_rfl
@[go_sem] theorem ts78:tS Tryz.prog 78=none:=by kernel_rfl
@[go_sem] theorem ts79:tS Tryz.prog 79=none:=by kernel_rfl
@[go_sem] theorem ts87:tS Tryz.prog 87=none:=by kernel_rfl
@[go_sem] theorem ts88:tS Tryz.prog 88=none:=by kernel_rfl
@[go_sem] theorem ts89:tS Tryz.prog 89=none:=by kernel_rfl
@[go_sem] theorem ts90:tS Tryz.prog 90=none:=by kernel_rfl
@[go_sem] theorem ts91:tS Tryz.prog 91=some (191,⟨true,4,48,some (.agg [.v (.int .i64 0),.v (.slice none 0 0),.v (.int .i64 0),.v (.int .i64 0)]),[some 0,some 1,some 2],false,[1,1,2]⟩):=by kernel_rfl
@[go_sem] theorem ts92:tS Tryz.prog 92=none:=by kernel_rfl
@[go_sem] theorem ts93:tS Tryz.prog 93=none:=by kernel_rfl
@[go_sem] theorem ts95:tS Tryz.prog 95=some (90,⟨true,8,112,some (.agg [.v (.int .i64 0),.v (.bool false),.v (.string ⟨#[]⟩),.v (.string ⟨#[]⟩),.v (.int .i64 0),.v (.int .i64 0),.v (.slice none 0 0),.v (.slice none 0 0)]),[some 0,some 1,some 4,some 5,some 6,some 7],false,[1,3,1,1,1,1]⟩):=by kernel_rfl
@[go_sem] theorem ts96:tS Tryz.prog 96=none:=by kernel_rfl
@[go_sem] theorem ts97:tS Tryz.prog 97=none:=by kernel_rfl
@[go_sem] theorem ts99:tS Tryz.prog 99=none:=by kernel_rfl
@[go_sem] theorem ts100:tS Tryz.prog 100=none:=by kernel_rfl
@[go_sem] theorem ts104:tS Tryz.prog 104=some (271,⟨true,4,48,some (.agg [.v (.int .i64 0),.v (.bool false),.v (.string ⟨#[]⟩),.v (.string ⟨#[]⟩)]),[some 0,some 1],false,[1,3]⟩):=by kernel_rfl
@[go_sem] theorem ts105:tS Tryz.prog 105=none:=by kernel_rfl
@[go_sem] theorem ts106:tS Tryz.prog 106=none:=by kernel_rfl
@[go_sem] theorem ts146:tS Tryz.prog 146=some (9,⟨false,1,16,some (.v (.string ⟨#[]⟩)),[],true,[]⟩):=by kernel_rfl
@[go_sem] theorem ts147:tS Tryz.prog 147=none:=by kernel_rfl
@[go_sem] theorem ts148:tS Tryz.prog 148=none:=by kernel_rfl
@[go_sem] theorem ts150:tS Tryz.prog 150=none:=by kernel_rfl
@[go_sem] theorem ts151:tS Tryz.prog 151=some (5,⟨false,1,1,some (.v (.int .u8 0)),[],false,[]⟩):=by kernel_rfl
@[go_sem] theorem ts152:tS Tryz.prog 152=none:=by kernel_rfl
@[go_sem] theorem ts153:tS Tryz.prog 153=none:=by kernel_rfl
@[go_sem] theorem ts190:tS Tryz.prog 190=none:=by kernel_rfl
@[go_sem] theorem ts191:tS Tryz.prog 191=none:=by kernel_rfl
@[go_sem] theorem ts193:tS Tryz.prog 193=some (247,⟨true,3,64,some (.agg [.v (.string ⟨#[]⟩),.v (.slice none 0 0),.v (.slice none 0 0)]),[some 0,some 1,some 2],false,[1,1,1]⟩):=by kernel_rfl
@[go_sem] theorem ts194:tS Tryz.prog 194=some (323,⟨true,17,248,some (.agg [.v (.int .i64 0),.v (.string ⟨#[]⟩),.v (.int .i64 0),.v (.int .i64 0),.v (.int .i64 0),.v (.string ⟨#[]⟩),.v (.slice none 0 0),.v (.int .i64 0),.v (.bool false),.v (.string ⟨#[]⟩),.v (.string ⟨#[]⟩),.v (.int .i64 0),.v (.int .i64 0),.v (.slice none 0 0),.v (.slice none 0 0),.v (.slice none 0 0),.v (.slice none 0 0)]),[some 0,some 1,some 2,some 3,some 7,some 15,some 16],false,[1,1,1,4,8,1,1]⟩):=by kernel_rfl
@[go_sem] theorem ts195:tS Tryz.prog 195=none:=by kernel_rfl
@[go_sem] theorem ts196:tS Tryz.prog 196=none:=by kernel_rfl
@[go_sem] theorem ts232:tS Tryz.prog 232=none:=by kernel_rfl
@[go_sem] theorem ts242:tS Tryz.prog 242=none:=by kernel_rfl
@[go_sem] theorem ts245:tS Tryz.prog 245=none:=by kernel_rfl
@[go_sem] theorem ts246:tS Tryz.prog 246=none:=by kernel_rfl
@[go_sem] theorem ts247:tS Tryz.prog 247=none:=by kernel_rfl
@[go_sem] theorem ts253:tS Tryz.prog 253=none:=by kernel_rfl
@[go_sem] theorem ts254:tS Tryz.prog 254=none:=by kernel_rfl
@[go_sem] theorem ts255:tS Tryz.prog 255=none:=by kernel_rfl
@[go_sem] theorem ts258:tS Tryz.prog 258=none:=by kernel_rfl
@[go_sem] theorem ts261:tS Tryz.prog 261=none:=by kernel_rfl
@[go_sem] theorem ts264:tS Tryz.prog 264=none:=by kernel_rfl
@[go_sem] theorem ts265:tS Tryz.prog 265=none:=by kernel_rfl
@[go_sem] theorem ts266:tS Tryz.prog 266=none:=by kernel_rfl
@[go_sem] theorem ts270:tS Tryz.prog 270=none:=by kernel_rfl
@[go_sem] theorem ts271:tS Tryz.prog 271=none:=by kernel_rfl
@[go_sem] theorem ts278:tS Tryz.prog 278=some (282,⟨false,1,4,some (.v (.int .u32 0)),[],false,[]⟩):=by kernel_rfl
@[go_sem] theorem ts279:tS Tryz.prog 279=some (282,⟨false,1,4,some (.v (.int .u32 0)),[],false,[]⟩):=by kernel_rfl
@[go_sem] theorem ts281:tS Tryz.prog 281=none:=by kernel_rfl
@[go_sem] theorem ts282:tS Tryz.prog 282=none:=by kernel_rfl
@[go_sem] theorem ts301:tS Tryz.prog 301=none:=by kernel_rfl
@[go_sem] theorem ts310:tS Tryz.prog 310=none:=by kernel_rfl
@[go_sem] theorem ts311:tS Tryz.prog 311=some (369,⟨true,2,24,some (.agg [.v (.int .u8 0),.v (.string ⟨#[]⟩)]),[some 0,some 1],false,[1,1]⟩):=by kernel_rfl
@[go_sem] theorem ts313:tS Tryz.prog 313=none:=by kernel_rfl
@[go_sem] theorem ts314:tS Tryz.prog 314=none:=by kernel_rfl
@[go_sem] theorem ts319:tS Tryz.prog 319=some (321,⟨true,4,56,some (.agg [.v (.int .i64 0),.v (.int .i64 0),.v (.string ⟨#[]⟩),.v (.slice none 0 0)]),[some 0,some 1,some 2,some 3],false,[1,1,1,1]⟩):=by kernel_rfl
@[go_sem] theorem ts320:tS Tryz.prog 320=none:=by kernel_rfl
@[go_sem] theorem ts321:tS Tryz.prog 321=none:=by kernel_rfl
@[go_sem] theorem ts322:tS Tryz.prog 322=none:=by kernel_rfl
@[go_sem] theorem ts323:tS Tryz.prog 323=none:=by kernel_rfl
@[go_sem] theorem ts324:tS Tryz.prog 324=none:=by kernel_rfl
@[go_sem] theorem ts348:tS Tryz.prog 348=some (351,⟨false,1,8,some (.v (.int .u64 0)),[],false,[]⟩):=by kernel_rfl
@[go_sem] theorem ts351:tS Tryz.prog 351=none:=by kernel_rfl
@[go_sem] theorem ts360:tS Tryz.prog 360=none:=by kernel_rfl
@[go_sem] theorem ts364:tS Tryz.prog 364=none:=by kernel_rfl
@[go_sem] theorem ts368:tS Tryz.prog 368=none:=by kernel_rfl
@[go_sem] theorem ts369:tS Tryz.prog 369=none:=by kernel_rfl
@[go_sem] theorem ts375:tS Tryz.prog 375=none:=by kernel_rfl
@[go_sem] theorem ts376:tS Tryz.prog 376=none:=by kernel_rfl
@[go_sem] theorem ts377:tS Tryz.prog 377=none:=by kernel_rfl
@[go_sem] theorem ts381:tS Tryz.prog 381=none:=by kernel_rfl
@[go_sem] theorem ts382:tS Tryz.prog 382=none:=by kernel_rfl
@[go_sem] theorem ts383:tS Tryz.prog 383=none:=by kernel_rfl
@[go_sem] theorem ts398:tS Tryz.prog 398=none:=by kernel_rfl
@[go_sem] theorem ts405:tS Tryz.prog 405=none:=by kernel_rfl
@[go_sem] theorem ts411:tS Tryz.prog 411=some (414,⟨true,2,24,some (.agg [.v (.string ⟨#[]⟩),.v (.int .i64 0)]),[some 0,some 1],false,[1,1]⟩):=by kernel_rfl
@[go_sem] theorem ts413:tS Tryz.prog 413=none:=by kernel_rfl
@[go_sem] theorem ts414:tS Tryz.prog 414=none:=by kernel_rfl
@[go_sem] theorem ts422:tS Tryz.prog 422=some (425,⟨true,3,32,some (.agg [.v (.string ⟨#[]⟩),.v (.int .i64 0),.v (.int .i64 0)]),[some 0,some 1,some 2],false,[1,1,1]⟩):=by kernel_rfl
@[go_sem] theorem ts424:tS Tryz.prog 424=none:=by kernel_rfl
@[go_sem] theorem ts425:tS Tryz.prog 425=none:=by kernel_rfl
@[go_sem] theorem ts443:tS Tryz.prog 443=none:=by kernel_rfl
@[go_sem] theorem ts444:tS Tryz.prog 444=none:=by kernel_rfl
@[go_sem] theorem ts451:tS Tryz.prog 451=none:=by kernel_rfl
@[go_sem] theorem ts452:tS Tryz.prog 452=none:=by kernel_rfl
@[go_sem] theorem ts454:tS Tryz.prog 454=none:=by kernel_rfl
@[go_sem] theorem ts455:tS Tryz.prog 455=none:=by kernel_rfl
@[go_sem] theorem ts456:tS Tryz.prog 456=none:=by kernel_rfl
@[go_sem] theorem ts457:tS Tryz.prog 457=none:=by kernel_rfl
@[go_sem] theorem ts459:tS Tryz.prog 459=none:=by kernel_rfl
@[go_sem] theorem ts460:tS Tryz.prog 460=none:=by kernel_rfl
theorem mixed:Tryz.prog.follows .mixedOrders=true:=by kernel_rfl
end Go.Proofs.YtcgagiimlkjcpaaGreatDoor
