/- What the types of this program are, for the abstract machine. Made by geninfo.py. -/
import Derived.Test.YtabmgfchkcmcmaaDoorProg
import Derived.Test.YtabmgfchkcmcmaaDoorZAmM
set_option linter.unusedVariables false
namespace Go.Proofs.YtabmgfchkcmcmaaDoor
open Go
@[go_sem] theorem ti2 : tI Tryd.prog 2 = some ⟨false, 1, 8, some (.v (.int .i64 0)), [], false, []⟩ := by kernel_rfl
@[go_sem] theorem ti3 : tI Tryd.prog 3 = some ⟨false, 1, 8, some (.v (.int .i64 0)), [], false, []⟩ := by kernel_rfl
@[go_sem] theorem ti4 : tI Tryd.prog 4 = some ⟨false, 1, 1, some (.v (.bool false)), [], false, []⟩ := by kernel_rfl
@[go_sem] theorem ti5 : tI Tryd.prog 5 = some ⟨false, 1, 1, some (.v (.int .u8 0)), [], false, []⟩ := by kernel_rfl
@[go_sem] theorem ti6 : tI Tryd.prog 6 = some ⟨false, 1, 1, some (.v (.int .u8 0)), [], false, []⟩ := by kernel_rfl
@[go_sem] theorem ti7 : tI Tryd.prog 7 = some ⟨true, 4, 24, some (.agg [.v (.int .i64 0), .v (.int .i64 0), .v (.bool false), .v (.int .u8 0)]), [some 0, some 1, some 2, some 3], false, [1, 1, 1, 1]⟩ := by kernel_rfl
@[go_sem] theorem fo7 : fieldsOk Tryd.prog 7 = true := by kernel_rfl
@[go_sem] theorem ti8 : tI Tryd.prog 8 = some ⟨true, 4, 24, some (.agg [.v (.int .i64 0), .v (.int .i64 0), .v (.bool false), .v (.int .u8 0)]), [some 0, some 1, some 2, some 3], false, [1, 1, 1, 1]⟩ := by kernel_rfl
@[go_sem] theorem fo8 : fieldsOk Tryd.prog 8 = true := by kernel_rfl
@[go_sem] theorem ti9 : tI Tryd.prog 9 = some ⟨false, 1, 16, some (.v (.string ⟨#[]⟩)), [], true, []⟩ := by kernel_rfl
@[go_sem] theorem ti10 : tI Tryd.prog 10 = some ⟨false, 1, 16, some (.v (.string ⟨#[]⟩)), [], true, []⟩ := by kernel_rfl
@[go_sem] theorem ti11 : tI Tryd.prog 11 = some ⟨false, 1, 16, some (.v (.string ⟨#[]⟩)), [], true, []⟩ := by kernel_rfl
@[go_sem] theorem ti12 : tI Tryd.prog 12 = some ⟨false, 1, 8, some (.v (.int .u64 0)), [], false, []⟩ := by kernel_rfl
@[go_sem] theorem ti13 : tI Tryd.prog 13 = some ⟨true, 2, 24, some (.agg [.v (.string ⟨#[]⟩), .v (.int .u64 0)]), [some 0, some 1], false, [1, 1]⟩ := by kernel_rfl
@[go_sem] theorem fo13 : fieldsOk Tryd.prog 13 = true := by kernel_rfl
@[go_sem] theorem ti14 : tI Tryd.prog 14 = some ⟨true, 2, 24, some (.agg [.v (.string ⟨#[]⟩), .v (.int .u64 0)]), [some 0, some 1], false, [1, 1]⟩ := by kernel_rfl
@[go_sem] theorem fo14 : fieldsOk Tryd.prog 14 = true := by kernel_rfl
@[go_sem] theorem ti15 : tI Tryd.prog 15 = some ⟨false, 1, 8, some (.v (.pointer none)), [], false, []⟩ := by kernel_rfl
@[go_sem] theorem ti16 : tI Tryd.prog 16 = some ⟨false, 1, 8, some (.v (.pointer none)), [], false, []⟩ := by kernel_rfl
@[go_sem] theorem ti17 : tI Tryd.prog 17 = some ⟨false, 1, 8, some (.v (.pointer none)), [], false, []⟩ := by kernel_rfl
@[go_sem] theorem ti18 : tI Tryd.prog 18 = some ⟨true, 1, 8, some (.agg [.v (.pointer none)]), [some 0], false, [1]⟩ := by kernel_rfl
@[go_sem] theorem fo18 : fieldsOk Tryd.prog 18 = true := by kernel_rfl
@[go_sem] theorem ti19 : tI Tryd.prog 19 = some ⟨true, 1, 8, some (.agg [.v (.pointer none)]), [some 0], false, [1]⟩ := by kernel_rfl
@[go_sem] theorem fo19 : fieldsOk Tryd.prog 19 = true := by kernel_rfl
@[go_sem] theorem ti21 : tI Tryd.prog 21 = some ⟨false, 1, 4, some (.v (.int .i32 0)), [], false, []⟩ := by kernel_rfl
@[go_sem] theorem ti22 : tI Tryd.prog 22 = some ⟨false, 1, 24, some (.v (.slice none 0 0)), [], false, []⟩ := by kernel_rfl
@[go_sem] theorem ti23 : tI Tryd.prog 23 = some ⟨false, 1, 24, some (.v (.slice none 0 0)), [], false, []⟩ := by kernel_rfl
@[go_sem] theorem ti25 : tI Tryd.prog 25 = some ⟨false, 1, 8, some (.v (.int .i64 0)), [], false, []⟩ := by kernel_rfl
@[go_sem] theorem ti39 : tI Tryd.prog 39 = some ⟨false, 1, 24, some (.v (.slice none 0 0)), [], false, []⟩ := by kernel_rfl
@[go_sem] theorem ti46 : tI Tryd.prog 46 = some ⟨true, 3, 40, some (.agg [.v (.int .i64 0), .v (.int .i64 0), .v (.slice none 0 0)]), [some 0, some 1, some 2], false, [1, 1, 1]⟩ := by kernel_rfl
@[go_sem] theorem fo46 : fieldsOk Tryd.prog 46 = true := by kernel_rfl
@[go_sem] theorem ti47 : tI Tryd.prog 47 = some ⟨true, 3, 40, some (.agg [.v (.int .i64 0), .v (.int .i64 0), .v (.slice none 0 0)]), [some 0, some 1, some 2], false, [1, 1, 1]⟩ := by kernel_rfl
@[go_sem] theorem fo47 : fieldsOk Tryd.prog 47 = true := by kernel_rfl
@[go_sem] theorem ti49 : tI Tryd.prog 49 = some ⟨false, 1, 24, some (.v (.slice none 0 0)), [], false, []⟩ := by kernel_rfl
@[go_sem] theorem ti53 : tI Tryd.prog 53 = some ⟨false, 1, 16, some (.v (.string ⟨#[]⟩)), [], true, []⟩ := by kernel_rfl
@[go_sem] theorem ti54 : tI Tryd.prog 54 = some ⟨true, 3, 40, some (.agg [.v (.bool false), .v (.string ⟨#[]⟩), .v (.string ⟨#[]⟩)]), [some 0, some 1, some 2], false, [1, 1, 1]⟩ := by kernel_rfl
@[go_sem] theorem fo54 : fieldsOk Tryd.prog 54 = true := by kernel_rfl
@[go_sem] theorem ti55 : tI Tryd.prog 55 = some ⟨true, 3, 40, some (.agg [.v (.bool false), .v (.string ⟨#[]⟩), .v (.string ⟨#[]⟩)]), [some 0, some 1, some 2], false, [1, 1, 1]⟩ := by kernel_rfl
@[go_sem] theorem fo55 : fieldsOk Tryd.prog 55 = true := by kernel_rfl
@[go_sem] theorem ti61 : tI Tryd.prog 61 = some ⟨false, 1, 24, some (.v (.slice none 0 0)), [], false, []⟩ := by kernel_rfl
@[go_sem] theorem ti67 : tI Tryd.prog 67 = some ⟨true, 3, 72, some (.agg [.v (.slice none 0 0), .v (.slice none 0 0), .v (.slice none 0 0)]), [some 0, some 1, some 2], false, [1, 1, 1]⟩ := by kernel_rfl
@[go_sem] theorem fo67 : fieldsOk Tryd.prog 67 = true := by kernel_rfl
@[go_sem] theorem ti68 : tI Tryd.prog 68 = some ⟨true, 3, 72, some (.agg [.v (.slice none 0 0), .v (.slice none 0 0), .v (.slice none 0 0)]), [some 0, some 1, some 2], false, [1, 1, 1]⟩ := by kernel_rfl
@[go_sem] theorem fo68 : fieldsOk Tryd.prog 68 = true := by kernel_rfl
@[go_sem] theorem ti105 : tI Tryd.prog 105 = some ⟨false, 1, 24, some (.v (.slice none 0 0)), [], false, []⟩ := by kernel_rfl
@[go_sem] theorem ti108 : tI Tryd.prog 108 = some ⟨false, 1, 8, some (.v (.int .u64 0)), [], false, []⟩ := by kernel_rfl
@[go_sem] theorem ti109 : tI Tryd.prog 109 = some ⟨false, 1, 8, some (.v (.int .u64 0)), [], false, []⟩ := by kernel_rfl
@[go_sem] theorem ti122 : tI Tryd.prog 122 = some ⟨false, 1, 24, some (.v (.slice none 0 0)), [], false, []⟩ := by kernel_rfl
@[go_sem] theorem ti123 : tI Tryd.prog 123 = some ⟨false, 1, 24, some (.v (.slice none 0 0)), [], false, []⟩ := by kernel_rfl
@[go_sem] theorem ti174 : tI Tryd.prog 174 = some ⟨false, 1, 24, some (.v (.slice none 0 0)), [], false, []⟩ := by kernel_rfl
@[go_sem] theorem ti175 : tI Tryd.prog 175 = some ⟨true, 2, 16, some (.agg [.v (.int .i64 0), .v (.bool false)]), [some 0, some 1], false, [1, 1]⟩ := by kernel_rfl
@[go_sem] theorem fo175 : fieldsOk Tryd.prog 175 = true := by kernel_rfl
@[go_sem] theorem ti176 : tI Tryd.prog 176 = some ⟨true, 2, 16, some (.agg [.v (.int .i64 0), .v (.bool false)]), [some 0, some 1], false, [1, 1]⟩ := by kernel_rfl
@[go_sem] theorem fo176 : fieldsOk Tryd.prog 176 = true := by kernel_rfl
@[go_sem] theorem ti183 : tI Tryd.prog 183 = some ⟨false, 1, 24, some (.v (.slice none 0 0)), [], false, []⟩ := by kernel_rfl
@[go_sem] theorem ti195 : tI Tryd.prog 195 = some ⟨false, 1, 24, some (.v (.slice none 0 0)), [], false, []⟩ := by kernel_rfl
@[go_sem] theorem ti196 : tI Tryd.prog 196 = some ⟨false, 1, 24, some (.v (.slice none 0 0)), [], false, []⟩ := by kernel_rfl
@[go_sem] theorem ti197 : tI Tryd.prog 197 = some ⟨false, 1, 8, some (.v (.int .u64 0)), [], false, []⟩ := by kernel_rfl
@[go_sem] theorem ti198 : tI Tryd.prog 198 = some ⟨false, 1, 4, some (.v (.int .u32 0)), [], false, []⟩ := by kernel_rfl
@[go_sem] theorem ti203 : tI Tryd.prog 203 = some ⟨false, 1, 8, some (.v (.pointer none)), [], false, []⟩ := by kernel_rfl
@[go_sem] theorem ti204 : tI Tryd.prog 204 = some ⟨true, 2, 32, some (.agg [.v (.pointer none), .v (.slice none 0 0)]), [some 0, some 1], false, [1, 1]⟩ := by kernel_rfl
@[go_sem] theorem fo204 : fieldsOk Tryd.prog 204 = true := by kernel_rfl
@[go_sem] theorem ti205 : tI Tryd.prog 205 = some ⟨true, 2, 32, some (.agg [.v (.pointer none), .v (.slice none 0 0)]), [some 0, some 1], false, [1, 1]⟩ := by kernel_rfl
@[go_sem] theorem fo205 : fieldsOk Tryd.prog 205 = true := by kernel_rfl
@[go_sem] theorem ti235 : tI Tryd.prog 235 = some ⟨false, 1, 8, some (.v (.pointer none)), [], false, []⟩ := by kernel_rfl
@[go_sem] theorem ti241 : tI Tryd.prog 241 = some ⟨false, 1, 8, some (.v (.int .i64 0)), [], false, []⟩ := by kernel_rfl
@[go_sem] theorem ti256 : tI Tryd.prog 256 = some ⟨false, 1, 8, some (.v (.pointer none)), [], false, []⟩ := by kernel_rfl
@[go_sem] theorem ti262 : tI Tryd.prog 262 = some ⟨false, 1, 8, some (.v (.int .u64 0)), [], false, []⟩ := by kernel_rfl
@[go_sem] theorem ti266 : tI Tryd.prog 266 = some ⟨false, 1, 8, some (.v (.pointer none)), [], false, []⟩ := by kernel_rfl
@[go_sem] theorem ti273 : tI Tryd.prog 273 = some ⟨false, 1, 8, some (.v (.pointer none)), [], false, []⟩ := by kernel_rfl
@[go_sem] theorem ti278 : tI Tryd.prog 278 = some ⟨true, 2, 2, some (.agg [.v (.int .u8 0), .v (.int .u8 0)]), [some 0, some 1], false, [1, 1]⟩ := by kernel_rfl
@[go_sem] theorem fo278 : fieldsOk Tryd.prog 278 = true := by kernel_rfl
@[go_sem] theorem ti279 : tI Tryd.prog 279 = some ⟨true, 2, 2, some (.agg [.v (.int .u8 0), .v (.int .u8 0)]), [some 0, some 1], false, [1, 1]⟩ := by kernel_rfl
@[go_sem] theorem fo279 : fieldsOk Tryd.prog 279 = true := by kernel_rfl
@[go_sem] theorem ti282 : tI Tryd.prog 282 = some ⟨true, 4, 40, some (.agg [.v (.pointer none), .v (.pointer none), .v (.pointer none), .v (.string ⟨#[]⟩)]), [some 0, some 1, some 2, some 3], false, [1, 1, 1, 1]⟩ := by kernel_rfl
@[go_sem] theorem fo282 : fieldsOk Tryd.prog 282 = true := by kernel_rfl
@[go_sem] theorem ti283 : tI Tryd.prog 283 = some ⟨true, 4, 40, some (.agg [.v (.pointer none), .v (.pointer none), .v (.pointer none), .v (.string ⟨#[]⟩)]), [some 0, some 1, some 2, some 3], false, [1, 1, 1, 1]⟩ := by kernel_rfl
@[go_sem] theorem fo283 : fieldsOk Tryd.prog 283 = true := by kernel_rfl
@[go_sem] theorem ti285 : tI Tryd.prog 285 = some ⟨true, 0, 0, some (.agg []), [none], false, [0]⟩ := by kernel_rfl
@[go_sem] theorem fo285 : fieldsOk Tryd.prog 285 = true := by kernel_rfl
@[go_sem] theorem ti286 : tI Tryd.prog 286 = some ⟨true, 0, 0, some (.agg []), [none], false, [0]⟩ := by kernel_rfl
@[go_sem] theorem fo286 : fieldsOk Tryd.prog 286 = true := by kernel_rfl
@[go_sem] theorem ti287 : tI Tryd.prog 287 = some ⟨false, 1, 1, some (.v (.int .u8 0)), [], false, []⟩ := by kernel_rfl
@[go_sem] theorem ti288 : tI Tryd.prog 288 = some ⟨false, 1, 1, some (.v (.int .u8 0)), [], false, []⟩ := by kernel_rfl
@[go_sem] theorem ti290 : tI Tryd.prog 290 = some ⟨false, 1, 4, some (.v (.int .i32 0)), [], false, []⟩ := by kernel_rfl
@[go_sem] theorem ti291 : tI Tryd.prog 291 = some ⟨false, 1, 4, some (.v (.int .i32 0)), [], false, []⟩ := by kernel_rfl
@[go_sem] theorem ts2 : tS Tryd.prog 2 = none := by kernel_rfl
@[go_sem] theorem ts3 : tS Tryd.prog 3 = none := by kernel_rfl
@[go_sem] theorem ts4 : tS Tryd.prog 4 = none := by kernel_rfl
@[go_sem] theorem ts5 : tS Tryd.prog 5 = none := by kernel_rfl
@[go_sem] theorem ts6 : tS Tryd.prog 6 = none := by kernel_rfl
@[go_sem] theorem ts7 : tS Tryd.prog 7 = none := by kernel_rfl
@[go_sem] theorem ts8 : tS Tryd.prog 8 = none := by kernel_rfl
@[go_sem] theorem ts9 : tS Tryd.prog 9 = none := by kernel_rfl
@[go_sem] theorem ts10 : tS Tryd.prog 10 = none := by kernel_rfl
@[go_sem] theorem ts11 : tS Tryd.prog 11 = none := by kernel_rfl
@[go_sem] theorem ts12 : tS Tryd.prog 12 = none := by kernel_rfl
@[go_sem] theorem ts13 : tS Tryd.prog 13 = none := by kernel_rfl
@[go_sem] theorem ts14 : tS Tryd.prog 14 = none := by kernel_rfl
@[go_sem] theorem ts15 : tS Tryd.prog 15 = none := by kernel_rfl
@[go_sem] theorem ts16 : tS Tryd.prog 16 = none := by kernel_rfl
@[go_sem] theorem ts17 : tS Tryd.prog 17 = none := by kernel_rfl
@[go_sem] theorem ts18 : tS Tryd.prog 18 = none := by kernel_rfl
@[go_sem] theorem ts19 : tS Tryd.prog 19 = none := by kernel_rfl
@[go_sem] theorem ts21 : tS Tryd.prog 21 = none := by kernel_rfl
@[go_sem] theorem ts22 : tS Tryd.prog 22 = some (23, ⟨false, 1, 24, some (.v (.slice none 0 0)), [], false, []⟩) := by kernel_rfl
@[go_sem] theorem ts23 : tS Tryd.prog 23 = some (3, ⟨false, 1, 8, some (.v (.int .i64 0)), [], false, []⟩) := by kernel_rfl
@[go_sem] theorem ts25 : tS Tryd.prog 25 = none := by kernel_rfl
@[go_sem] theorem ts39 : tS Tryd.prog 39 = some (47, ⟨true, 3, 40, some (.agg [.v (.int .i64 0), .v (.int .i64 0), .v (.slice none 0 0)]), [some 0, some 1, some 2], false, [1, 1, 1]⟩) := by kernel_rfl
@[go_sem] theorem ts46 : tS Tryd.prog 46 = none := by kernel_rfl
@[go_sem] theorem ts47 : tS Tryd.prog 47 = none := by kernel_rfl
@[go_sem] theorem ts49 : tS Tryd.prog 49 = some (55, ⟨true, 3, 40, some (.agg [.v (.bool false), .v (.string ⟨#[]⟩), .v (.string ⟨#[]⟩)]), [some 0, some 1, some 2], false, [1, 1, 1]⟩) := by kernel_rfl
@[go_sem] theorem ts53 : tS Tryd.prog 53 = none := by kernel_rfl
@[go_sem] theorem ts54 : tS Tryd.prog 54 = none := by kernel_rfl
@[go_sem] theorem ts55 : tS Tryd.prog 55 = none := by kernel_rfl
@[go_sem] theorem ts61 : tS Tryd.prog 61 = some (49, ⟨false, 1, 24, some (.v (.slice none 0 0)), [], false, []⟩) := by kernel_rfl
@[go_sem] theorem ts67 : tS Tryd.prog 67 = none := by kernel_rfl
@[go_sem] theorem ts68 : tS Tryd.prog 68 = none := by kernel_rfl
@[go_sem] theorem ts105 : tS Tryd.prog 105 = some (109, ⟨false, 1, 8, some (.v (.int .u64 0)), [], false, []⟩) := by kernel_rfl
@[go_sem] theorem ts108 : tS Tryd.prog 108 = none := by kernel_rfl
@[go_sem] theorem ts109 : tS Tryd.prog 109 = none := by kernel_rfl
@[go_sem] theorem ts122 : tS Tryd.prog 122 = some (123, ⟨false, 1, 24, some (.v (.slice none 0 0)), [], false, []⟩) := by kernel_rfl
@[go_sem] theorem ts123 : tS Tryd.prog 123 = some (4, ⟨false, 1, 1, some (.v (.bool false)), [], false, []⟩) := by kernel_rfl
@[go_sem] theorem ts174 : tS Tryd.prog 174 = some (176, ⟨true, 2, 16, some (.agg [.v (.int .i64 0), .v (.bool false)]), [some 0, some 1], false, [1, 1]⟩) := by kernel_rfl
@[go_sem] theorem ts175 : tS Tryd.prog 175 = none := by kernel_rfl
@[go_sem] theorem ts176 : tS Tryd.prog 176 = none := by kernel_rfl
@[go_sem] theorem ts183 : tS Tryd.prog 183 = some (5, ⟨false, 1, 1, some (.v (.int .u8 0)), [], false, []⟩) := by kernel_rfl
@[go_sem] theorem ts195 : tS Tryd.prog 195 = some (198, ⟨false, 1, 4, some (.v (.int .u32 0)), [], false, []⟩) := by kernel_rfl
@[go_sem] theorem ts196 : tS Tryd.prog 196 = some (198, ⟨false, 1, 4, some (.v (.int .u32 0)), [], false, []⟩) := by kernel_rfl
@[go_sem] theorem ts197 : tS Tryd.prog 197 = none := by kernel_rfl
@[go_sem] theorem ts198 : tS Tryd.prog 198 = none := by kernel_rfl
@[go_sem] theorem ts203 : tS Tryd.prog 203 = none := by kernel_rfl
@[go_sem] theorem ts204 : tS Tryd.prog 204 = none := by kernel_rfl
@[go_sem] theorem ts205 : tS Tryd.prog 205 = none := by kernel_rfl
@[go_sem] theorem ts235 : tS Tryd.prog 235 = none := by kernel_rfl
@[go_sem] theorem ts241 : tS Tryd.prog 241 = none := by kernel_rfl
@[go_sem] theorem ts256 : tS Tryd.prog 256 = none := by kernel_rfl
@[go_sem] theorem ts262 : tS Tryd.prog 262 = none := by kernel_rfl
@[go_sem] theorem ts266 : tS Tryd.prog 266 = none := by kernel_rfl
@[go_sem] theorem ts273 : tS Tryd.prog 273 = none := by kernel_rfl
@[go_sem] theorem ts278 : tS Tryd.prog 278 = none := by kernel_rfl
@[go_sem] theorem ts279 : tS Tryd.prog 279 = none := by kernel_rfl
@[go_sem] theorem ts282 : tS Tryd.prog 282 = none := by kernel_rfl
@[go_sem] theorem ts283 : tS Tryd.prog 283 = none := by kernel_rfl
@[go_sem] theorem ts285 : tS Tryd.prog 285 = none := by kernel_rfl
@[go_sem] theorem ts286 : tS Tryd.prog 286 = none := by kernel_rfl
@[go_sem] theorem ts287 : tS Tryd.prog 287 = none := by kernel_rfl
@[go_sem] theorem ts288 : tS Tryd.prog 288 = none := by kernel_rfl
@[go_sem] theorem ts290 : tS Tryd.prog 290 = none := by kernel_rfl
@[go_sem] theorem ts291 : tS Tryd.prog 291 = none := by kernel_rfl
theorem mixed : Tryd.prog.follows .mixedOrders = true := by kernel_rfl
end Go.Proofs.YtabmgfchkcmcmaaDoor
