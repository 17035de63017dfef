/- What the types of this program are, for the abstract machine. Made by geninfo.py. -/
import Derived.Test.YtcgagiimlkjcpaaDoorProg
import Derived.Test.YtcgagiimlkjcpaaDoorZAmM
set_option linter.unusedVariables false
namespace Go.Proofs.YtcgagiimlkjcpaaDoor
open Go
@[go_sem] theorem ti2 : tI Tryd.prog 2 = some ⟨false, 1, 8, some (.v (.int .i64 0)), [], false, []⟩ := by kernel_rfl
@[go_sem] theorem ti3 : tI Tryd.prog 3 = some ⟨false, 1, 8, some (.v (.int .i64 0)), [], false, []⟩ := by kernel_rfl
@[go_sem] theorem ti4 : tI Tryd.prog 4 = some ⟨false, 1, 1, some (.v (.bool false)), [], false, []⟩ := by kernel_rfl
@[go_sem] theorem ti5 : tI Tryd.prog 5 = some ⟨false, 1, 1, some (.v (.int .u8 0)), [], false, []⟩ := by kernel_rfl
@[go_sem] theorem ti6 : tI Tryd.prog 6 = some ⟨false, 1, 1, some (.v (.int .u8 0)), [], false, []⟩ := by kernel_rfl
@[go_sem] theorem ti7 : tI Tryd.prog 7 = some ⟨true, 4, 24, some (.agg [.v (.int .i64 0), .v (.int .i64 0), .v (.bool false), .v (.int .u8 0)]), [some 0, some 1, some 2, some 3], false, [1, 1, 1, 1]⟩ := by kernel_rfl
@[go_sem] theorem fo7 : fieldsOk Tryd.prog 7 = true := by kernel_rfl
@[go_sem] theorem ti8 : tI Tryd.prog 8 = some ⟨true, 4, 24, some (.agg [.v (.int .i64 0), .v (.int .i64 0), .v (.bool false), .v (.int .u8 0)]), [some 0, some 1, some 2, some 3], false, [1, 1, 1, 1]⟩ := by kernel_rfl
@[go_sem] theorem fo8 : fieldsOk Tryd.prog 8 = true := by kernel_rfl
@[go_sem] theorem ti9 : tI Tryd.prog 9 = some ⟨false, 1, 16, some (.v (.string ⟨#[]⟩)), [], true, []⟩ := by kernel_rfl
@[go_sem] theorem ti10 : tI Tryd.prog 10 = some ⟨false, 1, 16, some (.v (.string ⟨#[]⟩)), [], true, []⟩ := by kernel_rfl
@[go_sem] theorem ti11 : tI Tryd.prog 11 = some ⟨false, 1, 16, some (.v (.string ⟨#[]⟩)), [], true, []⟩ := by kernel_rfl
@[go_sem] theorem ti12 : tI Tryd.prog 12 = some ⟨false, 1, 8, some (.v (.int .u64 0)), [], false, []⟩ := by kernel_rfl
@[go_sem] theorem ti13 : tI Tryd.prog 13 = some ⟨true, 2, 24, some (.agg [.v (.string ⟨#[]⟩), .v (.int .u64 0)]), [some 0, some 1], false, [1, 1]⟩ := by kernel_rfl
@[go_sem] theorem fo13 : fieldsOk Tryd.prog 13 = true := by kernel_rfl
@[go_sem] theorem ti14 : tI Tryd.prog 14 = some ⟨true, 2, 24, some (.agg [.v (.string ⟨#[]⟩), .v (.int .u64 0)]), [some 0, some 1], false, [1, 1]⟩ := by kernel_rfl
@[go_sem] theorem fo14 : fieldsOk Tryd.prog 14 = true := by kernel_rfl
@[go_sem] theorem ti15 : tI Tryd.prog 15 = some ⟨false, 1, 8, some (.v (.pointer none)), [], false, []⟩ := by kernel_rfl
@[go_sem] theorem ti16 : tI Tryd.prog 16 = some ⟨false, 1, 8, some (.v (.pointer none)), [], false, []⟩ := by kernel_rfl
@[go_sem] theorem ti17 : tI Tryd.prog 17 = some ⟨false, 1, 8, some (.v (.pointer none)), [], false, []⟩ := by kernel_rfl
@[go_sem] theorem ti18 : tI Tryd.prog 18 = some ⟨true, 1, 8, some (.agg [.v (.pointer none)]), [some 0], false, [1]⟩ := by kernel_rfl
@[go_sem] theorem fo18 : fieldsOk Tryd.prog 18 = true := by kernel_rfl
@[go_sem] theorem ti19 : tI Tryd.prog 19 = some ⟨true, 1, 8, some (.agg [.v (.pointer none)]), [some 0], false, [1]⟩ := by kernel_rfl
@[go_sem] theorem fo19 : fieldsOk Tryd.prog 19 = true := by kernel_rfl
@[go_sem] theorem ti21 : tI Tryd.prog 21 = some ⟨false, 1, 4, some (.v (.int .i32 0)), [], false, []⟩ := by kernel_rfl
@[go_sem] theorem ti22 : tI Tryd.prog 22 = some ⟨false, 1, 24, some (.v (.slice none 0 0)), [], false, []⟩ := by kernel_rfl
@[go_sem] theorem ti25 : tI Tryd.prog 25 = some ⟨false, 1, 24, some (.v (.slice none 0 0)), [], false, []⟩ := by kernel_rfl
@[go_sem] theorem ti27 : tI Tryd.prog 27 = some ⟨false, 1, 24, some (.v (.slice none 0 0)), [], false, []⟩ := by kernel_rfl
@[go_sem] theorem ti28 : tI Tryd.prog 28 = some ⟨false, 1, 8, some (.v (.int .i64 0)), [], false, []⟩ := by kernel_rfl
@[go_sem] theorem ti31 : tI Tryd.prog 31 = some ⟨false, 1, 24, some (.v (.slice none 0 0)), [], false, []⟩ := by kernel_rfl
@[go_sem] theorem ti32 : tI Tryd.prog 32 = some ⟨false, 1, 24, some (.v (.slice none 0 0)), [], false, []⟩ := by kernel_rfl
@[go_sem] theorem ti37 : tI Tryd.prog 37 = some ⟨false, 1, 16, some (.v (.string ⟨#[]⟩)), [], true, []⟩ := by kernel_rfl
@[go_sem] theorem ti38 : tI Tryd.prog 38 = some ⟨true, 3, 40, some (.agg [.v (.bool false), .v (.string ⟨#[]⟩), .v (.string ⟨#[]⟩)]), [some 0, some 1, some 2], false, [1, 1, 1]⟩ := by kernel_rfl
@[go_sem] theorem fo38 : fieldsOk Tryd.prog 38 = true := by kernel_rfl
@[go_sem] theorem ti39 : tI Tryd.prog 39 = some ⟨true, 3, 40, some (.agg [.v (.bool false), .v (.string ⟨#[]⟩), .v (.string ⟨#[]⟩)]), [some 0, some 1, some 2], false, [1, 1, 1]⟩ := by kernel_rfl
@[go_sem] theorem fo39 : fieldsOk Tryd.prog 39 = true := by kernel_rfl
@[go_sem] theorem ti68 : tI Tryd.prog 68 = some ⟨false, 1, 24, some (.v (.slice none 0 0)), [], false, []⟩ := by kernel_rfl
@[go_sem] theorem ti80 : tI Tryd.prog 80 = some ⟨false, 1, 24, some (.v (.slice none 0 0)), [], false, []⟩ := by kernel_rfl
@[go_sem] theorem ti81 : tI Tryd.prog 81 = some ⟨false, 1, 24, some (.v (.slice none 0 0)), [], false, []⟩ := by kernel_rfl
@[go_sem] theorem ti83 : tI Tryd.prog 83 = some ⟨false, 1, 8, some (.v (.int .u64 0)), [], false, []⟩ := by kernel_rfl
@[go_sem] theorem ti84 : tI Tryd.prog 84 = some ⟨false, 1, 4, some (.v (.int .u32 0)), [], false, []⟩ := by kernel_rfl
@[go_sem] theorem ti85 : tI Tryd.prog 85 = some ⟨false, 1, 8, some (.v (.int .u64 0)), [], false, []⟩ := by kernel_rfl
@[go_sem] theorem ti110 : tI Tryd.prog 110 = some ⟨false, 1, 8, some (.v (.pointer none)), [], false, []⟩ := by kernel_rfl
@[go_sem] theorem ti119 : tI Tryd.prog 119 = some ⟨true, 2, 2, some (.agg [.v (.int .u8 0), .v (.int .u8 0)]), [some 0, some 1], false, [1, 1]⟩ := by kernel_rfl
@[go_sem] theorem fo119 : fieldsOk Tryd.prog 119 = true := by kernel_rfl
@[go_sem] theorem ti120 : tI Tryd.prog 120 = some ⟨true, 2, 2, some (.agg [.v (.int .u8 0), .v (.int .u8 0)]), [some 0, some 1], false, [1, 1]⟩ := by kernel_rfl
@[go_sem] theorem fo120 : fieldsOk Tryd.prog 120 = true := by kernel_rfl
@[go_sem] theorem ti126 : tI Tryd.prog 126 = some ⟨true, 4, 40, some (.agg [.v (.pointer none), .v (.pointer none), .v (.pointer none), .v (.string ⟨#[]⟩)]), [some 0, some 1, some 2, some 3], false, [1, 1, 1, 1]⟩ := by kernel_rfl
@[go_sem] theorem fo126 : fieldsOk Tryd.prog 126 = true := by kernel_rfl
@[go_sem] theorem ti127 : tI Tryd.prog 127 = some ⟨true, 4, 40, some (.agg [.v (.pointer none), .v (.pointer none), .v (.pointer none), .v (.string ⟨#[]⟩)]), [some 0, some 1, some 2, some 3], false, [1, 1, 1, 1]⟩ := by kernel_rfl
@[go_sem] theorem fo127 : fieldsOk Tryd.prog 127 = true := by kernel_rfl
@[go_sem] theorem ti129 : tI Tryd.prog 129 = some ⟨true, 0, 0, some (.agg []), [none], false, [0]⟩ := by kernel_rfl
@[go_sem] theorem fo129 : fieldsOk Tryd.prog 129 = true := by kernel_rfl
@[go_sem] theorem ti130 : tI Tryd.prog 130 = some ⟨true, 0, 0, some (.agg []), [none], false, [0]⟩ := by kernel_rfl
@[go_sem] theorem fo130 : fieldsOk Tryd.prog 130 = true := by kernel_rfl
@[go_sem] theorem ti132 : tI Tryd.prog 132 = some ⟨false, 1, 1, some (.v (.int .u8 0)), [], false, []⟩ := by kernel_rfl
@[go_sem] theorem ti133 : tI Tryd.prog 133 = some ⟨false, 1, 1, some (.v (.int .u8 0)), [], false, []⟩ := by kernel_rfl
@[go_sem] theorem ti135 : tI Tryd.prog 135 = some ⟨false, 1, 8, some (.v (.pointer none)), [], false, []⟩ := by kernel_rfl
@[go_sem] theorem ti136 : tI Tryd.prog 136 = some ⟨false, 1, 4, some (.v (.int .i32 0)), [], false, []⟩ := by kernel_rfl
@[go_sem] theorem ti137 : tI Tryd.prog 137 = some ⟨false, 1, 4, some (.v (.int .i32 0)), [], false, []⟩ := by kernel_rfl
@[go_sem] theorem ts2 : tS Tryd.prog 2 = none := by kernel_rfl
@[go_sem] theorem ts3 : tS Tryd.prog 3 = none := by kernel_rfl
@[go_sem] theorem ts4 : tS Tryd.prog 4 = none := by kernel_rfl
@[go_sem] theorem ts5 : tS Tryd.prog 5 = none := by kernel_rfl
@[go_sem] theorem ts6 : tS Tryd.prog 6 = none := by kernel_rfl
@[go_sem] theorem ts7 : tS Tryd.prog 7 = none := by kernel_rfl
@[go_sem] theorem ts8 : tS Tryd.prog 8 = none := by kernel_rfl
@[go_sem] theorem ts9 : tS Tryd.prog 9 = none := by kernel_rfl
@[go_sem] theorem ts10 : tS Tryd.prog 10 = none := by kernel_rfl
@[go_sem] theorem ts11 : tS Tryd.prog 11 = none := by kernel_rfl
@[go_sem] theorem ts12 : tS Tryd.prog 12 = none := by kernel_rfl
@[go_sem] theorem ts13 : tS Tryd.prog 13 = none := by kernel_rfl
@[go_sem] theorem ts14 : tS Tryd.prog 14 = none := by kernel_rfl
@[go_sem] theorem ts15 : tS Tryd.prog 15 = none := by kernel_rfl
@[go_sem] theorem ts16 : tS Tryd.prog 16 = none := by kernel_rfl
@[go_sem] theorem ts17 : tS Tryd.prog 17 = none := by kernel_rfl
@[go_sem] theorem ts18 : tS Tryd.prog 18 = none := by kernel_rfl
@[go_sem] theorem ts19 : tS Tryd.prog 19 = none := by kernel_rfl
@[go_sem] theorem ts21 : tS Tryd.prog 21 = none := by kernel_rfl
@[go_sem] theorem ts22 : tS Tryd.prog 22 = some (3, ⟨false, 1, 8, some (.v (.int .i64 0)), [], false, []⟩) := by kernel_rfl
@[go_sem] theorem ts25 : tS Tryd.prog 25 = some (27, ⟨false, 1, 24, some (.v (.slice none 0 0)), [], false, []⟩) := by kernel_rfl
@[go_sem] theorem ts27 : tS Tryd.prog 27 = some (39, ⟨true, 3, 40, some (.agg [.v (.bool false), .v (.string ⟨#[]⟩), .v (.string ⟨#[]⟩)]), [some 0, some 1, some 2], false, [1, 1, 1]⟩) := by kernel_rfl
@[go_sem] theorem ts28 : tS Tryd.prog 28 = none := by kernel_rfl
@[go_sem] theorem ts31 : tS Tryd.prog 31 = some (22, ⟨false, 1, 24, some (.v (.slice none 0 0)), [], false, []⟩) := by kernel_rfl
@[go_sem] theorem ts32 : tS Tryd.prog 32 = some (4, ⟨false, 1, 1, some (.v (.bool false)), [], false, []⟩) := by kernel_rfl
@[go_sem] theorem ts37 : tS Tryd.prog 37 = none := by kernel_rfl
@[go_sem] theorem ts38 : tS Tryd.prog 38 = none := by kernel_rfl
@[go_sem] theorem ts39 : tS Tryd.prog 39 = none := by kernel_rfl
@[go_sem] theorem ts68 : tS Tryd.prog 68 = some (5, ⟨false, 1, 1, some (.v (.int .u8 0)), [], false, []⟩) := by kernel_rfl
@[go_sem] theorem ts80 : tS Tryd.prog 80 = some (84, ⟨false, 1, 4, some (.v (.int .u32 0)), [], false, []⟩) := by kernel_rfl
@[go_sem] theorem ts81 : tS Tryd.prog 81 = some (84, ⟨false, 1, 4, some (.v (.int .u32 0)), [], false, []⟩) := by kernel_rfl
@[go_sem] theorem ts83 : tS Tryd.prog 83 = none := by kernel_rfl
@[go_sem] theorem ts84 : tS Tryd.prog 84 = none := by kernel_rfl
@[go_sem] theorem ts85 : tS Tryd.prog 85 = none := by kernel_rfl
@[go_sem] theorem ts110 : tS Tryd.prog 110 = none := by kernel_rfl
@[go_sem] theorem ts119 : tS Tryd.prog 119 = none := by kernel_rfl
@[go_sem] theorem ts120 : tS Tryd.prog 120 = none := by kernel_rfl
@[go_sem] theorem ts126 : tS Tryd.prog 126 = none := by kernel_rfl
@[go_sem] theorem ts127 : tS Tryd.prog 127 = none := by kernel_rfl
@[go_sem] theorem ts129 : tS Tryd.prog 129 = none := by kernel_rfl
@[go_sem] theorem ts130 : tS Tryd.prog 130 = none := by kernel_rfl
@[go_sem] theorem ts132 : tS Tryd.prog 132 = none := by kernel_rfl
@[go_sem] theorem ts133 : tS Tryd.prog 133 = none := by kernel_rfl
@[go_sem] theorem ts135 : tS Tryd.prog 135 = none := by kernel_rfl
@[go_sem] theorem ts136 : tS Tryd.prog 136 = none := by kernel_rfl
@[go_sem] theorem ts137 : tS Tryd.prog 137 = none := by kernel_rfl
theorem mixed : Tryd.prog.follows .mixedOrders = true := by kernel_rfl
end Go.Proofs.YtcgagiimlkjcpaaDoor
