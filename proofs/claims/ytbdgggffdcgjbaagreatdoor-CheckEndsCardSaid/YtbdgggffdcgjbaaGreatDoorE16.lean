/- A part of the proof that CheckEnds returns true at every number: Ce1. Conditions: none. -/
import Derived.Test.YtbdgggffdcgjbaaGreatDoorE13
import Derived.Test.YtbdgggffdcgjbaaGreatDoorE09
import Derived.Test.YtbdgggffdcgjbaaGreatDoorE15
import Derived.Test.YtbdgggffdcgjbaaGreatDoorProg
import Derived.KernelRfl
set_option linter.all false
set_option linter.unusedVariables false
set_option linter.unusedSectionVars false
set_option linter.unusedSimpArgs false
namespace Go.Ev
set_option maxRecDepth 100000
open Go.Proofs
theorem e75 : cFn Tryz.prog hintOf orderHint 75 = some cf75 := by kernel_rfl
theorem k75 : fnChk Tryz.prog (hintOf 75) (orderHint 75) 75 = true := by kernel_rfl
theorem e76 : cFn Tryz.prog hintOf orderHint 76 = some cf76 := by kernel_rfl
theorem k76 : fnChk Tryz.prog (hintOf 76) (orderHint 76) 76 = true := by kernel_rfl
theorem e77 : cFn Tryz.prog hintOf orderHint 77 = some cf77 := by kernel_rfl
theorem k77 : fnChk Tryz.prog (hintOf 77) (orderHint 77) 77 = true := by kernel_rfl
theorem e78 : cFn Tryz.prog hintOf orderHint 78 = some cf78 := by kernel_rfl
theorem k78 : fnChk Tryz.prog (hintOf 78) (orderHint 78) 78 = true := by kernel_rfl
theorem e79 : cFn Tryz.prog hintOf orderHint 79 = some cf79 := by kernel_rfl
theorem k79 : fnChk Tryz.prog (hintOf 79) (orderHint 79) 79 = true := by kernel_rfl
theorem e80 : cFn Tryz.prog hintOf orderHint 80 = some cf80 := by kernel_rfl
theorem k80 : fnChk Tryz.prog (hintOf 80) (orderHint 80) 80 = true := by kernel_rfl
theorem e81 : cFn Tryz.prog hintOf orderHint 81 = some cf81 := by kernel_rfl
theorem k81 : fnChk Tryz.prog (hintOf 81) (orderHint 81) 81 = true := by kernel_rfl
theorem e82 : cFn Tryz.prog hintOf orderHint 82 = some cf82 := by kernel_rfl
theorem k82 : fnChk Tryz.prog (hintOf 82) (orderHint 82) 82 = true := by kernel_rfl
theorem e86 : cFn Tryz.prog hintOf orderHint 86 = some cf86 := by kernel_rfl
theorem k86 : fnChk Tryz.prog (hintOf 86) (orderHint 86) 86 = true := by kernel_rfl
theorem e87 : cFn Tryz.prog hintOf orderHint 87 = some cf87 := by kernel_rfl
theorem k87 : fnChk Tryz.prog (hintOf 87) (orderHint 87) 87 = true := by kernel_rfl
theorem e90 : cFn Tryz.prog hintOf orderHint 90 = some cf90 := by kernel_rfl
theorem k90 : fnChk Tryz.prog (hintOf 90) (orderHint 90) 90 = true := by kernel_rfl
theorem e92 : cFn Tryz.prog hintOf orderHint 92 = some cf92 := by kernel_rfl
theorem k92 : fnChk Tryz.prog (hintOf 92) (orderHint 92) 92 = true := by kernel_rfl
theorem e94 : cFn Tryz.prog hintOf orderHint 94 = some cf94 := by kernel_rfl
theorem k94 : fnChk Tryz.prog (hintOf 94) (orderHint 94) 94 = true := by kernel_rfl
theorem e95 : cFn Tryz.prog hintOf orderHint 95 = some cf95 := by kernel_rfl
theorem k95 : fnChk Tryz.prog (hintOf 95) (orderHint 95) 95 = true := by kernel_rfl
theorem e96 : cFn Tryz.prog hintOf orderHint 96 = some cf96 := by kernel_rfl
theorem k96 : fnChk Tryz.prog (hintOf 96) (orderHint 96) 96 = true := by kernel_rfl
theorem e97 : cFn Tryz.prog hintOf orderHint 97 = some cf97 := by kernel_rfl
theorem k97 : fnChk Tryz.prog (hintOf 97) (orderHint 97) 97 = true := by kernel_rfl
theorem e98 : cFn Tryz.prog hintOf orderHint 98 = some cf98 := by kernel_rfl
theorem k98 : fnChk Tryz.prog (hintOf 98) (orderHint 98) 98 = true := by kernel_rfl
theorem e99 : cFn Tryz.prog hintOf orderHint 99 = some cf99 := by kernel_rfl
theorem k99 : fnChk Tryz.prog (hintOf 99) (orderHint 99) 99 = true := by kernel_rfl
theorem e100 : cFn Tryz.prog hintOf orderHint 100 = some cf100 := by kernel_rfl
theorem k100 : fnChk Tryz.prog (hintOf 100) (orderHint 100) 100 = true := by kernel_rfl
theorem e101 : cFn Tryz.prog hintOf orderHint 101 = some cf101 := by kernel_rfl
theorem k101 : fnChk Tryz.prog (hintOf 101) (orderHint 101) 101 = true := by kernel_rfl
theorem e102 : cFn Tryz.prog hintOf orderHint 102 = some cf102 := by kernel_rfl
theorem k102 : fnChk Tryz.prog (hintOf 102) (orderHint 102) 102 = true := by kernel_rfl
theorem e103 : cFn Tryz.prog hintOf orderHint 103 = some cf103 := by kernel_rfl
theorem k103 : fnChk Tryz.prog (hintOf 103) (orderHint 103) 103 = true := by kernel_rfl
theorem e104 : cFn Tryz.prog hintOf orderHint 104 = some cf104 := by kernel_rfl
theorem k104 : fnChk Tryz.prog (hintOf 104) (orderHint 104) 104 = true := by kernel_rfl
theorem e105 : cFn Tryz.prog hintOf orderHint 105 = some cf105 := by kernel_rfl
theorem k105 : fnChk Tryz.prog (hintOf 105) (orderHint 105) 105 = true := by kernel_rfl
theorem e106 : cFn Tryz.prog hintOf orderHint 106 = some cf106 := by kernel_rfl
theorem k106 : fnChk Tryz.prog (hintOf 106) (orderHint 106) 106 = true := by kernel_rfl
theorem e107 : cFn Tryz.prog hintOf orderHint 107 = some cf107 := by kernel_rfl
theorem k107 : fnChk Tryz.prog (hintOf 107) (orderHint 107) 107 = true := by kernel_rfl
theorem e108 : cFn Tryz.prog hintOf orderHint 108 = some cf108 := by kernel_rfl
theorem k108 : fnChk Tryz.prog (hintOf 108) (orderHint 108) 108 = true := by kernel_rfl
theorem e109 : cFn Tryz.prog hintOf orderHint 109 = some cf109 := by kernel_rfl
theorem k109 : fnChk Tryz.prog (hintOf 109) (orderHint 109) 109 = true := by kernel_rfl
theorem e110 : cFn Tryz.prog hintOf orderHint 110 = some cf110 := by kernel_rfl
theorem k110 : fnChk Tryz.prog (hintOf 110) (orderHint 110) 110 = true := by kernel_rfl
theorem e113 : cFn Tryz.prog hintOf orderHint 113 = some cf113 := by kernel_rfl
theorem k113 : fnChk Tryz.prog (hintOf 113) (orderHint 113) 113 = true := by kernel_rfl
theorem e114 : cFn Tryz.prog hintOf orderHint 114 = some cf114 := by kernel_rfl
theorem k114 : fnChk Tryz.prog (hintOf 114) (orderHint 114) 114 = true := by kernel_rfl
theorem e115 : cFn Tryz.prog hintOf orderHint 115 = some cf115 := by kernel_rfl
theorem k115 : fnChk Tryz.prog (hintOf 115) (orderHint 115) 115 = true := by kernel_rfl
theorem e116 : cFn Tryz.prog hintOf orderHint 116 = some cf116 := by kernel_rfl
theorem k116 : fnChk Tryz.prog (hintOf 116) (orderHint 116) 116 = true := by kernel_rfl
theorem e118 : cFn Tryz.prog hintOf orderHint 118 = some cf118 := by kernel_rfl
theorem k118 : fnChk Tryz.prog (hintOf 118) (orderHint 118) 118 = true := by kernel_rfl
theorem e119 : cFn Tryz.prog hintOf orderHint 119 = some cf119 := by kernel_rfl
theorem k119 : fnChk Tryz.prog (hintOf 119) (orderHint 119) 119 = true := by kernel_rfl
theorem e120 : cFn Tryz.prog hintOf orderHint 120 = some cf120 := by kernel_rfl
theorem k120 : fnChk Tryz.prog (hintOf 120) (orderHint 120) 120 = true := by kernel_rfl
theorem e121 : cFn Tryz.prog hintOf orderHint 121 = some cf121 := by kernel_rfl
theorem k121 : fnChk Tryz.prog (hintOf 121) (orderHint 121) 121 = true := by kernel_rfl
theorem e122 : cFn Tryz.prog hintOf orderHint 122 = some cf122 := by kernel_rfl
theorem k122 : fnChk Tryz.prog (hintOf 122) (orderHint 122) 122 = true := by kernel_rfl
theorem e123 : cFn Tryz.prog hintOf orderHint 123 = some cf123 := by kernel_rfl
theorem k123 : fnChk Tryz.prog (hintOf 123) (orderHint 123) 123 = true := by kernel_rfl
theorem e125 : cFn Tryz.prog hintOf orderHint 125 = some cf125 := by kernel_rfl
theorem k125 : fnChk Tryz.prog (hintOf 125) (orderHint 125) 125 = true := by kernel_rfl
theorem e126 : cFn Tryz.prog hintOf orderHint 126 = some cf126 := by kernel_rfl
theorem k126 : fnChk Tryz.prog (hintOf 126) (orderHint 126) 126 = true := by kernel_rfl
theorem e127 : cFn Tryz.prog hintOf orderHint 127 = some cf127 := by kernel_rfl
theorem k127 : fnChk Tryz.prog (hintOf 127) (orderHint 127) 127 = true := by kernel_rfl
theorem e128 : cFn Tryz.prog hintOf orderHint 128 = some cf128 := by kernel_rfl
theorem k128 : fnChk Tryz.prog (hintOf 128) (orderHint 128) 128 = true := by kernel_rfl
theorem e129 : cFn Tryz.prog hintOf orderHint 129 = some cf129 := by kernel_rfl
theorem k129 : fnChk Tryz.prog (hintOf 129) (orderHint 129) 129 = true := by kernel_rfl
theorem e130 : cFn Tryz.prog hintOf orderHint 130 = some cf130 := by kernel_rfl
theorem k130 : fnChk Tryz.prog (hintOf 130) (orderHint 130) 130 = true := by kernel_rfl
theorem e131 : cFn Tryz.prog hintOf orderHint 131 = some cf131 := by kernel_rfl
theorem k131 : fnChk Tryz.prog (hintOf 131) (orderHint 131) 131 = true := by kernel_rfl
theorem e132 : cFn Tryz.prog hintOf orderHint 132 = some cf132 := by kernel_rfl
theorem k132 : fnChk Tryz.prog (hintOf 132) (orderHint 132) 132 = true := by kernel_rfl
theorem e134 : cFn Tryz.prog hintOf orderHint 134 = some cf134 := by kernel_rfl
theorem k134 : fnChk Tryz.prog (hintOf 134) (orderHint 134) 134 = true := by kernel_rfl
theorem e135 : cFn Tryz.prog hintOf orderHint 135 = some cf135 := by kernel_rfl
theorem k135 : fnChk Tryz.prog (hintOf 135) (orderHint 135) 135 = true := by kernel_rfl
theorem e136 : cFn Tryz.prog hintOf orderHint 136 = some cf136 := by kernel_rfl
theorem k136 : fnChk Tryz.prog (hintOf 136) (orderHint 136) 136 = true := by kernel_rfl
theorem e143 : cFn Tryz.prog hintOf orderHint 143 = some cf143 := by kernel_rfl
theorem k143 : fnChk Tryz.prog (hintOf 143) (orderHint 143) 143 = true := by kernel_rfl
theorem e144 : cFn Tryz.prog hintOf orderHint 144 = some cf144 := by kernel_rfl
theorem k144 : fnChk Tryz.prog (hintOf 144) (orderHint 144) 144 = true := by kernel_rfl
theorem e145 : cFn Tryz.prog hintOf orderHint 145 = some cf145 := by kernel_rfl
theorem k145 : fnChk Tryz.prog (hintOf 145) (orderHint 145) 145 = true := by kernel_rfl
theorem e146 : cFn Tryz.prog hintOf orderHint 146 = some cf146 := by kernel_rfl
theorem k146 : fnChk Tryz.prog (hintOf 146) (orderHint 146) 146 = true := by kernel_rfl
theorem e149 : cFn Tryz.prog hintOf orderHint 149 = some cf149 := by kernel_rfl
theorem k149 : fnChk Tryz.prog (hintOf 149) (orderHint 149) 149 = true := by kernel_rfl
theorem e150 : cFn Tryz.prog hintOf orderHint 150 = some cf150 := by kernel_rfl
theorem k150 : fnChk Tryz.prog (hintOf 150) (orderHint 150) 150 = true := by kernel_rfl
theorem e151 : cFn Tryz.prog hintOf orderHint 151 = some cf151 := by kernel_rfl
theorem k151 : fnChk Tryz.prog (hintOf 151) (orderHint 151) 151 = true := by kernel_rfl
theorem e152 : cFn Tryz.prog hintOf orderHint 152 = some cf152 := by kernel_rfl
theorem k152 : fnChk Tryz.prog (hintOf 152) (orderHint 152) 152 = true := by kernel_rfl
theorem e155 : cFn Tryz.prog hintOf orderHint 155 = some cf155 := by kernel_rfl
theorem k155 : fnChk Tryz.prog (hintOf 155) (orderHint 155) 155 = true := by kernel_rfl
theorem e158 : cFn Tryz.prog hintOf orderHint 158 = some cf158 := by kernel_rfl
theorem k158 : fnChk Tryz.prog (hintOf 158) (orderHint 158) 158 = true := by kernel_rfl
theorem e162 : cFn Tryz.prog hintOf orderHint 162 = some cf162 := by kernel_rfl
theorem k162 : fnChk Tryz.prog (hintOf 162) (orderHint 162) 162 = true := by kernel_rfl
theorem e163 : cFn Tryz.prog hintOf orderHint 163 = some cf163 := by kernel_rfl
theorem k163 : fnChk Tryz.prog (hintOf 163) (orderHint 163) 163 = true := by kernel_rfl
theorem e164 : cFn Tryz.prog hintOf orderHint 164 = some cf164 := by kernel_rfl
theorem k164 : fnChk Tryz.prog (hintOf 164) (orderHint 164) 164 = true := by kernel_rfl
theorem e165 : cFn Tryz.prog hintOf orderHint 165 = some cf165 := by kernel_rfl
theorem k165 : fnChk Tryz.prog (hintOf 165) (orderHint 165) 165 = true := by kernel_rfl
theorem e166 : cFn Tryz.prog hintOf orderHint 166 = some cf166 := by kernel_rfl
theorem k166 : fnChk Tryz.prog (hintOf 166) (orderHint 166) 166 = true := by kernel_rfl
theorem e167 : cFn Tryz.prog hintOf orderHint 167 = some cf167 := by kernel_rfl
theorem k167 : fnChk Tryz.prog (hintOf 167) (orderHint 167) 167 = true := by kernel_rfl
theorem e168 : cFn Tryz.prog hintOf orderHint 168 = some cf168 := by kernel_rfl
theorem k168 : fnChk Tryz.prog (hintOf 168) (orderHint 168) 168 = true := by kernel_rfl
theorem e170 : cFn Tryz.prog hintOf orderHint 170 = some cf170 := by kernel_rfl
theorem k170 : fnChk Tryz.prog (hintOf 170) (orderHint 170) 170 = true := by kernel_rfl
end Go.Ev
