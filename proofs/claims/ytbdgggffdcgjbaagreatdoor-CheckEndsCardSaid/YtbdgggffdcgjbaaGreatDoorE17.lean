/- A part of the proof that CheckEnds returns true at every number: Ce2. Conditions: none. -/
import Derived.Test.YtbdgggffdcgjbaaGreatDoorE13
import Derived.Test.YtbdgggffdcgjbaaGreatDoorE09
import Derived.Test.YtbdgggffdcgjbaaGreatDoorE15
import Derived.Test.YtbdgggffdcgjbaaGreatDoorProg
import Derived.KernelRfl
set_option linter.all false
set_option linter.unusedVariables false
set_option linter.unusedSectionVars false
set_option linter.unusedSimpArgs false
namespace Go.Ev
set_option maxRecDepth 100000
open Go.Proofs
theorem e171 : cFn Tryz.prog hintOf orderHint 171 = some cf171 := by kernel_rfl
theorem k171 : fnChk Tryz.prog (hintOf 171) (orderHint 171) 171 = true := by kernel_rfl
theorem e172 : cFn Tryz.prog hintOf orderHint 172 = some cf172 := by kernel_rfl
theorem k172 : fnChk Tryz.prog (hintOf 172) (orderHint 172) 172 = true := by kernel_rfl
theorem e173 : cFn Tryz.prog hintOf orderHint 173 = some cf173 := by kernel_rfl
theorem k173 : fnChk Tryz.prog (hintOf 173) (orderHint 173) 173 = true := by kernel_rfl
theorem e174 : cFn Tryz.prog hintOf orderHint 174 = some cf174 := by kernel_rfl
theorem k174 : fnChk Tryz.prog (hintOf 174) (orderHint 174) 174 = true := by kernel_rfl
theorem e175 : cFn Tryz.prog hintOf orderHint 175 = some cf175 := by kernel_rfl
theorem k175 : fnChk Tryz.prog (hintOf 175) (orderHint 175) 175 = true := by kernel_rfl
theorem e176 : cFn Tryz.prog hintOf orderHint 176 = some cf176 := by kernel_rfl
theorem k176 : fnChk Tryz.prog (hintOf 176) (orderHint 176) 176 = true := by kernel_rfl
theorem e177 : cFn Tryz.prog hintOf orderHint 177 = some cf177 := by kernel_rfl
theorem k177 : fnChk Tryz.prog (hintOf 177) (orderHint 177) 177 = true := by kernel_rfl
theorem e178 : cFn Tryz.prog hintOf orderHint 178 = some cf178 := by kernel_rfl
theorem k178 : fnChk Tryz.prog (hintOf 178) (orderHint 178) 178 = true := by kernel_rfl
theorem e181 : cFn Tryz.prog hintOf orderHint 181 = some cf181 := by kernel_rfl
theorem k181 : fnChk Tryz.prog (hintOf 181) (orderHint 181) 181 = true := by kernel_rfl
theorem e182 : cFn Tryz.prog hintOf orderHint 182 = some cf182 := by kernel_rfl
theorem k182 : fnChk Tryz.prog (hintOf 182) (orderHint 182) 182 = true := by kernel_rfl
theorem e183 : cFn Tryz.prog hintOf orderHint 183 = some cf183 := by kernel_rfl
theorem k183 : fnChk Tryz.prog (hintOf 183) (orderHint 183) 183 = true := by kernel_rfl
theorem e185 : cFn Tryz.prog hintOf orderHint 185 = some cf185 := by kernel_rfl
theorem k185 : fnChk Tryz.prog (hintOf 185) (orderHint 185) 185 = true := by kernel_rfl
theorem e191 : cFn Tryz.prog hintOf orderHint 191 = some cf191 := by kernel_rfl
theorem k191 : fnChk Tryz.prog (hintOf 191) (orderHint 191) 191 = true := by kernel_rfl
theorem e192 : cFn Tryz.prog hintOf orderHint 192 = some cf192 := by kernel_rfl
theorem k192 : fnChk Tryz.prog (hintOf 192) (orderHint 192) 192 = true := by kernel_rfl
theorem e193 : cFn Tryz.prog hintOf orderHint 193 = some cf193 := by kernel_rfl
theorem k193 : fnChk Tryz.prog (hintOf 193) (orderHint 193) 193 = true := by kernel_rfl
theorem e194 : cFn Tryz.prog hintOf orderHint 194 = some cf194 := by kernel_rfl
theorem k194 : fnChk Tryz.prog (hintOf 194) (orderHint 194) 194 = true := by kernel_rfl
theorem e195 : cFn Tryz.prog hintOf orderHint 195 = some cf195 := by kernel_rfl
theorem k195 : fnChk Tryz.prog (hintOf 195) (orderHint 195) 195 = true := by kernel_rfl
theorem e196 : cFn Tryz.prog hintOf orderHint 196 = some cf196 := by kernel_rfl
theorem k196 : fnChk Tryz.prog (hintOf 196) (orderHint 196) 196 = true := by kernel_rfl
theorem e197 : cFn Tryz.prog hintOf orderHint 197 = some cf197 := by kernel_rfl
theorem k197 : fnChk Tryz.prog (hintOf 197) (orderHint 197) 197 = true := by kernel_rfl
theorem e198 : cFn Tryz.prog hintOf orderHint 198 = some cf198 := by kernel_rfl
theorem k198 : fnChk Tryz.prog (hintOf 198) (orderHint 198) 198 = true := by kernel_rfl
theorem e200 : cFn Tryz.prog hintOf orderHint 200 = some cf200 := by kernel_rfl
theorem k200 : fnChk Tryz.prog (hintOf 200) (orderHint 200) 200 = true := by kernel_rfl
theorem e201 : cFn Tryz.prog hintOf orderHint 201 = some cf201 := by kernel_rfl
theorem k201 : fnChk Tryz.prog (hintOf 201) (orderHint 201) 201 = true := by kernel_rfl
theorem e207 : cFn Tryz.prog hintOf orderHint 207 = some cf207 := by kernel_rfl
theorem k207 : fnChk Tryz.prog (hintOf 207) (orderHint 207) 207 = true := by kernel_rfl
theorem e208 : cFn Tryz.prog hintOf orderHint 208 = some cf208 := by kernel_rfl
theorem k208 : fnChk Tryz.prog (hintOf 208) (orderHint 208) 208 = true := by kernel_rfl
theorem e209 : cFn Tryz.prog hintOf orderHint 209 = some cf209 := by kernel_rfl
theorem k209 : fnChk Tryz.prog (hintOf 209) (orderHint 209) 209 = true := by kernel_rfl
theorem e210 : cFn Tryz.prog hintOf orderHint 210 = some cf210 := by kernel_rfl
theorem k210 : fnChk Tryz.prog (hintOf 210) (orderHint 210) 210 = true := by kernel_rfl
theorem e211 : cFn Tryz.prog hintOf orderHint 211 = some cf211 := by kernel_rfl
theorem k211 : fnChk Tryz.prog (hintOf 211) (orderHint 211) 211 = true := by kernel_rfl
theorem e212 : cFn Tryz.prog hintOf orderHint 212 = some cf212 := by kernel_rfl
theorem k212 : fnChk Tryz.prog (hintOf 212) (orderHint 212) 212 = true := by kernel_rfl
theorem e213 : cFn Tryz.prog hintOf orderHint 213 = some cf213 := by kernel_rfl
theorem k213 : fnChk Tryz.prog (hintOf 213) (orderHint 213) 213 = true := by kernel_rfl
theorem e214 : cFn Tryz.prog hintOf orderHint 214 = some cf214 := by kernel_rfl
theorem k214 : fnChk Tryz.prog (hintOf 214) (orderHint 214) 214 = true := by kernel_rfl
theorem e215 : cFn Tryz.prog hintOf orderHint 215 = some cf215 := by kernel_rfl
theorem k215 : fnChk Tryz.prog (hintOf 215) (orderHint 215) 215 = true := by kernel_rfl
theorem e216 : cFn Tryz.prog hintOf orderHint 216 = some cf216 := by kernel_rfl
theorem k216 : fnChk Tryz.prog (hintOf 216) (orderHint 216) 216 = true := by kernel_rfl
theorem e217 : cFn Tryz.prog hintOf orderHint 217 = some cf217 := by kernel_rfl
theorem k217 : fnChk Tryz.prog (hintOf 217) (orderHint 217) 217 = true := by kernel_rfl
theorem e218 : cFn Tryz.prog hintOf orderHint 218 = some cf218 := by kernel_rfl
theorem k218 : fnChk Tryz.prog (hintOf 218) (orderHint 218) 218 = true := by kernel_rfl
theorem e219 : cFn Tryz.prog hintOf orderHint 219 = some cf219 := by kernel_rfl
theorem k219 : fnChk Tryz.prog (hintOf 219) (orderHint 219) 219 = true := by kernel_rfl
theorem e220 : cFn Tryz.prog hintOf orderHint 220 = some cf220 := by kernel_rfl
theorem k220 : fnChk Tryz.prog (hintOf 220) (orderHint 220) 220 = true := by kernel_rfl
theorem e222 : cFn Tryz.prog hintOf orderHint 222 = some cf222 := by kernel_rfl
theorem k222 : fnChk Tryz.prog (hintOf 222) (orderHint 222) 222 = true := by kernel_rfl
theorem e231 : cFn Tryz.prog hintOf orderHint 231 = some cf231 := by kernel_rfl
theorem k231 : fnChk Tryz.prog (hintOf 231) (orderHint 231) 231 = true := by kernel_rfl
theorem e241 : cFn Tryz.prog hintOf orderHint 241 = some cf241 := by kernel_rfl
theorem k241 : fnChk Tryz.prog (hintOf 241) (orderHint 241) 241 = true := by kernel_rfl
theorem e242 : cFn Tryz.prog hintOf orderHint 242 = some cf242 := by kernel_rfl
theorem k242 : fnChk Tryz.prog (hintOf 242) (orderHint 242) 242 = true := by kernel_rfl
theorem e243 : cFn Tryz.prog hintOf orderHint 243 = some cf243 := by kernel_rfl
theorem k243 : fnChk Tryz.prog (hintOf 243) (orderHint 243) 243 = true := by kernel_rfl
theorem e244 : cFn Tryz.prog hintOf orderHint 244 = some cf244 := by kernel_rfl
theorem k244 : fnChk Tryz.prog (hintOf 244) (orderHint 244) 244 = true := by kernel_rfl
theorem e245 : cFn Tryz.prog hintOf orderHint 245 = some cf245 := by kernel_rfl
theorem k245 : fnChk Tryz.prog (hintOf 245) (orderHint 245) 245 = true := by kernel_rfl
theorem e246 : cFn Tryz.prog hintOf orderHint 246 = some cf246 := by kernel_rfl
theorem k246 : fnChk Tryz.prog (hintOf 246) (orderHint 246) 246 = true := by kernel_rfl
theorem e249 : cFn Tryz.prog hintOf orderHint 249 = some cf249 := by kernel_rfl
theorem k249 : fnChk Tryz.prog (hintOf 249) (orderHint 249) 249 = true := by kernel_rfl
theorem e250 : cFn Tryz.prog hintOf orderHint 250 = some cf250 := by kernel_rfl
theorem k250 : fnChk Tryz.prog (hintOf 250) (orderHint 250) 250 = true := by kernel_rfl
theorem e251 : cFn Tryz.prog hintOf orderHint 251 = some cf251 := by kernel_rfl
theorem k251 : fnChk Tryz.prog (hintOf 251) (orderHint 251) 251 = true := by kernel_rfl
theorem e252 : cFn Tryz.prog hintOf orderHint 252 = some cf252 := by kernel_rfl
theorem k252 : fnChk Tryz.prog (hintOf 252) (orderHint 252) 252 = true := by kernel_rfl
theorem e253 : cFn Tryz.prog hintOf orderHint 253 = some cf253 := by kernel_rfl
theorem k253 : fnChk Tryz.prog (hintOf 253) (orderHint 253) 253 = true := by kernel_rfl
theorem e254 : cFn Tryz.prog hintOf orderHint 254 = some cf254 := by kernel_rfl
theorem k254 : fnChk Tryz.prog (hintOf 254) (orderHint 254) 254 = true := by kernel_rfl
theorem e255 : cFn Tryz.prog hintOf orderHint 255 = some cf255 := by kernel_rfl
theorem k255 : fnChk Tryz.prog (hintOf 255) (orderHint 255) 255 = true := by kernel_rfl
theorem e263 : cFn Tryz.prog hintOf orderHint 263 = some cf263 := by kernel_rfl
theorem k263 : fnChk Tryz.prog (hintOf 263) (orderHint 263) 263 = true := by kernel_rfl
theorem e273 : cFn Tryz.prog hintOf orderHint 273 = some cf273 := by kernel_rfl
theorem k273 : fnChk Tryz.prog (hintOf 273) (orderHint 273) 273 = true := by kernel_rfl
end Go.Ev
