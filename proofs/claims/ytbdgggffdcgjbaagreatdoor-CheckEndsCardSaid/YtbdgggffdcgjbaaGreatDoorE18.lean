/- A part of the proof that CheckEnds returns true at every number: Ce3. Conditions: none. -/
import Derived.Test.YtbdgggffdcgjbaaGreatDoorE14
import Derived.Test.YtbdgggffdcgjbaaGreatDoorE09
import Derived.Test.YtbdgggffdcgjbaaGreatDoorE15
import Derived.Test.YtbdgggffdcgjbaaGreatDoorProg
import Derived.KernelRfl
set_option linter.all false
set_option linter.unusedVariables false
set_option linter.unusedSectionVars false
set_option linter.unusedSimpArgs false
namespace Go.Ev
set_option maxRecDepth 100000
open Go.Proofs
theorem e275 : cFn Tryz.prog hintOf orderHint 275 = some cf275 := by kernel_rfl
theorem k275 : fnChk Tryz.prog (hintOf 275) (orderHint 275) 275 = true := by kernel_rfl
theorem e276 : cFn Tryz.prog hintOf orderHint 276 = some cf276 := by kernel_rfl
theorem k276 : fnChk Tryz.prog (hintOf 276) (orderHint 276) 276 = true := by kernel_rfl
theorem e277 : cFn Tryz.prog hintOf orderHint 277 = some cf277 := by kernel_rfl
theorem k277 : fnChk Tryz.prog (hintOf 277) (orderHint 277) 277 = true := by kernel_rfl
theorem e278 : cFn Tryz.prog hintOf orderHint 278 = some cf278 := by kernel_rfl
theorem k278 : fnChk Tryz.prog (hintOf 278) (orderHint 278) 278 = true := by kernel_rfl
theorem e279 : cFn Tryz.prog hintOf orderHint 279 = some cf279 := by kernel_rfl
theorem k279 : fnChk Tryz.prog (hintOf 279) (orderHint 279) 279 = true := by kernel_rfl
theorem e280 : cFn Tryz.prog hintOf orderHint 280 = some cf280 := by kernel_rfl
theorem k280 : fnChk Tryz.prog (hintOf 280) (orderHint 280) 280 = true := by kernel_rfl
theorem e281 : cFn Tryz.prog hintOf orderHint 281 = some cf281 := by kernel_rfl
theorem k281 : fnChk Tryz.prog (hintOf 281) (orderHint 281) 281 = true := by kernel_rfl
theorem e282 : cFn Tryz.prog hintOf orderHint 282 = some cf282 := by kernel_rfl
theorem k282 : fnChk Tryz.prog (hintOf 282) (orderHint 282) 282 = true := by kernel_rfl
theorem e283 : cFn Tryz.prog hintOf orderHint 283 = some cf283 := by kernel_rfl
theorem k283 : fnChk Tryz.prog (hintOf 283) (orderHint 283) 283 = true := by kernel_rfl
theorem e284 : cFn Tryz.prog hintOf orderHint 284 = some cf284 := by kernel_rfl
theorem k284 : fnChk Tryz.prog (hintOf 284) (orderHint 284) 284 = true := by kernel_rfl
theorem e285 : cFn Tryz.prog hintOf orderHint 285 = some cf285 := by kernel_rfl
theorem k285 : fnChk Tryz.prog (hintOf 285) (orderHint 285) 285 = true := by kernel_rfl
theorem e286 : cFn Tryz.prog hintOf orderHint 286 = some cf286 := by kernel_rfl
theorem k286 : fnChk Tryz.prog (hintOf 286) (orderHint 286) 286 = true := by kernel_rfl
theorem e288 : cFn Tryz.prog hintOf orderHint 288 = some cf288 := by kernel_rfl
theorem k288 : fnChk Tryz.prog (hintOf 288) (orderHint 288) 288 = true := by kernel_rfl
theorem e294 : cFn Tryz.prog hintOf orderHint 294 = some cf294 := by kernel_rfl
theorem k294 : fnChk Tryz.prog (hintOf 294) (orderHint 294) 294 = true := by kernel_rfl
theorem e295 : cFn Tryz.prog hintOf orderHint 295 = some cf295 := by kernel_rfl
theorem k295 : fnChk Tryz.prog (hintOf 295) (orderHint 295) 295 = true := by kernel_rfl
theorem e296 : cFn Tryz.prog hintOf orderHint 296 = some cf296 := by kernel_rfl
theorem k296 : fnChk Tryz.prog (hintOf 296) (orderHint 296) 296 = true := by kernel_rfl
theorem e297 : cFn Tryz.prog hintOf orderHint 297 = some cf297 := by kernel_rfl
theorem k297 : fnChk Tryz.prog (hintOf 297) (orderHint 297) 297 = true := by kernel_rfl
theorem e298 : cFn Tryz.prog hintOf orderHint 298 = some cf298 := by kernel_rfl
theorem k298 : fnChk Tryz.prog (hintOf 298) (orderHint 298) 298 = true := by kernel_rfl
theorem e299 : cFn Tryz.prog hintOf orderHint 299 = some cf299 := by kernel_rfl
theorem k299 : fnChk Tryz.prog (hintOf 299) (orderHint 299) 299 = true := by kernel_rfl
theorem e300 : cFn Tryz.prog hintOf orderHint 300 = some cf300 := by kernel_rfl
theorem k300 : fnChk Tryz.prog (hintOf 300) (orderHint 300) 300 = true := by kernel_rfl
theorem e301 : cFn Tryz.prog hintOf orderHint 301 = some cf301 := by kernel_rfl
theorem k301 : fnChk Tryz.prog (hintOf 301) (orderHint 301) 301 = true := by kernel_rfl
theorem e302 : cFn Tryz.prog hintOf orderHint 302 = some cf302 := by kernel_rfl
theorem k302 : fnChk Tryz.prog (hintOf 302) (orderHint 302) 302 = true := by kernel_rfl
theorem e303 : cFn Tryz.prog hintOf orderHint 303 = some cf303 := by kernel_rfl
theorem k303 : fnChk Tryz.prog (hintOf 303) (orderHint 303) 303 = true := by kernel_rfl
theorem e304 : cFn Tryz.prog hintOf orderHint 304 = some cf304 := by kernel_rfl
theorem k304 : fnChk Tryz.prog (hintOf 304) (orderHint 304) 304 = true := by kernel_rfl
theorem e305 : cFn Tryz.prog hintOf orderHint 305 = some cf305 := by kernel_rfl
theorem k305 : fnChk Tryz.prog (hintOf 305) (orderHint 305) 305 = true := by kernel_rfl
theorem e306 : cFn Tryz.prog hintOf orderHint 306 = some cf306 := by kernel_rfl
theorem k306 : fnChk Tryz.prog (hintOf 306) (orderHint 306) 306 = true := by kernel_rfl
theorem e307 : cFn Tryz.prog hintOf orderHint 307 = some cf307 := by kernel_rfl
theorem k307 : fnChk Tryz.prog (hintOf 307) (orderHint 307) 307 = true := by kernel_rfl
theorem e314 : cFn Tryz.prog hintOf orderHint 314 = some cf314 := by kernel_rfl
theorem k314 : fnChk Tryz.prog (hintOf 314) (orderHint 314) 314 = true := by kernel_rfl
theorem e315 : cFn Tryz.prog hintOf orderHint 315 = some cf315 := by kernel_rfl
theorem k315 : fnChk Tryz.prog (hintOf 315) (orderHint 315) 315 = true := by kernel_rfl
theorem e316 : cFn Tryz.prog hintOf orderHint 316 = some cf316 := by kernel_rfl
theorem k316 : fnChk Tryz.prog (hintOf 316) (orderHint 316) 316 = true := by kernel_rfl
theorem e317 : cFn Tryz.prog hintOf orderHint 317 = some cf317 := by kernel_rfl
theorem k317 : fnChk Tryz.prog (hintOf 317) (orderHint 317) 317 = true := by kernel_rfl
theorem e318 : cFn Tryz.prog hintOf orderHint 318 = some cf318 := by kernel_rfl
theorem k318 : fnChk Tryz.prog (hintOf 318) (orderHint 318) 318 = true := by kernel_rfl
theorem e319 : cFn Tryz.prog hintOf orderHint 319 = some cf319 := by kernel_rfl
theorem k319 : fnChk Tryz.prog (hintOf 319) (orderHint 319) 319 = true := by kernel_rfl
theorem e320 : cFn Tryz.prog hintOf orderHint 320 = some cf320 := by kernel_rfl
theorem k320 : fnChk Tryz.prog (hintOf 320) (orderHint 320) 320 = true := by kernel_rfl
theorem e322 : cFn Tryz.prog hintOf orderHint 322 = some cf322 := by kernel_rfl
theorem k322 : fnChk Tryz.prog (hintOf 322) (orderHint 322) 322 = true := by kernel_rfl
theorem e323 : cFn Tryz.prog hintOf orderHint 323 = some cf323 := by kernel_rfl
theorem k323 : fnChk Tryz.prog (hintOf 323) (orderHint 323) 323 = true := by kernel_rfl
theorem e324 : cFn Tryz.prog hintOf orderHint 324 = some cf324 := by kernel_rfl
theorem k324 : fnChk Tryz.prog (hintOf 324) (orderHint 324) 324 = true := by kernel_rfl
theorem e326 : cFn Tryz.prog hintOf orderHint 326 = some cf326 := by kernel_rfl
theorem k326 : fnChk Tryz.prog (hintOf 326) (orderHint 326) 326 = true := by kernel_rfl
theorem e327 : cFn Tryz.prog hintOf orderHint 327 = some cf327 := by kernel_rfl
theorem k327 : fnChk Tryz.prog (hintOf 327) (orderHint 327) 327 = true := by kernel_rfl
theorem e328 : cFn Tryz.prog hintOf orderHint 328 = some cf328 := by kernel_rfl
theorem k328 : fnChk Tryz.prog (hintOf 328) (orderHint 328) 328 = true := by kernel_rfl
theorem e329 : cFn Tryz.prog hintOf orderHint 329 = some cf329 := by kernel_rfl
theorem k329 : fnChk Tryz.prog (hintOf 329) (orderHint 329) 329 = true := by kernel_rfl
theorem e334 : cFn Tryz.prog hintOf orderHint 334 = some cf334 := by kernel_rfl
theorem k334 : fnChk Tryz.prog (hintOf 334) (orderHint 334) 334 = true := by kernel_rfl
theorem e335 : cFn Tryz.prog hintOf orderHint 335 = some cf335 := by kernel_rfl
theorem k335 : fnChk Tryz.prog (hintOf 335) (orderHint 335) 335 = true := by kernel_rfl
theorem e336 : cFn Tryz.prog hintOf orderHint 336 = some cf336 := by kernel_rfl
theorem k336 : fnChk Tryz.prog (hintOf 336) (orderHint 336) 336 = true := by kernel_rfl
theorem e337 : cFn Tryz.prog hintOf orderHint 337 = some cf337 := by kernel_rfl
theorem k337 : fnChk Tryz.prog (hintOf 337) (orderHint 337) 337 = true := by kernel_rfl
theorem e338 : cFn Tryz.prog hintOf orderHint 338 = some cf338 := by kernel_rfl
theorem k338 : fnChk Tryz.prog (hintOf 338) (orderHint 338) 338 = true := by kernel_rfl
theorem e340 : cFn Tryz.prog hintOf orderHint 340 = some cf340 := by kernel_rfl
theorem k340 : fnChk Tryz.prog (hintOf 340) (orderHint 340) 340 = true := by kernel_rfl
theorem e341 : cFn Tryz.prog hintOf orderHint 341 = some cf341 := by kernel_rfl
theorem k341 : fnChk Tryz.prog (hintOf 341) (orderHint 341) 341 = true := by kernel_rfl
theorem e348 : cFn Tryz.prog hintOf orderHint 348 = some cf348 := by kernel_rfl
theorem k348 : fnChk Tryz.prog (hintOf 348) (orderHint 348) 348 = true := by kernel_rfl
theorem e351 : cFn Tryz.prog hintOf orderHint 351 = some cf351 := by kernel_rfl
theorem k351 : fnChk Tryz.prog (hintOf 351) (orderHint 351) 351 = true := by kernel_rfl
theorem e352 : cFn Tryz.prog hintOf orderHint 352 = some cf352 := by kernel_rfl
theorem k352 : fnChk Tryz.prog (hintOf 352) (orderHint 352) 352 = true := by kernel_rfl
theorem e353 : cFn Tryz.prog hintOf orderHint 353 = some cf353 := by kernel_rfl
theorem k353 : fnChk Tryz.prog (hintOf 353) (orderHint 353) 353 = true := by kernel_rfl
theorem e354 : cFn Tryz.prog hintOf orderHint 354 = some cf354 := by kernel_rfl
theorem k354 : fnChk Tryz.prog (hintOf 354) (orderHint 354) 354 = true := by kernel_rfl
theorem e355 : cFn Tryz.prog hintOf orderHint 355 = some cf355 := by kernel_rfl
theorem k355 : fnChk Tryz.prog (hintOf 355) (orderHint 355) 355 = true := by kernel_rfl
theorem e356 : cFn Tryz.prog hintOf orderHint 356 = some cf356 := by kernel_rfl
theorem k356 : fnChk Tryz.prog (hintOf 356) (orderHint 356) 356 = true := by kernel_rfl
theorem e357 : cFn Tryz.prog hintOf orderHint 357 = some cf357 := by kernel_rfl
theorem k357 : fnChk Tryz.prog (hintOf 357) (orderHint 357) 357 = true := by kernel_rfl
theorem e358 : cFn Tryz.prog hintOf orderHint 358 = some cf358 := by kernel_rfl
theorem k358 : fnChk Tryz.prog (hintOf 358) (orderHint 358) 358 = true := by kernel_rfl
theorem e359 : cFn Tryz.prog hintOf orderHint 359 = some cf359 := by kernel_rfl
theorem k359 : fnChk Tryz.prog (hintOf 359) (orderHint 359) 359 = true := by kernel_rfl
theorem e360 : cFn Tryz.prog hintOf orderHint 360 = some cf360 := by kernel_rfl
theorem k360 : fnChk Tryz.prog (hintOf 360) (orderHint 360) 360 = true := by kernel_rfl
theorem e363 : cFn Tryz.prog hintOf orderHint 363 = some cf363 := by kernel_rfl
theorem k363 : fnChk Tryz.prog (hintOf 363) (orderHint 363) 363 = true := by kernel_rfl
theorem e364 : cFn Tryz.prog hintOf orderHint 364 = some cf364 := by kernel_rfl
theorem k364 : fnChk Tryz.prog (hintOf 364) (orderHint 364) 364 = true := by kernel_rfl
theorem e367 : cFn Tryz.prog hintOf orderHint 367 = some cf367 := by kernel_rfl
theorem k367 : fnChk Tryz.prog (hintOf 367) (orderHint 367) 367 = true := by kernel_rfl
theorem e368 : cFn Tryz.prog hintOf orderHint 368 = some cf368 := by kernel_rfl
theorem k368 : fnChk Tryz.prog (hintOf 368) (orderHint 368) 368 = true := by kernel_rfl
end Go.Ev
