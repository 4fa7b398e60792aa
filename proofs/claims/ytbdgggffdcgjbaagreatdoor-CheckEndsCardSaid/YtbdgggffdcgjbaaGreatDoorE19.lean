/- A part of the proof that CheckEnds returns true at every number: Ce4. Conditions: none. -/
import Derived.Test.YtbdgggffdcgjbaaGreatDoorE14
import Derived.Test.YtbdgggffdcgjbaaGreatDoorE09
import Derived.Test.YtbdgggffdcgjbaaGreatDoorE15
import Derived.Test.YtbdgggffdcgjbaaGreatDoorProg
import Derived.KernelRfl
set_option linter.all false
set_option linter.unusedVariables false
set_option linter.unusedSectionVars false
set_option linter.unusedSimpArgs false
namespace Go.Ev
set_option maxRecDepth 100000
open Go.Proofs
theorem e369 : cFn Tryz.prog hintOf orderHint 369 = some cf369 := by kernel_rfl
theorem k369 : fnChk Tryz.prog (hintOf 369) (orderHint 369) 369 = true := by kernel_rfl
theorem e370 : cFn Tryz.prog hintOf orderHint 370 = some cf370 := by kernel_rfl
theorem k370 : fnChk Tryz.prog (hintOf 370) (orderHint 370) 370 = true := by kernel_rfl
theorem e371 : cFn Tryz.prog hintOf orderHint 371 = some cf371 := by kernel_rfl
theorem k371 : fnChk Tryz.prog (hintOf 371) (orderHint 371) 371 = true := by kernel_rfl
theorem e379 : cFn Tryz.prog hintOf orderHint 379 = some cf379 := by kernel_rfl
theorem k379 : fnChk Tryz.prog (hintOf 379) (orderHint 379) 379 = true := by kernel_rfl
theorem e382 : cFn Tryz.prog hintOf orderHint 382 = some cf382 := by kernel_rfl
theorem k382 : fnChk Tryz.prog (hintOf 382) (orderHint 382) 382 = true := by kernel_rfl
theorem e384 : cFn Tryz.prog hintOf orderHint 384 = some cf384 := by kernel_rfl
theorem k384 : fnChk Tryz.prog (hintOf 384) (orderHint 384) 384 = true := by kernel_rfl
theorem e386 : cFn Tryz.prog hintOf orderHint 386 = some cf386 := by kernel_rfl
theorem k386 : fnChk Tryz.prog (hintOf 386) (orderHint 386) 386 = true := by kernel_rfl
theorem e389 : cFn Tryz.prog hintOf orderHint 389 = some cf389 := by kernel_rfl
theorem k389 : fnChk Tryz.prog (hintOf 389) (orderHint 389) 389 = true := by kernel_rfl
theorem e390 : cFn Tryz.prog hintOf orderHint 390 = some cf390 := by kernel_rfl
theorem k390 : fnChk Tryz.prog (hintOf 390) (orderHint 390) 390 = true := by kernel_rfl
theorem e391 : cFn Tryz.prog hintOf orderHint 391 = some cf391 := by kernel_rfl
theorem k391 : fnChk Tryz.prog (hintOf 391) (orderHint 391) 391 = true := by kernel_rfl
theorem e392 : cFn Tryz.prog hintOf orderHint 392 = some cf392 := by kernel_rfl
theorem k392 : fnChk Tryz.prog (hintOf 392) (orderHint 392) 392 = true := by kernel_rfl
theorem e393 : cFn Tryz.prog hintOf orderHint 393 = some cf393 := by kernel_rfl
theorem k393 : fnChk Tryz.prog (hintOf 393) (orderHint 393) 393 = true := by kernel_rfl
theorem e398 : cFn Tryz.prog hintOf orderHint 398 = some cf398 := by kernel_rfl
theorem k398 : fnChk Tryz.prog (hintOf 398) (orderHint 398) 398 = true := by kernel_rfl
theorem e400 : cFn Tryz.prog hintOf orderHint 400 = some cf400 := by kernel_rfl
theorem k400 : fnChk Tryz.prog (hintOf 400) (orderHint 400) 400 = true := by kernel_rfl
theorem e401 : cFn Tryz.prog hintOf orderHint 401 = some cf401 := by kernel_rfl
theorem k401 : fnChk Tryz.prog (hintOf 401) (orderHint 401) 401 = true := by kernel_rfl
theorem e402 : cFn Tryz.prog hintOf orderHint 402 = some cf402 := by kernel_rfl
theorem k402 : fnChk Tryz.prog (hintOf 402) (orderHint 402) 402 = true := by kernel_rfl
theorem e403 : cFn Tryz.prog hintOf orderHint 403 = some cf403 := by kernel_rfl
theorem k403 : fnChk Tryz.prog (hintOf 403) (orderHint 403) 403 = true := by kernel_rfl
theorem e404 : cFn Tryz.prog hintOf orderHint 404 = some cf404 := by kernel_rfl
theorem k404 : fnChk Tryz.prog (hintOf 404) (orderHint 404) 404 = true := by kernel_rfl
theorem e405 : cFn Tryz.prog hintOf orderHint 405 = some cf405 := by kernel_rfl
theorem k405 : fnChk Tryz.prog (hintOf 405) (orderHint 405) 405 = true := by kernel_rfl
theorem e406 : cFn Tryz.prog hintOf orderHint 406 = some cf406 := by kernel_rfl
theorem k406 : fnChk Tryz.prog (hintOf 406) (orderHint 406) 406 = true := by kernel_rfl
theorem e407 : cFn Tryz.prog hintOf orderHint 407 = some cf407 := by kernel_rfl
theorem k407 : fnChk Tryz.prog (hintOf 407) (orderHint 407) 407 = true := by kernel_rfl
theorem e408 : cFn Tryz.prog hintOf orderHint 408 = some cf408 := by kernel_rfl
theorem k408 : fnChk Tryz.prog (hintOf 408) (orderHint 408) 408 = true := by kernel_rfl
theorem e409 : cFn Tryz.prog hintOf orderHint 409 = some cf409 := by kernel_rfl
theorem k409 : fnChk Tryz.prog (hintOf 409) (orderHint 409) 409 = true := by kernel_rfl
theorem e413 : cFn Tryz.prog hintOf orderHint 413 = some cf413 := by kernel_rfl
theorem k413 : fnChk Tryz.prog (hintOf 413) (orderHint 413) 413 = true := by kernel_rfl
theorem e414 : cFn Tryz.prog hintOf orderHint 414 = some cf414 := by kernel_rfl
theorem k414 : fnChk Tryz.prog (hintOf 414) (orderHint 414) 414 = true := by kernel_rfl
theorem e417 : cFn Tryz.prog hintOf orderHint 417 = some cf417 := by kernel_rfl
theorem k417 : fnChk Tryz.prog (hintOf 417) (orderHint 417) 417 = true := by kernel_rfl
theorem e420 : cFn Tryz.prog hintOf orderHint 420 = some cf420 := by kernel_rfl
theorem k420 : fnChk Tryz.prog (hintOf 420) (orderHint 420) 420 = true := by kernel_rfl
theorem e424 : cFn Tryz.prog hintOf orderHint 424 = some cf424 := by kernel_rfl
theorem k424 : fnChk Tryz.prog (hintOf 424) (orderHint 424) 424 = true := by kernel_rfl
theorem e425 : cFn Tryz.prog hintOf orderHint 425 = some cf425 := by kernel_rfl
theorem k425 : fnChk Tryz.prog (hintOf 425) (orderHint 425) 425 = true := by kernel_rfl
theorem e426 : cFn Tryz.prog hintOf orderHint 426 = some cf426 := by kernel_rfl
theorem k426 : fnChk Tryz.prog (hintOf 426) (orderHint 426) 426 = true := by kernel_rfl
theorem e427 : cFn Tryz.prog hintOf orderHint 427 = some cf427 := by kernel_rfl
theorem k427 : fnChk Tryz.prog (hintOf 427) (orderHint 427) 427 = true := by kernel_rfl
theorem e428 : cFn Tryz.prog hintOf orderHint 428 = some cf428 := by kernel_rfl
theorem k428 : fnChk Tryz.prog (hintOf 428) (orderHint 428) 428 = true := by kernel_rfl
theorem e429 : cFn Tryz.prog hintOf orderHint 429 = some cf429 := by kernel_rfl
theorem k429 : fnChk Tryz.prog (hintOf 429) (orderHint 429) 429 = true := by kernel_rfl
theorem e430 : cFn Tryz.prog hintOf orderHint 430 = some cf430 := by kernel_rfl
theorem k430 : fnChk Tryz.prog (hintOf 430) (orderHint 430) 430 = true := by kernel_rfl
theorem e431 : cFn Tryz.prog hintOf orderHint 431 = some cf431 := by kernel_rfl
theorem k431 : fnChk Tryz.prog (hintOf 431) (orderHint 431) 431 = true := by kernel_rfl
theorem e432 : cFn Tryz.prog hintOf orderHint 432 = some cf432 := by kernel_rfl
theorem k432 : fnChk Tryz.prog (hintOf 432) (orderHint 432) 432 = true := by kernel_rfl
theorem e434 : cFn Tryz.prog hintOf orderHint 434 = some cf434 := by kernel_rfl
theorem k434 : fnChk Tryz.prog (hintOf 434) (orderHint 434) 434 = true := by kernel_rfl
theorem e438 : cFn Tryz.prog hintOf orderHint 438 = some cf438 := by kernel_rfl
theorem k438 : fnChk Tryz.prog (hintOf 438) (orderHint 438) 438 = true := by kernel_rfl
theorem e439 : cFn Tryz.prog hintOf orderHint 439 = some cf439 := by kernel_rfl
theorem k439 : fnChk Tryz.prog (hintOf 439) (orderHint 439) 439 = true := by kernel_rfl
theorem e445 : cFn Tryz.prog hintOf orderHint 445 = some cf445 := by kernel_rfl
theorem k445 : fnChk Tryz.prog (hintOf 445) (orderHint 445) 445 = true := by kernel_rfl
theorem e446 : cFn Tryz.prog hintOf orderHint 446 = some cf446 := by kernel_rfl
theorem k446 : fnChk Tryz.prog (hintOf 446) (orderHint 446) 446 = true := by kernel_rfl
theorem e447 : cFn Tryz.prog hintOf orderHint 447 = some cf447 := by kernel_rfl
theorem k447 : fnChk Tryz.prog (hintOf 447) (orderHint 447) 447 = true := by kernel_rfl
theorem e448 : cFn Tryz.prog hintOf orderHint 448 = some cf448 := by kernel_rfl
theorem k448 : fnChk Tryz.prog (hintOf 448) (orderHint 448) 448 = true := by kernel_rfl
theorem e449 : cFn Tryz.prog hintOf orderHint 449 = some cf449 := by kernel_rfl
theorem k449 : fnChk Tryz.prog (hintOf 449) (orderHint 449) 449 = true := by kernel_rfl
theorem e450 : cFn Tryz.prog hintOf orderHint 450 = some cf450 := by kernel_rfl
theorem k450 : fnChk Tryz.prog (hintOf 450) (orderHint 450) 450 = true := by kernel_rfl
theorem e451 : cFn Tryz.prog hintOf orderHint 451 = some cf451 := by kernel_rfl
theorem k451 : fnChk Tryz.prog (hintOf 451) (orderHint 451) 451 = true := by kernel_rfl
end Go.Ev
