/- A part of the proof that CheckEnds returns true at every number: Ce5. Conditions: none. -/
import Derived.Test.YtbdgggffdcgjbaaGreatDoorE14
import Derived.Test.YtbdgggffdcgjbaaGreatDoorE09
import Derived.Test.YtbdgggffdcgjbaaGreatDoorE15
import Derived.Test.YtbdgggffdcgjbaaGreatDoorProg
import Derived.KernelRfl
set_option linter.all false
set_option linter.unusedVariables false
set_option linter.unusedSectionVars false
set_option linter.unusedSimpArgs false
namespace Go.Ev
set_option maxRecDepth 100000
open Go.Proofs
theorem e459 : cFn Tryz.prog hintOf orderHint 459 = some cf459 := by kernel_rfl
theorem k459 : fnChk Tryz.prog (hintOf 459) (orderHint 459) 459 = true := by kernel_rfl
theorem e460 : cFn Tryz.prog hintOf orderHint 460 = some cf460 := by kernel_rfl
theorem k460 : fnChk Tryz.prog (hintOf 460) (orderHint 460) 460 = true := by kernel_rfl
theorem e461 : cFn Tryz.prog hintOf orderHint 461 = some cf461 := by kernel_rfl
theorem k461 : fnChk Tryz.prog (hintOf 461) (orderHint 461) 461 = true := by kernel_rfl
theorem e464 : cFn Tryz.prog hintOf orderHint 464 = some cf464 := by kernel_rfl
theorem k464 : fnChk Tryz.prog (hintOf 464) (orderHint 464) 464 = true := by kernel_rfl
theorem e465 : cFn Tryz.prog hintOf orderHint 465 = some cf465 := by kernel_rfl
theorem k465 : fnChk Tryz.prog (hintOf 465) (orderHint 465) 465 = true := by kernel_rfl
theorem e466 : cFn Tryz.prog hintOf orderHint 466 = some cf466 := by kernel_rfl
theorem k466 : fnChk Tryz.prog (hintOf 466) (orderHint 466) 466 = true := by kernel_rfl
theorem e470 : cFn Tryz.prog hintOf orderHint 470 = some cf470 := by kernel_rfl
theorem k470 : fnChk Tryz.prog (hintOf 470) (orderHint 470) 470 = true := by kernel_rfl
theorem e471 : cFn Tryz.prog hintOf orderHint 471 = some cf471 := by kernel_rfl
theorem k471 : fnChk Tryz.prog (hintOf 471) (orderHint 471) 471 = true := by kernel_rfl
theorem e472 : cFn Tryz.prog hintOf orderHint 472 = some cf472 := by kernel_rfl
theorem k472 : fnChk Tryz.prog (hintOf 472) (orderHint 472) 472 = true := by kernel_rfl
theorem e473 : cFn Tryz.prog hintOf orderHint 473 = some cf473 := by kernel_rfl
theorem k473 : fnChk Tryz.prog (hintOf 473) (orderHint 473) 473 = true := by kernel_rfl
theorem e474 : cFn Tryz.prog hintOf orderHint 474 = some cf474 := by kernel_rfl
theorem k474 : fnChk Tryz.prog (hintOf 474) (orderHint 474) 474 = true := by kernel_rfl
theorem e475 : cFn Tryz.prog hintOf orderHint 475 = some cf475 := by kernel_rfl
theorem k475 : fnChk Tryz.prog (hintOf 475) (orderHint 475) 475 = true := by kernel_rfl
theorem e476 : cFn Tryz.prog hintOf orderHint 476 = some cf476 := by kernel_rfl
theorem k476 : fnChk Tryz.prog (hintOf 476) (orderHint 476) 476 = true := by kernel_rfl
theorem e477 : cFn Tryz.prog hintOf orderHint 477 = some cf477 := by kernel_rfl
theorem k477 : fnChk Tryz.prog (hintOf 477) (orderHint 477) 477 = true := by kernel_rfl
theorem e479 : cFn Tryz.prog hintOf orderHint 479 = some cf479 := by kernel_rfl
theorem k479 : fnChk Tryz.prog (hintOf 479) (orderHint 479) 479 = true := by kernel_rfl
theorem e480 : cFn Tryz.prog hintOf orderHint 480 = some cf480 := by kernel_rfl
theorem k480 : fnChk Tryz.prog (hintOf 480) (orderHint 480) 480 = true := by kernel_rfl
theorem e483 : cFn Tryz.prog hintOf orderHint 483 = some cf483 := by kernel_rfl
theorem k483 : fnChk Tryz.prog (hintOf 483) (orderHint 483) 483 = true := by kernel_rfl
theorem e484 : cFn Tryz.prog hintOf orderHint 484 = some cf484 := by kernel_rfl
theorem k484 : fnChk Tryz.prog (hintOf 484) (orderHint 484) 484 = true := by kernel_rfl
theorem e485 : cFn Tryz.prog hintOf orderHint 485 = some cf485 := by kernel_rfl
theorem k485 : fnChk Tryz.prog (hintOf 485) (orderHint 485) 485 = true := by kernel_rfl
theorem e487 : cFn Tryz.prog hintOf orderHint 487 = some cf487 := by kernel_rfl
theorem k487 : fnChk Tryz.prog (hintOf 487) (orderHint 487) 487 = true := by kernel_rfl
theorem e489 : cFn Tryz.prog hintOf orderHint 489 = some cf489 := by kernel_rfl
theorem k489 : fnChk Tryz.prog (hintOf 489) (orderHint 489) 489 = true := by kernel_rfl
theorem e490 : cFn Tryz.prog hintOf orderHint 490 = some cf490 := by kernel_rfl
theorem k490 : fnChk Tryz.prog (hintOf 490) (orderHint 490) 490 = true := by kernel_rfl
theorem e491 : cFn Tryz.prog hintOf orderHint 491 = some cf491 := by kernel_rfl
theorem k491 : fnChk Tryz.prog (hintOf 491) (orderHint 491) 491 = true := by kernel_rfl
theorem e492 : cFn Tryz.prog hintOf orderHint 492 = some cf492 := by kernel_rfl
theorem k492 : fnChk Tryz.prog (hintOf 492) (orderHint 492) 492 = true := by kernel_rfl
theorem e495 : cFn Tryz.prog hintOf orderHint 495 = some cf495 := by kernel_rfl
theorem k495 : fnChk Tryz.prog (hintOf 495) (orderHint 495) 495 = true := by kernel_rfl
theorem e496 : cFn Tryz.prog hintOf orderHint 496 = some cf496 := by kernel_rfl
theorem k496 : fnChk Tryz.prog (hintOf 496) (orderHint 496) 496 = true := by kernel_rfl
theorem e497 : cFn Tryz.prog hintOf orderHint 497 = some cf497 := by kernel_rfl
theorem k497 : fnChk Tryz.prog (hintOf 497) (orderHint 497) 497 = true := by kernel_rfl
theorem e498 : cFn Tryz.prog hintOf orderHint 498 = some cf498 := by kernel_rfl
theorem k498 : fnChk Tryz.prog (hintOf 498) (orderHint 498) 498 = true := by kernel_rfl
theorem e502 : cFn Tryz.prog hintOf orderHint 502 = some cf502 := by kernel_rfl
theorem k502 : fnChk Tryz.prog (hintOf 502) (orderHint 502) 502 = true := by kernel_rfl
theorem e503 : cFn Tryz.prog hintOf orderHint 503 = some cf503 := by kernel_rfl
theorem k503 : fnChk Tryz.prog (hintOf 503) (orderHint 503) 503 = true := by kernel_rfl
theorem e504 : cFn Tryz.prog hintOf orderHint 504 = some cf504 := by kernel_rfl
theorem k504 : fnChk Tryz.prog (hintOf 504) (orderHint 504) 504 = true := by kernel_rfl
theorem e505 : cFn Tryz.prog hintOf orderHint 505 = some cf505 := by kernel_rfl
theorem k505 : fnChk Tryz.prog (hintOf 505) (orderHint 505) 505 = true := by kernel_rfl
theorem e509 : cFn Tryz.prog hintOf orderHint 509 = some cf509 := by kernel_rfl
theorem k509 : fnChk Tryz.prog (hintOf 509) (orderHint 509) 509 = true := by kernel_rfl
theorem e510 : cFn Tryz.prog hintOf orderHint 510 = some cf510 := by kernel_rfl
theorem k510 : fnChk Tryz.prog (hintOf 510) (orderHint 510) 510 = true := by kernel_rfl
theorem e511 : cFn Tryz.prog hintOf orderHint 511 = some cf511 := by kernel_rfl
theorem k511 : fnChk Tryz.prog (hintOf 511) (orderHint 511) 511 = true := by kernel_rfl
theorem e512 : cFn Tryz.prog hintOf orderHint 512 = some cf512 := by kernel_rfl
theorem k512 : fnChk Tryz.prog (hintOf 512) (orderHint 512) 512 = true := by kernel_rfl
theorem e513 : cFn Tryz.prog hintOf orderHint 513 = some cf513 := by kernel_rfl
theorem k513 : fnChk Tryz.prog (hintOf 513) (orderHint 513) 513 = true := by kernel_rfl
theorem e515 : cFn Tryz.prog hintOf orderHint 515 = some cf515 := by kernel_rfl
theorem k515 : fnChk Tryz.prog (hintOf 515) (orderHint 515) 515 = true := by kernel_rfl
theorem e516 : cFn Tryz.prog hintOf orderHint 516 = some cf516 := by kernel_rfl
theorem k516 : fnChk Tryz.prog (hintOf 516) (orderHint 516) 516 = true := by kernel_rfl
theorem e520 : cFn Tryz.prog hintOf orderHint 520 = some cf520 := by kernel_rfl
theorem k520 : fnChk Tryz.prog (hintOf 520) (orderHint 520) 520 = true := by kernel_rfl
theorem e523 : cFn Tryz.prog hintOf orderHint 523 = some cf523 := by kernel_rfl
theorem k523 : fnChk Tryz.prog (hintOf 523) (orderHint 523) 523 = true := by kernel_rfl
theorem e524 : cFn Tryz.prog hintOf orderHint 524 = some cf524 := by kernel_rfl
theorem k524 : fnChk Tryz.prog (hintOf 524) (orderHint 524) 524 = true := by kernel_rfl
theorem e525 : cFn Tryz.prog hintOf orderHint 525 = some cf525 := by kernel_rfl
theorem k525 : fnChk Tryz.prog (hintOf 525) (orderHint 525) 525 = true := by kernel_rfl
theorem e526 : cFn Tryz.prog hintOf orderHint 526 = some cf526 := by kernel_rfl
theorem k526 : fnChk Tryz.prog (hintOf 526) (orderHint 526) 526 = true := by kernel_rfl
theorem e529 : cFn Tryz.prog hintOf orderHint 529 = some cf529 := by kernel_rfl
theorem k529 : fnChk Tryz.prog (hintOf 529) (orderHint 529) 529 = true := by kernel_rfl
theorem e540 : cFn Tryz.prog hintOf orderHint 540 = some cf540 := by kernel_rfl
theorem k540 : fnChk Tryz.prog (hintOf 540) (orderHint 540) 540 = true := by kernel_rfl
theorem e542 : cFn Tryz.prog hintOf orderHint 542 = some cf542 := by kernel_rfl
theorem k542 : fnChk Tryz.prog (hintOf 542) (orderHint 542) 542 = true := by kernel_rfl
theorem e543 : cFn Tryz.prog hintOf orderHint 543 = some cf543 := by kernel_rfl
theorem k543 : fnChk Tryz.prog (hintOf 543) (orderHint 543) 543 = true := by kernel_rfl
theorem e544 : cFn Tryz.prog hintOf orderHint 544 = some cf544 := by kernel_rfl
theorem k544 : fnChk Tryz.prog (hintOf 544) (orderHint 544) 544 = true := by kernel_rfl
theorem e545 : cFn Tryz.prog hintOf orderHint 545 = some cf545 := by kernel_rfl
theorem k545 : fnChk Tryz.prog (hintOf 545) (orderHint 545) 545 = true := by kernel_rfl
theorem e547 : cFn Tryz.prog hintOf orderHint 547 = some cf547 := by kernel_rfl
theorem k547 : fnChk Tryz.prog (hintOf 547) (orderHint 547) 547 = true := by kernel_rfl
theorem e549 : cFn Tryz.prog hintOf orderHint 549 = some cf549 := by kernel_rfl
theorem k549 : fnChk Tryz.prog (hintOf 549) (orderHint 549) 549 = true := by kernel_rfl
theorem e550 : cFn Tryz.prog hintOf orderHint 550 = some cf550 := by kernel_rfl
theorem k550 : fnChk Tryz.prog (hintOf 550) (orderHint 550) 550 = true := by kernel_rfl
theorem e551 : cFn Tryz.prog hintOf orderHint 551 = some cf551 := by kernel_rfl
theorem k551 : fnChk Tryz.prog (hintOf 551) (orderHint 551) 551 = true := by kernel_rfl
theorem e554 : cFn Tryz.prog hintOf orderHint 554 = some cf554 := by kernel_rfl
theorem k554 : fnChk Tryz.prog (hintOf 554) (orderHint 554) 554 = true := by kernel_rfl
theorem e556 : cFn Tryz.prog hintOf orderHint 556 = some cf556 := by kernel_rfl
theorem k556 : fnChk Tryz.prog (hintOf 556) (orderHint 556) 556 = true := by kernel_rfl
theorem e557 : cFn Tryz.prog hintOf orderHint 557 = some cf557 := by kernel_rfl
theorem k557 : fnChk Tryz.prog (hintOf 557) (orderHint 557) 557 = true := by kernel_rfl
theorem e560 : cFn Tryz.prog hintOf orderHint 560 = some cf560 := by kernel_rfl
theorem k560 : fnChk Tryz.prog (hintOf 560) (orderHint 560) 560 = true := by kernel_rfl
theorem e561 : cFn Tryz.prog hintOf orderHint 561 = some cf561 := by kernel_rfl
theorem k561 : fnChk Tryz.prog (hintOf 561) (orderHint 561) 561 = true := by kernel_rfl
theorem e562 : cFn Tryz.prog hintOf orderHint 562 = some cf562 := by kernel_rfl
theorem k562 : fnChk Tryz.prog (hintOf 562) (orderHint 562) 562 = true := by kernel_rfl
theorem e570 : cFn Tryz.prog hintOf orderHint 570 = some cf570 := by kernel_rfl
theorem k570 : fnChk Tryz.prog (hintOf 570) (orderHint 570) 570 = true := by kernel_rfl
theorem e571 : cFn Tryz.prog hintOf orderHint 571 = some cf571 := by kernel_rfl
theorem k571 : fnChk Tryz.prog (hintOf 571) (orderHint 571) 571 = true := by kernel_rfl
theorem e574 : cFn Tryz.prog hintOf orderHint 574 = some cf574 := by kernel_rfl
theorem k574 : fnChk Tryz.prog (hintOf 574) (orderHint 574) 574 = true := by kernel_rfl
theorem e575 : cFn Tryz.prog hintOf orderHint 575 = some cf575 := by kernel_rfl
theorem k575 : fnChk Tryz.prog (hintOf 575) (orderHint 575) 575 = true := by kernel_rfl
theorem e605 : cFn Tryz.prog hintOf orderHint 605 = some cf605 := by kernel_rfl
theorem k605 : fnChk Tryz.prog (hintOf 605) (orderHint 605) 605 = true := by kernel_rfl
theorem e607 : cFn Tryz.prog hintOf orderHint 607 = some cf607 := by kernel_rfl
theorem k607 : fnChk Tryz.prog (hintOf 607) (orderHint 607) 607 = true := by kernel_rfl
theorem d34 : cFnD Tryz.prog hintOf orderHint 34 = some df34 := by kernel_rfl
theorem k34 : fnChk Tryz.prog (hintOf 34) (orderHint 34) 34 = true := by kernel_rfl
theorem d124 : cFnD Tryz.prog hintOf orderHint 124 = some df124 := by kernel_rfl
theorem k124 : fnChk Tryz.prog (hintOf 124) (orderHint 124) 124 = true := by kernel_rfl
theorem d148 : cFnD Tryz.prog hintOf orderHint 148 = some df148 := by kernel_rfl
theorem k148 : fnChk Tryz.prog (hintOf 148) (orderHint 148) 148 = true := by kernel_rfl
theorem d274 : cFnD Tryz.prog hintOf orderHint 274 = some df274 := by kernel_rfl
theorem k274 : fnChk Tryz.prog (hintOf 274) (orderHint 274) 274 = true := by kernel_rfl
theorem r125 : cRnd Tryz.prog hintOf 125 = some rf125 := by kernel_rfl
theorem r294 : cRnd Tryz.prog hintOf 294 = some rf294 := by kernel_rfl
theorem r328 : cRnd Tryz.prog hintOf 328 = some rf328 := by kernel_rfl
end Go.Ev
