/- CheckEnds, at every number, returns true and leaves the number as it read: the tied card of recastlaw13.CheckEnds. Conditions: none beside the card's own: the two tables of unicode/utf8 that the row lists lie as the program's text lays them. -/
import Derived.Test.YtbdgggffdcgjbaaGreatDoorE31
import Derived.Test.YtbdgggffdcgjbaaGreatDoorE32
import Derived.Test.YtbdgggffdcgjbaaGreatDoorE33
import Derived.Test.YtbdgggffdcgjbaaGreatDoorE35
import Derived.Test.YtbdgggffdcgjbaaGreatDoorE34
import Derived.Test.YtbdgggffdcgjbaaGreatDoorRows
import Derived.JoinedOf
import Derived.KernelRfl
import Derived.Test.YtbdgggffdcgjbaaGreatDoorE23
import Derived.Test.YtbdgggffdcgjbaaGreatDoorE24
import Derived.Test.YtbdgggffdcgjbaaGreatDoorE25
import Derived.ChangeFn
import Derived.Test.YtbdgggffdcgjbaaGreatDoorCards
import Derived.Test.YtbdgggffdcgjbaaGreatDoorTie
import Derived.WalkKit
import Derived.ProofKit
import Derived.Lay
import Derived.LaidOnce
import Derived.LaidLaws
import Derived.SevenTiedAt
import Derived.ChangeSame
import Derived.ChangeVars
import Derived.RowKit
import Derived.OpenShut
set_option linter.all false
set_option linter.unusedVariables false
set_option linter.unusedSectionVars false
set_option linter.unusedSimpArgs false
namespace Go.Proofs.YtbdgggffdcgjbaaGreatDoor
open Go
set_option maxRecDepth 100000
theorem ends_joined : joinedFacts Tryz.prog 3 Tryz.f3 Rows.checkEndsSpec Rows.checkEndsRow = true := by
  unfold joinedFacts
  simp only [fk0, fk1, fk2, fk3, fk4, fk5, fk6, fk7, fk8, fk9, fk10, fk11, fk12, fk13, fk14, fk15, fk16, fk17, fk18, fk19, fk20, fk21, fk22, fk23, fk24, fk25, fk26, fk27, fk29, fk30, fk31, Bool.and_self]
  kernel_rfl
end Go.Proofs.YtbdgggffdcgjbaaGreatDoor
namespace Go.Ev
set_option autoImplicit false
set_option maxRecDepth 100000
open Go Go.Proofs

theorem enters3 : ∀ vs w, (callFunc 3 vs).run Tryz.prog w = .ok (.enter 3 vs) w := enters Tryz.func3 (by kernel_rfl) (by kernel_rfl)
theorem one_nat (n : Nat) (h : n ≤ big) : ArgsRel (fun _ => none) [.nat n] #[.int .i64 (n : Int)] := ⟨rfl, fun i x y hx hy => by
  match i with
  | 0 => cases hx; cases hy; exact .nat n h
  | i + 1 => simp at hx⟩
theorem one_neg (n : Nat) (h : n ≤ big) : ArgsRel (fun _ => none) [.neg n] #[.int .i64 (Int.negSucc n)] := ⟨rfl, fun i x y hx hy => by
  match i with
  | 0 => cases hx; cases hy; exact .neg n h
  | i + 1 => simp at hx⟩
theorem cases_all : ∀ k, k < 21 → isTT (runF 400 3 [.nat k] h0) = true
  | 0, _ => case0
  | 1, _ => case1
  | 2, _ => case2
  | 3, _ => case3
  | 4, _ => case4
  | 5, _ => case5
  | 6, _ => case6
  | 7, _ => case7
  | 8, _ => case8
  | 9, _ => case9
  | 10, _ => case10
  | 11, _ => case11
  | 12, _ => case12
  | 13, _ => case13
  | 14, _ => case14
  | 15, _ => case15
  | 16, _ => case16
  | 17, _ => case17
  | 18, _ => case18
  | 19, _ => case19
  | 20, _ => case20
  | n + 21, h => absurd h (by omega)
/-- CheckEnds SAYS TRUE, WHATEVER IS ASKED; nothing of what was is turned -/
theorem ends_calls (k : Int) (hl : -9223372036854775808 ≤ k) (hh : k ≤ 9223372036854775807) (w : World) : Calls Tryz.prog 3 #[.int .i64 k] w fun e w' => e = .returned (.bool true) ∧ ∃ q os', w' = Go.Sort.grow (w.drewN q) os' := by
  cases k with
  | ofNat n =>
    have hn : n ≤ big := by unfold big; have : ((n : Nat) : Int) ≤ 9223372036854775807 := hh; omega
    rcases Nat.lt_or_ge n 21 with h | h
    · exact true_of primF_ok (cases_all n h) (by decide) enters3 (one_nat n hn) w
    · obtain ⟨m, rfl⟩ : ∃ m, n = m + 21 := ⟨n - 21, by omega⟩
      exact true_of primF_ok (case_big m) (by decide) enters3 (one_nat _ hn) w
  | negSucc n =>
    have hn : n ≤ big := by unfold big; omega
    exact true_of primF_ok (case_neg n) (by decide) enters3 (one_neg n hn) w
theorem keptBut_grow (may : MemPlace → Prop) : ∀ (os : List Go.Obj) (w : World), w.keptBut (Go.Sort.grow w os.toArray) may
  | [], w => by
    rw [show (#[] : Array Go.Obj) = [].toArray from rfl, Go.Sort.grow_empty]
    exact World.keptBut_refl _ _
  | o :: os, w => by
    have h : Go.Sort.grow w (o :: os).toArray = Go.Sort.grow (w.alloc o) os.toArray := by
      rw [Go.Sort.alloc_eq_grow, Go.Sort.grow_grow]
      congr 1
      simp
    rw [h]
    exact World.keptBut_trans (World.keptBut_alloc w o may) (keptBut_grow may os _)
theorem keptBut_grown (may : MemPlace → Prop) (w : World) (q : Nat) (os : Array Go.Obj) : w.keptBut (Go.Sort.grow (w.drewN q) os) may := by
  have := keptBut_grow may os.toList (w.drewN q)
  rw [Array.toArray_toList] at this
  exact this
end Go.Ev
namespace Go.Proofs.YtbdgggffdcgjbaaGreatDoor
open Go Go.ChangeShapes Go.WideShapes Go.ChangeAt Go.RowKit
set_option maxRecDepth 100000
theorem own : ownKnob Tryz.prog.godebug = none := by kernel_rfl
theorem ends_lifted (os : Os) (started : os.Started) (H : Type) (enc : TypeId × Value → H) :
    ReturnsInHanded {} Tryz.checked os 3 .any (fun w args => (Rows.checkEndsSpec.pre enc Tryz.prog Tryz.f3 [] false w args ∧ laidMetH Tryz.prog Rows.checkEndsRow.laid w) ∧ sizedMet enc Tryz.prog Tryz.f3 (OpenSpec.ofChange Rows.checkEndsSpec) false w args)
      (Rows.checkEndsSpec.post enc Tryz.prog Tryz.f3 false true false false) := by
  refine returnsInHanded_of_change_and (C := Tryz.checked) (X := fun w _ => laidMetH Tryz.prog Rows.checkEndsRow.laid w) (fun _ _ _ hh h => h.of_heap hh) own started (by kernel_rfl) Tryz.func3
    (ChangeSpec.witness_shaped (enc := enc) (C := Tryz.checked) (os := os) (X := fun w _ => laidMetH Tryz.prog Rows.checkEndsRow.laid w) false (World.laidAll Tryz.prog os Rows.checkEndsRow.laid) #[.int .i64 0] 8 (World.laidAll_os _ _ _)
      (World.shaped_of_ZipB (by kernel_rfl) (by kernel_rfl)) (by kernel_rfl) (by kernel_rfl) (by kernel_rfl)
      (by rw [MakeChecks.laidMetH_plain _ _ _ (by kernel_rfl)]; exact laidMet_laidAll _ (by kernel_rfl) (by kernel_rfl))) ?_
  intro W base args ds gs before hval0 hW _ _ hL _
  have hval : ∀ (j : Nat) t v, Tryz.f3.params[j]? = some t → args[j]? = some v → Value.okWide Tryz.prog W .any base t v := hval0
  have hW' := hW
  obtain ⟨p, q, hA0, hV, rfl, _, _⟩ := hW
  have hA : DataW.TrodAll enc Tryz.prog W 0 (fun _ => true) true Tryz.f3.params.toList args.toList ds p := hA0
  rw [Tryz.params3] at hA hval
  obtain ⟨v0, d0, rfl, rfl, h0⟩ := trodAll_one hA
  obtain ⟨rfl, rfl⟩ := trodVars_none hV
  obtain ⟨x, rfl, rfl, rfl, wx⟩ := open_int Tryz.underlying3 (hval 0 3 v0 rfl rfl) h0
  simp only [List.append_nil] at hW'
  have hx : -9223372036854775808 ≤ x ∧ x ≤ 9223372036854775807 := by simpa [Lit.wf, IntKind.min, IntKind.max, IntKind.signed, IntKind.bits] using wx
  refine (Go.Ev.ends_calls x hx.1 hx.2 W).mono fun e W' ⟨he, q, os', hw⟩ => ?_
  subst he; subst hw
  exact ⟨_, rfl, _, _, _, [], [], [], hW', trodAll_mk1 (shut_bool Tryz.underlying4 _), trodAll_mk1 (shut_int Tryz.underlying3 wx), rfl, Go.Ev.keptBut_grown _ _ _ _, fun h => by cases h⟩
theorem ends_holds : Rows.CheckEndsSaid :=
  OpenClaim.holds_of_wide 3 Tryz.f3 rfl rfl rfl rfl rfl rfl rfl ⟨rfl, rfl, rfl, rfl, rfl⟩ rfl rfl rfl rfl rfl (by kernel_rfl) Tryz.func3 ends_joined
    (of_decide_eq_true (by kernel_rfl)) (by unfold Func.isWrapper; first | (rw [if_pos (by decide +kernel)]; kernel_rfl) | (rw [if_neg (by decide +kernel)]; exact ⟨rfl, rfl⟩))
    (fun os started H enc _ => ends_lifted os started H enc)
theorem ends_card : Rows.CheckEndsCardSaid :=
  Claim7.holds_tied_plain_at .later [] [.data, .pinned] true (true, "99cd899e18413b3b5de099a5fa62900d026b251e6cb904ad476392d946e0c5ae") true
    ends_holds (fun _ h => by cases h) (by kernel_rfl) (fun _ h => by cases h) checkEnds_row_tie rfl ⟨rfl, rfl⟩ (by kernel_rfl) rfl
    (fun f fn hf hfn => by
      obtain rfl : f = 3 := Option.some.inj ((show Tryz.prog.funcNamed "recast/recastlaw13.CheckEnds" = some 3 by kernel_rfl).symm.trans hf) |>.symm
      obtain rfl : fn = Tryz.f3 := (Option.some.inj (Tryz.func3.symm.trans hfn)).symm
      exact ⟨by kernel_rfl, fun j t ht => by
        rw [Tryz.params3] at ht
        have hm : t ∈ [3] := by simpa using Array.mem_of_getElem? ht
        have hall : ([3].all fun u => !Tryz.prog.wantsStandIn u) = true := by kernel_rfl
        exact (show Tryz.prog.wantsStandIn t = false by simpa using List.all_eq_true.1 hall t hm)⟩)
    goes_false
#print axioms ends_card
end Go.Proofs.YtbdgggffdcgjbaaGreatDoor
