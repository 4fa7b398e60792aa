/- A part of the proof that CheckEnds returns true at every number: EvAw. Conditions: none. -/
import Derived.Test.YtbdgggffdcgjbaaGreatDoorE21
import Derived.Test.YtbdgggffdcgjbaaGreatDoorE10
import Derived.Test.YtbdgggffdcgjbaaGreatDoorE12
set_option linter.all false
set_option linter.unusedVariables false
set_option linter.unusedSectionVars false
set_option linter.unusedSimpArgs false
namespace Go.Ev
set_option autoImplicit false
set_option maxRecDepth 100000
open Go Go.Proofs

/-! the functions that are known by their answers -/
theorem cmp49 : PrimOk Tryz.prog 49 pCmp := cmp_prim Tryz.func49 (by kernel_rfl) (by kernel_rfl) (by kernel_rfl) (by kernel_rfl)
theorem idx190 : PrimOk Tryz.prog 190 pIdxB := idx_prim Tryz.func190 (by kernel_rfl) (by kernel_rfl) (by kernel_rfl) (by kernel_rfl)
theorem enters {f : FuncId} {fn : Func} (hf : Tryz.prog.funcs[f]? = some fn) (hs : fn.body.isSome = true) (hn : (fn.name != "runtime.NumGoroutine") = true) : ∀ vs w, (callFunc f vs).run Tryz.prog w = .ok (.enter f vs) w := by
  obtain ⟨c, hc⟩ := Option.isSome_iff_exists.1 hs
  exact fun vs w => callFunc_run hf hc hn vs
theorem sort104 : PrimOk Tryz.prog 104 (pSortOr cf104 codeDF 3 105) :=
  sort_or_ok e104 k104 codeDF_ok ranges_ok mixed_ok
    (sort_ok sortUseLays Tryz.isAgg176 Tryz.sizeOf176 (enters Tryz.func104 (by kernel_rfl) (by kernel_rfl)) (enters Tryz.func105 (by kernel_rfl) (by kernel_rfl)) (by decide))
theorem sort109 : PrimOk Tryz.prog 109 (pSortOr cf109 codeDF 11 110) :=
  sort_or_ok e109 k109 codeDF_ok ranges_ok mixed_ok
    (sort_ok sortTypedLays Tryz.isAgg130 Tryz.sizeOf130 (enters Tryz.func109 (by kernel_rfl) (by kernel_rfl)) (enters Tryz.func110 (by kernel_rfl) (by kernel_rfl)) (by decide))
noncomputable def primA (f : FuncId) : Option (Rec → List AV → AH → CR) :=
  cond (Nat.beq f 104) (some (pSortOr cf104 codeDF 3 105)) <|
  cond (Nat.beq f 109) (some (pSortOr cf109 codeDF 11 110)) <|
  cond (Nat.beq f 49) (some pCmp) <|
  cond (Nat.beq f 190) (some pIdxB) none
theorem primA_ok : ∀ f p, primA f = some p → PrimOk Tryz.prog f p := by
  intro f p h
  unfold primA at h
  cases h1 : Nat.beq f 104 with
  | true => rw [h1] at h; cases h; rw [beq_iff.1 h1]; exact sort104
  | false =>
  rw [h1] at h
  cases h2 : Nat.beq f 109 with
  | true => rw [h2] at h; cases h; rw [beq_iff.1 h2]; exact sort109
  | false =>
  rw [h2] at h
  cases h3 : Nat.beq f 49 with
  | true => rw [h3] at h; cases h; rw [beq_iff.1 h3]; exact cmp49
  | false =>
  rw [h3] at h
  cases h4 : Nat.beq f 190 with
  | true => rw [h4] at h; cases h; rw [beq_iff.1 h4]; exact idx190
  | false => rw [h4] at h; cases h
noncomputable def runA : Nat → Rec := runN codeF codeDF codeRF primA
noncomputable def h0 : AH := .mk .one .e
noncomputable def isTT : CR → Bool
  | .ret .tt _ => true
  | _ => false
theorem isTT_inv {r : CR} (h : isTT r = true) : ∃ h', r = .ret .tt h' := by
  unfold isTT at h
  split at h
  · exact ⟨_, rfl⟩
  · cases h
theorem rel0 (w : World) : Rel (fun _ => none) h0 w :=
  ⟨fun p o hp => absurd ((PT.get_e p).symm.trans hp) (by simp), fun p q l m hp => absurd (PT.get_e p) hp, fun p l h => (by cases h), fun p hp => absurd (PT.get_e p) hp⟩
/-- an answer 'true', out of no memory: in every world -/
theorem true_of {prim : FuncId → Option (Rec → List AV → AH → CR)} (hP : ∀ f p, prim f = some p → PrimOk Tryz.prog f p) {n : Nat} {f : FuncId} {args : List AV} (h : isTT (runN codeF codeDF codeRF prim n f args h0) = true) (hf : f ≠ baseY)
    (he : ∀ vs w, (callFunc f vs).run Tryz.prog w = .ok (.enter f vs) w) {vs : Array Value} (ha : ArgsRel (fun _ => none) args vs) (w : World) : Calls Tryz.prog f vs w fun e w' => e = .returned (.bool true) ∧ ∃ q os', w' = Go.Sort.grow (w.drewN q) os' := by
  obtain ⟨h', hr⟩ := isTT_inv h
  have := (run_ok hP n f args h0 (by rw [hr]; intro k hk; cases hk) _ w vs (rel0 w) ha).1 hf
  rw [he] at this
  refine Calls.mono (show Calls Tryz.prog f vs w _ from this) ?_
  intro e w' hp
  rw [hr] at hp
  cases e with
  | returned y =>
    obtain ⟨v, h'', ρ', e1, st, rv⟩ := hp
    cases e1
    cases rv
    exact ⟨rfl, stp_bare st⟩
  | panicked chain => obtain ⟨v, h'', ρ', y, e1, _⟩ := hp; cases e1
  | outgrown => exact hp.elim
/-- whatever is asked, awake says true -/
noncomputable def pAwake (rec : Rec) (args : List AV) (h : AH) : CR :=
  match args with
  | [] => .ret .tt h
  | _ => .fail 210
set_option maxHeartbeats 0 in
theorem awake_tt : isTT (runA 400 4 [] h0) = true := by kernel_rfl
theorem awake_calls (w : World) : Calls Tryz.prog 4 #[] w fun e w' => e = .returned (.bool true) ∧ ∃ q os', w' = Go.Sort.grow (w.drewN q) os' :=
  true_of primA_ok awake_tt (by decide) (enters Tryz.func4 (by kernel_rfl) (by kernel_rfl)) ⟨rfl, fun i x y hx => by simp at hx⟩ w
theorem stp_drewN {ρ : Emb} {h : AH} {w : World} (r : Rel ρ h w) (q : Nat) : Stp ρ h w ρ h (w.drewN q) := stp_same r _ rfl rfl rfl rfl (Nat.le_add_right _ _)
theorem awake4 : PrimOk Tryz.prog 4 pAwake := by
  intro rec hrec args h hn ρ w vs r ha
  unfold pAwake at hn ⊢
  split at hn
  case h_2 => exact absurd rfl (hn 210)
  have hv : vs = #[] := Array.eq_empty_of_size_eq_zero ha.len.symm
  subst hv
  rw [enters Tryz.func4 (by kernel_rfl) (by kernel_rfl)]
  refine Calls.mono (awake_calls w) ?_
  rintro e w' ⟨rfl, q, os', rfl⟩
  have st := stp_drewN r q
  exact ⟨_, h, ρ, rfl, st.trans (stp_grow st.rel os'), .tt⟩
noncomputable def primF (f : FuncId) : Option (Rec → List AV → AH → CR) :=
  cond (Nat.beq f 4) (some pAwake) (primA f)
theorem primF_ok : ∀ f p, primF f = some p → PrimOk Tryz.prog f p := by
  intro f p h
  unfold primF at h
  cases h1 : Nat.beq f 4 with
  | true => rw [h1] at h; cases h; rw [beq_iff.1 h1]; exact awake4
  | false => rw [h1] at h; exact primA_ok f p h
noncomputable def runF : Nat → Rec := runN codeF codeDF codeRF primF
end Go.Ev
