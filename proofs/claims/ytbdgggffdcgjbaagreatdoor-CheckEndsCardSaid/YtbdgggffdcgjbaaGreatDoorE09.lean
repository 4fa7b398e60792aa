/- A part of the proof that CheckEnds returns true at every number: EvFun EvRun. Conditions: none. -/
import Derived.Test.YtbdgggffdcgjbaaGreatDoorE08
import Derived.Recover
set_option linter.all false
set_option linter.unusedVariables false
set_option linter.unusedSectionVars false
set_option linter.unusedSimpArgs false
namespace Go.Ev
set_option autoImplicit false
variable [Rounds]
open Go

section
variable {P : Program} {ρ : Emb} {h : AH} {w : World} {k : K} {vars stk : List AV} {L : List Nat} {N : Nat} {Q : Exit → Act → World → Prop} {rec : Rec} {od : Nat → Option (List Nat)}
/-- the slots of results -/
def resIn (N : Nat) : ResultVar → Bool
  | .tmp t => Nat.blt t N
  | .cell a _ => Nat.blt a N
def resRun (tmps : Array Value) : ResultVar → Sem Value
  | .tmp t => pure (tmps.getD t undef)
  | .cell c t => do loadVar t (← asAddr (tmps.getD c undef))
theorem results_eq (fn : Func) (tmps : Array Value) : results fn tmps = (do let vs ← fn.results.mapM (resRun tmps); pure (if h : vs.size = 1 then vs[0] else .tuple vs)) := by
  unfold results
  congr 1
theorem tell_inv {r : R} {v : AV} (h : tell r = some v) : ∃ l stk h', r = .ok (v :: l) stk h' := by
  cases r with
  | ok vars stk h' =>
    cases vars with
    | nil => cases h
    | cons a l => cases h; exact ⟨l, stk, h', rfl⟩
  | _ => cases h
theorem kTell_ok {f : K → R} {v : AV} (h : tell (f kTell) = some v) : NF (f kTell) := by
  obtain ⟨l, s, h', he⟩ := tell_inv h
  rw [he]; intro n hh; cases hh
theorem run_loadAt {t : TypeId} {a : Addr} : (Instr.loadAt t (.pointer (some a))).run P w = (loadVar t a).run P w := by
  simp [Instr.loadAt, Instr.sureAddr]
theorem res_one {rv : ResultVar} (hr : resIn N rv = true) (r : Rel ρ h w) {a : Act} (he : EnvOk L N env0 ρ vars [] a) {v : AV} (hv : (cRes P L rv).ev vars h = some v) :
    ∃ y, (resRun a.tmps rv).run P w = .ok y w ∧ RV ρ v y := by
  cases rv with
  | tmp t =>
    cases hv
    exact ⟨_, rfl, he t (blt_iff.1 hr)⟩
  | cell c t =>
    have hx : RV ρ ((resT L env0 c).ev vars []) (a.tmps.getD c undef) := he c (blt_iff.1 hr)
    simp only [cRes] at hv
    have fin : ∀ {y : Value}, (Instr.loadAt t (a.tmps.getD c undef)).run P w = .ok y w → (∃ q, a.tmps.getD c undef = .pointer (some q)) → (do loadVar t (← asAddr (a.tmps.getD c undef)) : Sem Value).run P w = .ok y w := by
      rintro y hy ⟨q, hq⟩
      rw [hq] at hy ⊢
      rw [run_loadAt] at hy
      simp only [asAddr, Sem.run_bind, Sem.run_pure, Result.andThen_ok, hy]
    cases hk : kindT P t with
    | none =>
      rw [hk] at hv
      cases hv
    | some o =>
      rw [hk] at hv
      cases o with
      | none =>
        have hv' : tell (ldOne (resT L env0 c) kTell vars [] h) = some v := hv
        have hn := kTell_ok (f := fun k => ldOne (resT L env0 c) k vars [] h) hv'
        obtain ⟨v', y, h1, h2, h3⟩ := ldOne_same (k := kTell) r hx hn hk
        rw [h1] at hv'
        cases hv'
        refine ⟨y, fin h3 ?_, h2⟩
        obtain ⟨b, e, o, hp⟩ := onPtr_inv hn
        rw [hp] at hx
        generalize a.tmps.getD c undef = X at hx
        cases hx; exact ⟨_, rfl⟩
      | some n =>
        have hv' : tell (ldAgg n (resT L env0 c) kTell vars [] h) = some v := hv
        have hn := kTell_ok (f := fun k => ldAgg n (resT L env0 c) k vars [] h) hv'
        obtain ⟨v', y, h1, h2, h3⟩ := ldAgg_same (k := kTell) r hx hn hk
        rw [h1] at hv'
        cases hv'
        refine ⟨y, fin h3 ?_, h2⟩
        obtain ⟨b, e, o, hp⟩ := onPtr_inv hn
        rw [hp] at hx
        generalize a.tmps.getD c undef = X at hx
        cases hx; exact ⟨_, rfl⟩
theorem allRes_inv {r0 : CRes} {rs : List CRes} {l : List AV} (h1 : allRes vars h (r0 :: rs) = some l) : ∃ v l', l = v :: l' ∧ r0.ev vars h = some v ∧ allRes vars h rs = some l' := by
  change @Option.rec AV (fun _ => Option (List AV)) none (fun v => @Option.rec (List AV) (fun _ => Option (List AV)) none (fun l => some (v :: l)) (allRes vars h rs)) (r0.ev vars h) = some l at h1
  cases h2 : r0.ev vars h with
  | none => rw [h2] at h1; cases h1
  | some v =>
    rw [h2] at h1
    cases h3 : allRes vars h rs with
    | none => rw [h3] at h1; cases h1
    | some l' => rw [h3] at h1; cases h1; exact ⟨v, l', rfl, rfl, rfl⟩
theorem res_all (r : Rel ρ h w) {a : Act} (he : EnvOk L N env0 ρ vars [] a) : ∀ (rs : List ResultVar) (l : List AV), rs.all (resIn N) = true → allRes vars h (rs.map (cRes P L)) = some l →
    ∃ ys : List Value, (rs.mapM (resRun a.tmps)).run P w = .ok ys w ∧ ArgsRel ρ l ys.toArray
  | [], l, _, hl => by
    cases hl
    exact ⟨[], by simp, ⟨rfl, fun i x y hx => by simp at hx⟩⟩
  | rv :: rs, l, hall, hl => by
    rw [List.all_cons, Bool.and_eq_true] at hall
    obtain ⟨v, l', rfl, h1, h2⟩ := allRes_inv hl
    obtain ⟨y, y1, y2⟩ := res_one hall.1 r he h1
    obtain ⟨ys, z1, z2⟩ := res_all r he rs l' hall.2 h2
    refine ⟨y :: ys, ?_, ?_⟩
    · rw [List.mapM_cons]
      simp only [Sem.run_bind, y1, Result.andThen_ok, z1, Sem.run_pure]
    · have := (ArgsRel.one y2).append z2
      have e1 : (#[y] ++ ys.toArray) = (y :: ys).toArray := by apply Array.ext'; simp
      rw [e1] at this
      exact this
theorem results_ok {fn : Func} (hall : fn.results.toList.all (resIn N) = true) (r : Rel ρ h w) {a : Act} (he : EnvOk L N env0 ρ vars [] a) {v : AV} (hv : resultsOf (fn.results.toList.map (cRes P L)) vars h = some v) :
    ∃ y, (results fn a.tmps).run P w = .ok y w ∧ RV ρ v y := by
  unfold resultsOf at hv
  cases hl : allRes vars h (fn.results.toList.map (cRes P L)) with
  | none => rw [hl] at hv; cases hv
  | some l =>
    rw [hl] at hv
    cases hv
    obtain ⟨ys, z1, z2⟩ := res_all r he fn.results.toList l hall hl
    have e2 : (fn.results.mapM (resRun a.tmps)).run P w = .ok ys.toArray w := by
      rw [Array.mapM_eq_mapM_toList]
      simp only [Sem.run_map, z1, Result.andThen_ok]
    have e3 : (results fn a.tmps).run P w = .ok (if h : ys.toArray.size = 1 then ys.toArray[0] else .tuple ys.toArray) w := by
      rw [results_eq]
      simp only [Sem.run_bind, e2, Result.andThen_ok, Sem.run_pure]
    refine ⟨_, e3, ?_⟩
    match l, ys, z2 with
    | [], [], _ => exact .tup [] #[] rfl (by simp)
    | [x], [y], z2 => exact z2.rel 0 x y rfl rfl
    | x :: x' :: l, y :: y' :: ys, z2 =>
      have : ¬ ((y :: y' :: ys).toArray.size = 1) := by simp
      rw [dif_neg this]
      exact .tup _ _ z2.len z2.rel
    | [], y :: ys, z2 => exact absurd z2.len (by simp)
    | [x], [], z2 => exact absurd z2.len (by simp)
    | [x], y :: y' :: ys, z2 => exact absurd z2.len (by simp)
    | x :: x' :: l, [], z2 => exact absurd z2.len (by simp)
    | x :: x' :: l, [y], z2 => exact absurd z2.len (by simp)

/-! the beginning of a call -/
theorem leadOk_at {k : Nat} : ∀ {l : List Nat} {i : Nat}, leadOk k i l = true → ∀ (j s : Nat), l[j]? = some s → i + j < k → s = i + j
  | [], i, _, j, s, hj, _ => by simp at hj
  | s0 :: l, i, h, j, s, hj, hk => by
    have h2 := Bool.and_eq_true_iff.1 (show and (or (Nat.ble k i) (Nat.beq s0 i)) (leadOk k (i + 1) l) = true from h)
    cases j with
    | zero =>
      cases hj
      have h3 := (Bool.or_eq_true ..).mp h2.1
      rcases h3 with h3 | h3
      · have := ble_iff.1 h3; omega
      · rw [beq_iff.1 h3]; rfl
    | succ j =>
      have := leadOk_at h2.2 j s (by simpa using hj) (by omega)
      omega
theorem padTo_get : ∀ (n : Nat) (args : List AV) (i : Nat), (padTo n args).getD i .undef = if i < n then args.getD i .undef else .undef
  | 0, args, i => by rw [if_neg (by omega)]; rfl
  | n + 1, [], i => by
    show (AV.undef :: padTo n []).getD i .undef = _
    cases i with
    | zero => rfl
    | succ i =>
      have := padTo_get n [] i
      simp only [List.getD_cons_succ, this]
      simp
  | n + 1, a :: args, i => by
    show (a :: padTo n args).getD i .undef = _
    cases i with
    | zero => rfl
    | succ i =>
      have := padTo_get n args i
      simp only [List.getD_cons_succ, this]
      by_cases h : i < n
      · rw [if_pos h, if_pos (by omega)]
      · rw [if_neg h, if_neg (by omega)]
theorem padTo_len : ∀ (n : Nat) (args : List AV), (padTo n args).length = n
  | 0, _ => rfl
  | n + 1, [] => by show (AV.undef :: padTo n []).length = _; rw [List.length_cons, padTo_len]
  | n + 1, a :: args => by show (a :: padTo n args).length = _; rw [List.length_cons, padTo_len]
theorem enter_env {k n : Nat} (hl : leadOk k 0 L = true) {args : List AV} {vs : Array Value} (ha : ArgsRel ρ args vs) (hk : args.length ≤ k) (hkN : k ≤ N) (hn : n = L.length) :
    EnvOk L N env0 ρ (padTo n args) [] { tmps := vs ++ Array.replicate (N - vs.size) undef, defers := [] } ∧ (vs ++ Array.replicate (N - vs.size) undef).size = N := by
  have hs : vs.size ≤ N := by rw [← ha.len]; omega
  refine ⟨fun t ht => ?_, by simp; omega⟩
  unfold sig
  rw [resT_eq]
  show RV ρ ((resOf 0 (idxOf t L 0) none).ev (padTo n args) []) _
  cases hi : idxOf t L 0 with
  | none => exact .undef _
  | some i =>
    show RV ρ ((G.var i).ev (padTo n args) []) _
    rw [ev_var, padTo_get]
    have hg := (idxOf_ge hi).2
    rw [Nat.sub_zero] at hg
    split
    · by_cases hia : i < args.length
      · have hti := leadOk_at hl i t hg (by omega)
        rw [Nat.zero_add] at hti
        subst hti
        have hx : args[t]? = some (args.getD t .undef) := by simp [List.getD, List.getElem?_eq_getElem hia]
        have hv : t < vs.size := by rw [← ha.len]; exact hia
        have hy : vs[t]? = some vs[t] := Array.getElem?_eq_getElem hv
        have := ha.rel t _ _ hx hy
        show RV ρ _ ((vs ++ Array.replicate (N - vs.size) undef).getD t undef)
        rw [Array.getD_eq_getD_getElem?, Array.getElem?_append_left hv, hy]
        exact this
      · have : args.getD i .undef = .undef := by simp [List.getD, List.getElem?_eq_none (show args.length ≤ i by omega)]
        rw [this]; exact .undef _
    · exact .undef _

/-- what of a function is looked at once and for all -/
def fnChk (P : Program) (L : List Nat) (od : Nat → Option (List Nat)) (f : FuncId) : Bool :=
  match P.funcs[f]? with
  | some fn => match fn.body with
    | some c => and (codeOk fn.ntmps L od c) (and (Nat.ble fn.ntmps slotD) (and (fn.results.toList.all (resIn fn.ntmps)) (fn.name != "runtime.NumGoroutine")))
    | none => false
  | none => false
theorem callFunc_run {f : FuncId} {fn : Func} {c : Code} (hf : P.funcs[f]? = some fn) (hb : fn.body = some c) (hname : (fn.name != "runtime.NumGoroutine") = true) (vs : Array Value) : (callFunc f vs).run P w = .ok (.enter f vs) w := by
  have h1 : (fn.name == "runtime.NumGoroutine") = false := by simpa using hname
  simp only [callFunc, Sem.run_bind, run_program, Result.andThen_ok, hf, h1, hb, Bool.false_eq_true, if_false, Option.isNone_some, Sem.run_pure]
theorem giveBack_inv {rs : List CRes} (hn : ∀ n, giveBack rs vars h ≠ .fail n) : ∃ v, resultsOf rs vars h = some v ∧ giveBack rs vars h = .ret v h := by
  unfold giveBack at hn ⊢
  cases hr : resultsOf rs vars h with
  | none => rw [hr] at hn; exact absurd rfl (hn 141)
  | some v => exact ⟨v, rfl, rfl⟩

/-! a function with no deferred call, or with one -/
theorem cFn_inv {hint : FuncId → List Nat} {od : FuncId → Nat → Option (List Nat)} {f : FuncId} {c : CFn} (h : cFn P hint od f = some c) : ∃ fn code, P.funcs[f]? = some fn ∧ fn.body = some code ∧ leadOk (fn.params.size + fn.nfree) 0 (hint f) = true ∧
    fn.params.size + fn.nfree ≤ fn.ntmps ∧ c = ⟨(hint f).length, fn.params.size + fn.nfree, cCode P (hint f) (od f) code env0, fn.results.toList.map (cRes P (hint f)), idxOf slotD (hint f) 0⟩ := by
  unfold cFn at h
  split at h
  · rename_i fn hf
    split at h
    · rename_i code hb
      cases hc : and (leadOk (fn.params.size + fn.nfree) 0 (hint f)) (Nat.ble (fn.params.size + fn.nfree) fn.ntmps) with
      | false => rw [hc] at h; cases h
      | true =>
        rw [hc] at h
        have h2 := Bool.and_eq_true_iff.1 hc
        cases h
        exact ⟨fn, code, hf, hb, h2.1, ble_iff.1 h2.2, rfl⟩
    · cases h
  · cases h
theorem cFnD_inv {hint : FuncId → List Nat} {od : FuncId → Nat → Option (List Nat)} {f : FuncId} {x : Nat × Nat × Nat × CCode} (h : cFnD P hint od f = some x) : ∃ (fn : Func) (id : Nat) (ops : Array Oper) (code : Code) (o p : Oper) (r v i : Nat) (cl : Call),
    P.funcs[f]? = some fn ∧ fn.body = some (.seq (.region id ops false) code) ∧ ops.toList = [o, p] ∧ o.dst = some r ∧ o.op = .call cl ∧ o.guard = none ∧ p.dst = some v ∧ p.op = .assign (.tmp r) ∧ p.guard = none ∧ cl.callee = .builtin .recover ∧ cl.args.size = 0 ∧
    idxOf v (hint f) 0 = some i ∧ leadOk (fn.params.size + fn.nfree) 0 (hint f) = true ∧ fn.params.size + fn.nfree ≤ fn.ntmps ∧ fn.params.size + fn.nfree ≤ v ∧ fn.params.size + fn.nfree ≤ r ∧ fn.results.size = 0 ∧ idxOf slotD (hint f) 0 = none ∧
    x = ((hint f).length, fn.params.size + fn.nfree, i, cCode P (hint f) (od f) code env0) := by
  unfold cFnD at h
  split at h <;> first | (cases h; done) | skip
  rename_i fn hf
  split at h <;> first | (cases h; done) | skip
  rename_i id ops code hb
  split at h <;> first | (cases h; done) | skip
  rename_i o p hops
  split at h <;> first | (cases h; done) | skip
  rename_i r cl v r' h1 h2 h3 h4 h5 h6
  split at h <;> first | (cases h; done) | skip
  rename_i h7 h8
  split at h <;> first | (cases h; done) | skip
  rename_i i hi
  cases hc : and (Nat.beq r r') (and (leadOk (fn.params.size + fn.nfree) 0 (hint f)) (and (Nat.ble (fn.params.size + fn.nfree) fn.ntmps) (and (Nat.ble (fn.params.size + fn.nfree) v) (and (Nat.ble (fn.params.size + fn.nfree) r) (and (Nat.beq fn.results.size 0) (idxOf slotD (hint f) 0).isNone))))) with
  | false => rw [hc] at h; cases h
  | true =>
    rw [hc] at h
    cases h
    have c1 := Bool.and_eq_true_iff.1 hc
    have c2 := Bool.and_eq_true_iff.1 c1.2
    have c3 := Bool.and_eq_true_iff.1 c2.2
    have c4 := Bool.and_eq_true_iff.1 c3.2
    have c5 := Bool.and_eq_true_iff.1 c4.2
    have c6 := Bool.and_eq_true_iff.1 c5.2
    have hr := beq_iff.1 c1.1
    subst hr
    refine ⟨fn, id, ops, code, o, p, r, v, i, cl, hf, hb, hops, h1, h2, h3, h4, h5, h6, h7, h8, hi, c2.1, ble_iff.1 c3.1, ble_iff.1 c4.1, ble_iff.1 c5.1, beq_iff.1 c6.1, ?_, rfl⟩
    have := c6.2
    cases hs : idxOf slotD (hint f) 0 with
    | none => rfl
    | some _ => rw [hs] at this; cases this

def afterD (P : Program) (fn : Func) (tmps : Array Value) (R : Ending → World → Prop) : Ending → FrameMode → World → Prop
  | .returned _, u', w' => Leaves P fn tmps R [] (settle u') w'
  | .panicked chain, u', w' => Leaves P fn tmps R [] (raised u' chain) w'
  | .outgrown, _, w' => R .outgrown w'
/-- a deferred function that asks for the panic's value, in a frame of this mode -/
theorem deferred_ok {hint : FuncId → List Nat} {od : FuncId → Nat → Option (List Nat)} {codeD : FuncId → Option (Nat × Nat × Nat × CCode)} (hD : ∀ f x, codeD f = some x → cFnD P hint od f = some x ∧ fnChk P (hint f) (od f) f = true)
    (hRg : ∀ f fn c, P.funcs[f]? = some fn → fn.body = some c → RangesOk P (hint f) (od f) fn.ntmps c) (hrec : RecOk P rec) (hm : P.follows .mixedOrders = true) (r : Rel ρ h w) {g : FuncId} {fa c : List AV} {A C : Array Value} (h1 : ArgsRel ρ fa A) (h2 : ArgsRel ρ c C) {pv : AV} {y : Value} (hpv : RV ρ pv y) {u : FrameMode}
    (hu : (u = .returning ∧ y = .nilIface) ∨ u = .panicking [{ v := y, recovered := false }]) {h' : AH} (hrun : runD codeD (.fn (.func g) fa c) pv rec h = .ret h') {fn : Func} {tmps : Array Value} {R : Ending → World → Prop}
    (hR : ∀ ρ' w', Stp ρ h w ρ' h' w' → ∃ v, (results fn tmps).run P w' = .ok v w' ∧ R (.returned v) w') : Leaves P fn tmps R [{ target := .fn (.func g) C, args := A }] u w := by
  unfold runD at hrun
  simp only at hrun
  cases hg : codeD g with
  | none => rw [hg] at hrun; cases hrun
  | some x =>
    obtain ⟨x1, x2⟩ := hD g x hg
    obtain ⟨gf, id, ops, code, o, p, rr, v, i, cl, hf, hb, hops, o1, o2, o3, p1, p2, p3, c1, c2, hi, hl, hk, hv, hr, hres, hsl, rfl⟩ := cFnD_inv x1
    rw [hg] at hrun
    simp only at hrun
    cases hle : Nat.ble (len (app c fa)) (gf.params.size + gf.nfree) with
    | false => rw [hle] at hrun; cases hrun
    | true =>
      rw [hle] at hrun
      simp only [cond_true] at hrun
      have hle := ble_iff.1 hle
      rw [len_eq] at hle
      have hargs : ArgsRel ρ (app c fa) (A ++ C) := by rw [app_eq]; exact h1.append h2
      unfold fnChk at x2
      rw [hf] at x2
      simp only [hb] at x2
      have k1 := Bool.and_eq_true_iff.1 x2
      have k2 := Bool.and_eq_true_iff.1 k1.2
      have k3 := Bool.and_eq_true_iff.1 k2.2
      have hN : gf.ntmps ≤ slotD := ble_iff.1 k2.1
      have k4 := Bool.and_eq_true_iff.1 (show and (codeOk gf.ntmps (hint g) (od g) (.region id ops false)) (codeOk gf.ntmps (hint g) (od g) code) = true from k1.1)
      have hall := allIn (show ops.toList.all (opIn gf.ntmps) = true from k4.1)
      have ho : ops[0]? = some o := by rw [← Array.getElem?_toList, hops]; rfl
      have hp : ops[1]? = some p := by rw [← Array.getElem?_toList, hops]; rfl
      have hsz : ops.size = 2 := by rw [← Array.length_toList, hops]; rfl
      have hrN : rr < gf.ntmps := opIn_dst (hall 0 o ho) rr o1
      have hvN : v < gf.ntmps := opIn_dst (hall 1 p hp) v p1
      obtain ⟨e1, e2⟩ := enter_env (N := gf.ntmps) (n := (hint g).length) hl hargs hle hk rfl
      have hune : u ≠ .run := by rcases hu with ⟨rfl, _⟩ | rfl <;> simp
      refine leaves_cons hune (callFunc_run (w := w) hf hb k3.2 (A ++ C)) ?_
      refine CallsD.mono (R := afterD P fn tmps R) (callsD_of_wpS hf hb fun c₀ cs hc₀ => ?_) (fun e u' w' he => by cases e <;> exact he)
      refine wpS_seq (wpS_region ?_)
      rw [hsz]
      show wpOpsS P ops _ [0, 1] _ _ _
      have hrec0 : (execOp (Act.eval { tmps := A ++ C ++ Array.replicate (gf.ntmps - (A ++ C).size) undef, defers := [] }) o).run P w = .ok .recover w := by
        have hargs0 : cl.args = #[] := Array.eq_empty_of_size_eq_zero c2
        unfold execOp
        rw [o2]
        simp only [resolve, c1, Sem.run_bind, Sem.run_pure, Result.andThen_ok, invoke, builtin]
      have w0 : Region.wanted o (yielded ops (A ++ C ++ Array.replicate (gf.ntmps - (A ++ C).size) undef)) = true := by unfold Region.wanted; rw [o3]
      have w1 : ∀ tm, Region.wanted p (yielded ops tm) = true := by intro tm; unfold Region.wanted; rw [p3]
      have asg : ∀ a : Act, (execOp a.eval p).run P w = .ok (.value (a.eval (.tmp rr))) w := by intro a; unfold execOp; rw [p2]; rfl
      have mode' : ∃ u', (recoverD (c₀ :: cs) = some (y, { c₀ with mode := u' } :: cs) ∨ (recoverD (c₀ :: cs) = none ∧ y = .nilIface ∧ { c₀ with mode := u' } = c₀)) ∧ settle u' = .returning := by
        rcases hu with ⟨rfl, rfl⟩ | rfl
        · refine ⟨.returning, .inr ⟨?_, rfl, ?_⟩, rfl⟩
          · simp only [recoverD, hc₀]
          · cases c₀; simp only at hc₀; subst hc₀; rfl
        · refine ⟨.panicking [{ v := y, recovered := true }], .inl ?_, rfl⟩
          simp only [recoverD, hc₀]
      obtain ⟨u', hrd, hset⟩ := mode'
      -- what is behind the two operations
      have hod : ∀ u, o.dst = some u → u < (Act.mk (A ++ C ++ Array.replicate (gf.ntmps - (A ++ C).size) undef) []).tmps.size := fun u hu => by
        rw [o1] at hu; cases hu
        show rr < (A ++ C ++ Array.replicate (gf.ntmps - (A ++ C).size) undef).size
        rw [e2]; exact hrN
      have hpd : ∀ u, p.dst = some u → u < ((Act.mk (A ++ C ++ Array.replicate (gf.ntmps - (A ++ C).size) undef) []).put o.dst y).tmps.size := fun u hu => by
        rw [p1] at hu; cases hu
        rw [put_size]
        show v < (A ++ C ++ Array.replicate (gf.ntmps - (A ++ C).size) undef).size
        rw [e2]; exact hvN
      have hrr : (((Act.mk (A ++ C ++ Array.replicate (gf.ntmps - (A ++ C).size) undef) []).put o.dst y).eval (.tmp rr)) = y := put_here _ _ hod o1
      have env1 : EnvOk (hint g) gf.ntmps env0 ρ (upd pv i (padTo (hint g).length (app c fa))) [] (((Act.mk (A ++ C ++ Array.replicate (gf.ntmps - (A ++ C).size) undef) []).put o.dst y).put p.dst y) := by
        intro t ht
        have h0 := e1 t ht
        unfold sig at h0 ⊢
        rw [resT_eq] at h0 ⊢
        change RV ρ ((resOf 0 (idxOf t (hint g) 0) none).ev (padTo (hint g).length (app c fa)) []) _ at h0
        show RV ρ ((resOf 0 (idxOf t (hint g) 0) none).ev (upd pv i (padTo (hint g).length (app c fa))) []) _
        cases hj : idxOf t (hint g) 0 with
        | none => exact .undef _
        | some j =>
          rw [hj] at h0
          change RV ρ ((G.var j).ev (padTo (hint g).length (app c fa)) []) _ at h0
          show RV ρ ((G.var j).ev (upd pv i (padTo (hint g).length (app c fa))) []) _
          rw [ev_var] at h0 ⊢
          rw [upd_getD]
          by_cases htv : t = v
          · subst htv
            rw [put_here _ _ hpd p1]
            rw [hi] at hj
            cases hj
            by_cases hil : i < (padTo (hint g).length (app c fa)).length
            · rw [if_pos ⟨rfl, hil⟩]; exact hpv
            · rw [if_neg fun h => hil h.2]
              have : (padTo (hint g).length (app c fa)).getD i .undef = .undef := by simp [List.getD, List.getElem?_eq_none (show (padTo (hint g).length (app c fa)).length ≤ i by omega)]
              rw [this]; exact .undef _
          · have hij : ¬ (i = j ∧ i < (padTo (hint g).length (app c fa)).length) := by
              rintro ⟨rfl, _⟩
              exact htv (idxOf_inj hj hi)
            rw [if_neg hij, put_other _ _ hpd (by rw [p1]; intro hh; cases hh; exact htv rfl)]
            by_cases htr : t = rr
            · subst htr
              rw [padTo_get]
              split
              · by_cases hja : j < (app c fa).length
                · have hg2 := (idxOf_ge hj).2
                  rw [Nat.sub_zero] at hg2
                  have := leadOk_at hl j t hg2 (by omega)
                  omega
                · have : (app c fa).getD j .undef = .undef := by simp [List.getD, List.getElem?_eq_none (show (app c fa).length ≤ j by omega)]
                  rw [this]; exact .undef _
              · exact .undef _
            · rw [put_other _ _ hod (by rw [o1]; intro hh; cases hh; exact htr rfl)]
              exact h0
      have st1 : St (hint g) gf.ntmps ρ env0 (upd pv i (padTo (hint g).length (app c fa))) [] (((Act.mk (A ++ C ++ Array.replicate (gf.ntmps - (A ++ C).size) undef) []).put o.dst y).put p.dst y) := by
        refine ⟨env1, by rw [put_size, put_size]; exact e2, ?_⟩
        unfold DefOk
        rw [hsl]
        cases o.dst <;> cases p.dst <;> rfl
      have behind : ∀ cs', cs' = { c₀ with mode := u' } :: cs → code.wpS P (bodyPostS P gf c₀ cs (afterD P fn tmps R)) (((Act.mk (A ++ C ++ Array.replicate (gf.ntmps - (A ++ C).size) undef) []).put o.dst y).put p.dst y) cs' w := by
        intro cs' hcs
        refine wpS_of_wp ?_
        have fin : ∀ (ρ' : Emb) (w' : World) (a' : Act) {ex : SEnv} {vs' sk' : List AV}, Stp ρ h w ρ' h' w' → St (hint g) gf.ntmps ρ' ex vs' sk' a' → a'.defers = [] ∧ ∃ u', cs' = { c₀ with mode := u' } :: cs ∧ ∃ v, (results gf a'.tmps).run P w' = .ok v w' ∧ afterD P fn tmps R (.returned v) u' w' := by
          intro ρ' w' a' ex vs' sk' st s'
          have hd := s'.dfr
          unfold DefOk at hd
          rw [hsl] at hd
          refine ⟨hd, u', hcs, .tuple #[], ?_, ?_⟩
          · have : gf.results = #[] := Array.eq_empty_of_size_eq_zero hres
            simp [results, this]
          · show Leaves P fn tmps R [] (settle u') w'
            rw [hset]
            exact hR ρ' w' st
        refine code_ok (od := od g) (Q := fun e a' w' => bodyPostS P gf c₀ cs (afterD P fn tmps R) e a' cs' w') hrec hN hm code k4.2 ((hRg g gf _ hf hb).sub fun x hx => List.mem_append_right _ hx) ?_ r wf0 st1 ?_
        · intro n hh; rw [hh] at hrun; cases hrun
        · generalize (cCode P (hint g) (od g) code env0).run rec (upd pv i (padTo (hint g).length (app c fa))) [] h = r2 at hrun
          cases r2 with
          | ok v2 s2 h2 => cases hrun; exact fun ρ' w' a' st s' => fin ρ' w' a' st s'
          | ret v2 h2 => cases hrun; exact fun ρ' w' a' st s' => fin ρ' w' a' st s'
          | ex i v2 h2 => cases hrun
          | pan x v2 h2 => cases hrun
          | fail n => cases hrun
      have step1 : ∀ cs', cs' = { c₀ with mode := u' } :: cs → wpOpsS P ops (Exit.thenS (code.wpS P (bodyPostS P gf c₀ cs (afterD P fn tmps R))) (bodyPostS P gf c₀ cs (afterD P fn tmps R))) [1] ((Act.mk (A ++ C ++ Array.replicate (gf.ntmps - (A ++ C).size) undef) []).put o.dst y) cs' w := by
        intro cs' hcs
        rw [wpOpsS]
        simp only [hp, w1, if_true, asg, hrr, Oper.upon_value]
        exact behind cs' hcs
      rw [wpOpsS]
      simp only [ho, w0, if_true, hrec0]
      rcases hrd with hrd | ⟨hrd, rfl, hcm⟩
      · rw [hrd]
        exact step1 _ rfl
      · rw [hrd]
        exact step1 _ (by rw [hcm])
end
end Go.Ev
namespace Go.Ev
set_option autoImplicit false
variable [Rounds]
open Go

section
variable {P : Program} {ρ : Emb} {h : AH} {w : World} {k : K} {vars stk : List AV} {L : List Nat} {N : Nat} {Q : Exit → Act → World → Prop} {rec : Rec}
  {hint : FuncId → List Nat} {od : FuncId → Nat → Option (List Nat)} {codeD : FuncId → Option (Nat × Nat × Nat × CCode)}
theorem leaves_ret {fn : Func} {tmps : Array Value} {R : Ending → World → Prop} (h : ∃ v, (results fn tmps).run P w = .ok v w ∧ R (.returned v) w) : Leaves P fn tmps R [] .returning w := h
theorem fun_ok {f : FuncId} {c : CFn} (hc : cFn P hint od f = some c) (hk : fnChk P (hint f) (od f) f = true) (hD : ∀ f x, codeD f = some x → cFnD P hint od f = some x ∧ fnChk P (hint f) (od f) f = true) (hRg : ∀ f fn c, P.funcs[f]? = some fn → fn.body = some c → RangesOk P (hint f) (od f) fn.ntmps c) (hrec : RecOk P rec) (hm : P.follows .mixedOrders = true)
    (r : Rel ρ h w) {args : List AV} {vs : Array Value} (ha : ArgsRel ρ args vs) (hn : ∀ n, c.run codeD rec args h ≠ .fail n) : NextPost P ((callFunc f vs).run P w) (CPost ρ h w (c.run codeD rec args h)) := by
  obtain ⟨fn, code, hf, hb, hl, hkN, rfl⟩ := cFn_inv hc
  unfold fnChk at hk
  rw [hf] at hk
  simp only [hb] at hk
  have k1 := Bool.and_eq_true_iff.1 hk
  have k2 := Bool.and_eq_true_iff.1 k1.2
  have k3 := Bool.and_eq_true_iff.1 k2.2
  have hN : fn.ntmps ≤ slotD := ble_iff.1 k2.1
  rw [callFunc_run hf hb k3.2 vs]
  show Calls P f vs w _
  have results : ∀ {ρ' : Emb} {h' : AH} {w' : World} {a' : Act} {vs' : List AV} {v : AV}, Rel ρ' h' w' → EnvOk (hint f) fn.ntmps env0 ρ' vs' [] a' → resultsOf (fn.results.toList.map (cRes P (hint f))) vs' h' = some v → ∃ y, (results fn a'.tmps).run P w' = .ok y w' ∧ RV ρ' v y :=
    fun r' e' hv => results_ok k3.1 r' e' hv
  cases hd : idxOf slotD (hint f) 0 with
  | none =>
    rw [hd] at hn
    have hrunE : (⟨(hint f).length, fn.params.size + fn.nfree, cCode P (hint f) (od f) code env0, fn.results.toList.map (cRes P (hint f)), none⟩ : CFn).run codeD rec args h =
        ifC (Nat.ble (len args) (fn.params.size + fn.nfree)) (finish (fn.results.toList.map (cRes P (hint f))) ((cCode P (hint f) (od f) code env0).run rec (padTo (hint f).length args) [] h)) := rfl
    rw [hrunE] at hn ⊢
    cases hle : Nat.ble (len args) (fn.params.size + fn.nfree) with
    | false => rw [hle] at hn; exact absurd rfl (hn 149)
    | true =>
      rw [hle] at hn
      have hle' := ble_iff.1 hle
      rw [len_eq] at hle'
      change ∀ n, finish (fn.results.toList.map (cRes P (hint f))) ((cCode P (hint f) (od f) code env0).run rec (padTo (hint f).length args) [] h) ≠ .fail n at hn
      show Calls P f vs w (CPost ρ h w (finish (fn.results.toList.map (cRes P (hint f))) ((cCode P (hint f) (od f) code env0).run rec (padTo (hint f).length args) [] h)))
      obtain ⟨e1, e2⟩ := enter_env (N := fn.ntmps) (n := (hint f).length) hl ha hle' hkN rfl
      refine calls_of_wp_defers hf hb (code_ok (od := od f) hrec hN hm code k1.1 (hRg f fn code hf hb) ?_ r wf0 ⟨e1, e2, ?_⟩ ?_)
      · intro n hh; rw [hh] at hn; exact hn n rfl
      · unfold DefOk; rw [hd]
      · have hwf := wf_code (N := fn.ntmps) (L := hint f) (od := od f) code (e := env0) k1.1 wf0
        generalize (cCode P (hint f) (od f) code env0).run rec (padTo (hint f).length args) [] h = r2 at hn ⊢
        have dnil : ∀ {ρ' : Emb} {ex : SEnv} {v2 s2 : List AV} {a' : Act}, St (hint f) fn.ntmps ρ' ex v2 s2 a' → a'.defers = [] := fun s' => by
          have := s'.dfr
          unfold DefOk at this
          rw [hd] at this; exact this
        cases r2 with
        | ok v2 s2 h2 =>
          obtain ⟨v, hv, hg⟩ := giveBack_inv (show ∀ n, giveBack (fn.results.toList.map (cRes P (hint f))) v2 h2 ≠ .fail n from hn)
          intro ρ' w' a' st s'
          have hg' : finish (fn.results.toList.map (cRes P (hint f))) (.ok v2 s2 h2) = .ret v h2 := hg
          rw [hg']
          show Leaves P fn a'.tmps _ a'.defers .returning w'
          rw [dnil s']
          obtain ⟨y, y1, y2⟩ := results st.rel ((s'.env0 hwf []).env) hv
          exact ⟨y, y1, v, h2, ρ', rfl, st, y2⟩
        | ret v2 h2 =>
          obtain ⟨v, hv, hg⟩ := giveBack_inv (show ∀ n, giveBack (fn.results.toList.map (cRes P (hint f))) v2 h2 ≠ .fail n from hn)
          intro ρ' w' a' st s'
          have hg' : finish (fn.results.toList.map (cRes P (hint f))) (.ret v2 h2) = .ret v h2 := hg
          rw [hg']
          show Leaves P fn a'.tmps _ a'.defers .returning w'
          rw [dnil s']
          obtain ⟨y, y1, y2⟩ := results st.rel s'.env hv
          exact ⟨y, y1, v, h2, ρ', rfl, st, y2⟩
        | ex i v2 h2 => exact absurd rfl (hn 140)
        | pan v v2 h2 =>
          intro ρ' w' a' y st s' hv
          show Leaves P fn a'.tmps _ a'.defers (.panicking [{ v := y, recovered := false }]) w'
          have hdn : a'.defers = [] := by
            rcases s' with s' | s'
            · exact dnil s'
            · exact s'.2
          rw [hdn]
          exact ⟨v, h2, ρ', y, rfl, rfl, st, hv⟩
        | fail n => trivial
  | some i =>
    rw [hd] at hn
    have hrunE : (⟨(hint f).length, fn.params.size + fn.nfree, cCode P (hint f) (od f) code env0, fn.results.toList.map (cRes P (hint f)), some i⟩ : CFn).run codeD rec args h =
        ifC (Nat.ble (len args) (fn.params.size + fn.nfree)) (finishD codeD i (fn.results.toList.map (cRes P (hint f))) rec ((cCode P (hint f) (od f) code env0).run rec (padTo (hint f).length args) [] h)) := rfl
    rw [hrunE] at hn ⊢
    cases hle : Nat.ble (len args) (fn.params.size + fn.nfree) with
    | false => rw [hle] at hn; exact absurd rfl (hn 149)
    | true =>
      rw [hle] at hn
      have hle' := ble_iff.1 hle
      rw [len_eq] at hle'
      change ∀ n, finishD codeD i (fn.results.toList.map (cRes P (hint f))) rec ((cCode P (hint f) (od f) code env0).run rec (padTo (hint f).length args) [] h) ≠ .fail n at hn
      show Calls P f vs w (CPost ρ h w (finishD codeD i (fn.results.toList.map (cRes P (hint f))) rec ((cCode P (hint f) (od f) code env0).run rec (padTo (hint f).length args) [] h)))
      obtain ⟨e1, e2⟩ := enter_env (N := fn.ntmps) (n := (hint f).length) hl ha hle' hkN rfl
      have hig := (idxOf_ge hd).2
      rw [Nat.sub_zero] at hig
      have hil : i < (hint f).length := (List.getElem?_eq_some_iff.1 hig).1
      have hdef0 : DefOk (hint f) ρ (padTo (hint f).length args) { tmps := vs ++ Array.replicate (fn.ntmps - vs.size) undef, defers := [] } := by
        unfold DefOk
        rw [hd]
        refine ⟨by rw [padTo_len]; exact hil, .inl ⟨?_, rfl⟩⟩
        rw [padTo_get, if_pos hil]
        have hia : args.length ≤ i := by
          rcases Nat.lt_or_ge i args.length with h0 | h0
          · exfalso
            have h9 := leadOk_at hl i slotD hig (by omega)
            rw [Nat.zero_add] at h9
            have : i < slotD := by omega
            omega
          · exact h0
        simp [List.getD, List.getElem?_eq_none hia]
      have hwf := wf_code (N := fn.ntmps) (L := hint f) (od := od f) code (e := env0) k1.1 wf0
      have hcode := fun (Q : Exit → Act → World → Prop) => code_ok (od := od f) (Q := Q) hrec hN hm code k1.1 (hRg f fn code hf hb) (e := env0) (vars := padTo (hint f).length args) (stk := []) (h := h) (ρ := ρ) (w := w) (a := { tmps := vs ++ Array.replicate (fn.ntmps - vs.size) undef, defers := [] })
        (by intro n hh; rw [hh] at hn; exact hn n rfl) r wf0 ⟨e1, e2, hdef0⟩
      by_cases htok : ∃ v2 h2 b, ((∃ s2, (cCode P (hint f) (od f) code env0).run rec (padTo (hint f).length args) [] h = .ok v2 s2 h2) ∨ (cCode P (hint f) (od f) code env0).run rec (padTo (hint f).length args) [] h = .ret v2 h2) ∧ nth i v2 = .tok b
      · -- a loop over a function was gone through
        obtain ⟨v2, h2, b, h12, hb2⟩ := htok
        have hfin : finishD codeD i (fn.results.toList.map (cRes P (hint f))) rec ((cCode P (hint f) (od f) code env0).run rec (padTo (hint f).length args) [] h) = shutD b (fn.results.toList.map (cRes P (hint f))) v2 h2 := by
          rcases h12 with ⟨s2, h12⟩ | h12 <;> (rw [h12]; simp only [finishD, hb2])
        rw [hfin] at hn ⊢
        have fin : ∀ (ρ' : Emb) (w' : World) (a' : Act), Stp ρ h w ρ' h2 w' → St (hint f) fn.ntmps ρ' env0 v2 [] a' → LeavesInM Fence.wide 0 P fn a'.tmps (CPost ρ h w (shutD b (fn.results.toList.map (cRes P (hint f))) v2 h2)) a'.defers .returning w' := by
          intro ρ' w' a' st s'
          have hdf := s'.dfr
          unfold DefOk at hdf
          rw [hd] at hdf
          rw [nth_eq] at hb2
          rcases hdf.2 with ⟨u1, u2⟩ | ⟨g, fa, c, A, C, u1, u2, u3, u4⟩ | ⟨b', l, u1, u2, u3⟩
          · rw [hb2] at u1; cases u1
          · rw [hb2] at u1; cases u1
          · rw [hb2] at u1
            cases u1
            unfold shutD at hn ⊢
            split at hn
            case h_2 => exact absurd rfl (hn 162)
            rename_i hob
            obtain ⟨v, hv, hg⟩ := giveBack_inv hn
            rw [hg]
            cases st.rel.obj _ _ hob _ u2 with
            | dl hk =>
            have st2 := stp_del2 st.rel hob u2 (w'.putObj l.cb (.deferred none)) rfl rfl rfl World.putObj_size (fun k hk' => World.putObj_heap_other hk')
            rw [u3]
            refine ⟨by simp, .inl ⟨l.cb, _, rfl, run_takeDeferred hk, ?_⟩⟩
            obtain ⟨y, y1, y2⟩ := results st2.rel (s'.env.mono st2.le) hv
            exact ⟨y, y1, v, _, ρ', rfl, st.trans st2, y2⟩
        refine (callsIn_wide (n := 0)).1 (callsIn_of_wp_marks (F := Fence.wide) (n := 0) hf hb trivial ((wpIn_wide (n := 0)).2 (hcode _ ?_)))
        rcases h12 with ⟨s2, h12⟩ | h12
        · rw [h12]
          exact fun ρ' w' a' st s' => fin ρ' w' a' st (s'.env0 hwf [])
        · rw [h12]
          exact fun ρ' w' a' st s' => fin ρ' w' a' st s'
      refine calls_of_wp_defers hf hb (hcode _ ?_)
      · clear hcode
        generalize (cCode P (hint f) (od f) code env0).run rec (padTo (hint f).length args) [] h = r2 at hn htok ⊢
        -- the function comes to its end without a panic
        have normal : ∀ {v2 : List AV} {h2 : AH} {cr : CR}, (∀ b, nth i v2 ≠ .tok b) → (cr = match nth i v2 with | .undef => giveBack (fn.results.toList.map (cRes P (hint f))) v2 h2 | .tok b => shutD b (fn.results.toList.map (cRes P (hint f))) v2 h2 | g => leaveRet (fn.results.toList.map (cRes P (hint f))) v2 (runD codeD g .niliface rec h2)) → (∀ n, cr ≠ .fail n) →
            ∀ (ρ' : Emb) (w' : World) (a' : Act), Stp ρ h w ρ' h2 w' → St (hint f) fn.ntmps ρ' env0 v2 [] a' → Leaves P fn a'.tmps (CPost ρ h w cr) a'.defers .returning w' := by
          intro v2 h2 cr hnt hcr hn ρ' w' a' st s'
          have hdf := s'.dfr
          unfold DefOk at hdf
          rw [hd] at hdf
          rcases hdf.2 with ⟨u1, u2⟩ | ⟨g, fa, c, A, C, u1, u2, u3, u4⟩ | ⟨b', l', u1, _⟩
          rotate_left 2
          · rw [← nth_eq] at u1; exact absurd u1 (hnt b')
          · rw [nth_eq, u1] at hcr
            simp only at hcr
            subst hcr
            obtain ⟨v, hv, hg⟩ := giveBack_inv hn
            rw [u2, hg]
            obtain ⟨y, y1, y2⟩ := results st.rel s'.env hv
            exact ⟨y, y1, v, h2, ρ', rfl, st, y2⟩
          · rw [nth_eq, u1] at hcr
            simp only at hcr
            rw [u2]
            cases hr : runD codeD (.fn (.func g) fa c) .niliface rec h2 with
            | fail n => rw [hr] at hcr; exact absurd hcr (hn n)
            | ret h3 =>
              rw [hr] at hcr
              have hcr' : cr = giveBack (fn.results.toList.map (cRes P (hint f))) v2 h3 := hcr
              subst hcr'
              obtain ⟨v, hv, hg⟩ := giveBack_inv hn
              rw [hg]
              refine deferred_ok hD hRg hrec hm st.rel u3 u4 .niliface (.inl ⟨rfl, rfl⟩) hr fun ρ3 w3 st3 => ?_
              obtain ⟨y, y1, y2⟩ := results st3.rel (s'.env.mono st3.le) hv
              exact ⟨y, y1, v, h3, ρ3, rfl, st.trans st3, y2⟩
        cases r2 with
        | ok v2 s2 h2 => exact fun ρ' w' a' st s' => normal (fun b hb => htok ⟨v2, h2, b, .inl ⟨s2, rfl⟩, hb⟩) rfl hn ρ' w' a' st (s'.env0 hwf [])
        | ret v2 h2 => exact fun ρ' w' a' st s' => normal (fun b hb => htok ⟨v2, h2, b, .inr rfl, hb⟩) rfl hn ρ' w' a' st s'
        | ex j v2 h2 => exact absurd rfl (hn 140)
        | pan pv v2 h2 =>
          intro ρ' w' a' y st sp hpv
          have s' := sp.resolve_right fun h9 => by rw [hd] at h9; cases h9.1
          show Leaves P fn a'.tmps _ a'.defers (.panicking [{ v := y, recovered := false }]) w'
          have hcr : ∃ cr, cr = finishD codeD i (fn.results.toList.map (cRes P (hint f))) rec (.pan pv v2 h2) := ⟨_, rfl⟩
          obtain ⟨cr, hcr⟩ := hcr
          rw [← hcr] at hn ⊢
          have hcr : cr = match nth i v2 with | .undef => .pan pv h2 | .tok _ => .fail 161 | g => leaveRet (fn.results.toList.map (cRes P (hint f))) v2 (runD codeD g pv rec h2) := hcr
          have hdf := s'.dfr
          unfold DefOk at hdf
          rw [hd] at hdf
          rcases hdf.2 with ⟨u1, u2⟩ | ⟨g, fa, c, A, C, u1, u2, u3, u4⟩ | ⟨b', l', u1, _⟩
          rotate_left 2
          · rw [nth_eq, u1] at hcr
            simp only at hcr
            exact absurd hcr (hn 161)
          · rw [nth_eq, u1] at hcr
            simp only at hcr
            subst hcr
            rw [u2]
            exact ⟨pv, h2, ρ', y, rfl, rfl, st, hpv⟩
          · rw [nth_eq, u1] at hcr
            simp only at hcr
            rw [u2]
            cases hr : runD codeD (.fn (.func g) fa c) pv rec h2 with
            | fail n => rw [hr] at hcr; exact absurd hcr (hn n)
            | ret h3 =>
              rw [hr] at hcr
              have hcr' : cr = giveBack (fn.results.toList.map (cRes P (hint f))) v2 h3 := hcr
              subst hcr'
              obtain ⟨v, hv, hg⟩ := giveBack_inv hn
              rw [hg]
              refine deferred_ok hD hRg hrec hm st.rel u3 u4 hpv (.inr rfl) hr fun ρ3 w3 st3 => ?_
              obtain ⟨z, z1, z2⟩ := results st3.rel (s'.env.mono st3.le) hv
              exact ⟨z, z1, v, h3, ρ3, rfl, st.trans st3, z2⟩
        | fail n => trivial


theorem cRnd_inv {f : FuncId} {is : List Nat} {c1 c2 : CI} (hc : cRnd P hint f = some (is, c1, c2)) : ∃ fn c ps ia oa bid ib ob, P.funcs[f]? = some fn ∧ fn.body = some c ∧
    rangesOf c = [(ps, .region ia oa false, .block bid (.region ib ob false))] ∧ ps.toList.mapM (fun p => idxOf p (hint f) 0) = some is ∧ oa.toList.all noDefer = true ∧ ob.toList.all noDefer = true ∧ fn.ntmps ≤ slotD ∧
    (∀ p ∈ ps.toList, p < fn.ntmps) ∧ c1 = cOps P (hint f) oa oa.toList env0 ∧ c2 = cOps P (hint f) ob ob.toList env0 := by
  unfold cRnd at hc
  split at hc
  · rename_i fn hf
    split at hc
    · rename_i c hb
      split at hc
      · rename_i ps ia oa bid ib ob hr
        split at hc
        · rename_i is' hm
          cases hk : and (and (oa.toList.all noDefer) (ob.toList.all noDefer)) (and (Nat.ble fn.ntmps slotD) (ps.toList.all fun p => Nat.blt p fn.ntmps)) with
          | false => rw [hk] at hc; cases hc
          | true =>
            rw [hk] at hc
            cases hc
            have k1 := Bool.and_eq_true_iff.1 hk
            have k2 := Bool.and_eq_true_iff.1 k1.1
            have k3 := Bool.and_eq_true_iff.1 k1.2
            exact ⟨fn, c, ps, ia, oa, bid, ib, ob, hf, hb, hr, hm, k2.1, k2.2, ble_iff.1 k3.1, fun p hp => blt_iff.1 (List.all_eq_true.1 k3.2 p hp), rfl, rfl⟩
        · cases hc
      · cases hc
    · cases hc
  · cases hc

theorem setAll_ok (hN : N ≤ slotD) : ∀ (ps : List Nat) {is : List Nat} {xs : List AV} {ys : List Value} {vars : List AV} {a : Act}, ps.mapM (fun p => idxOf p L 0) = some is → xs.length = is.length → xs.length = ys.length →
    (∀ (i : Nat) (x : AV) (y : Value), xs[i]? = some x → ys[i]? = some y → RV ρ x y) → (∀ p ∈ ps, p < N) → St L N ρ env0 vars [] a →
    St L N ρ env0 (setAll is xs vars) [] { a with tmps := (ps.zip ys).foldl (fun t p => t.setIfInBounds p.1 p.2) a.tmps }
  | [], is, xs, ys, vars, a, hm, hl, _, _, _, s => by
    cases hm
    cases xs with
    | nil => exact s
    | cons x xs => cases hl
  | p :: ps, is, xs, ys, vars, a, hm, hl, hl2, hr, hp, s => by
    rw [List.mapM_cons] at hm
    cases hi : idxOf p L 0 with
    | none => rw [hi] at hm; cases hm
    | some i =>
      rw [hi] at hm
      cases hr2 : ps.mapM (fun p => idxOf p L 0) with
      | none => rw [hr2] at hm; cases hm
      | some is' =>
        rw [hr2] at hm
        cases hm
        cases xs with
        | nil => cases hl
        | cons x xs =>
          cases ys with
          | nil => cases hl2
          | cons y ys =>
            have hd : dstOf L (some p) = .var i := by simp only [dstOf, hi]
            have s1 : St L N ρ env0 (upd x i vars) [] (a.put (some p) y) := by
              have e1 := s.env.put wf0 (some p) (hr 0 x y rfl rfl) (fun t ht => by cases ht; rw [s.size]; exact hp p List.mem_cons_self)
              have e2 := s.dfr.put hN (some p) (fun t ht => by cases ht; exact hp p List.mem_cons_self) x y
              rw [hd] at e1 e2
              exact ⟨e1, by rw [put_size]; exact s.size, e2⟩
            have := setAll_ok hN ps (is := is') (xs := xs) (ys := ys) hr2 (by simpa using hl) (by simpa using hl2) (fun j x' y' h1 h2 => hr (j + 1) x' y' (by simpa using h1) (by simpa using h2)) (fun q hq => hp q (List.mem_cons_of_mem _ hq)) s1
            exact this

theorem round2_inv {b : Pos} {c : CI} {r1 : R} (hn : ∀ n, round2 b rec c r1 ≠ .fail n) : ∃ v1 s1 h1 f vs v3 s3 h3 f2 vs2, r1 = .ok v1 s1 h1 ∧ h1.obj b = some (.lp f vs false) ∧ c.run rec v1 [] (h1.put b (.lp f vs true)) = .ok v3 s3 h3 ∧ h3.obj b = some (.lp f2 vs2 true) ∧
    round2 b rec c r1 = .ret .tt (h3.put b (.lp f2 vs2 false)) := by
  cases r1 with
  | ok v1 s1 h1 =>
    unfold round2 at hn ⊢
    simp only at hn ⊢
    split at hn
    case h_2 => exact absurd rfl (hn 165)
    rename_i f vs hob
    cases hr : c.run rec v1 [] (h1.put b (.lp f vs true)) with
    | ok v3 s3 h3 =>
      rw [hr] at hn
      unfold round3 at hn ⊢
      simp only at hn ⊢
      split at hn
      case h_2 => exact absurd rfl (hn 163)
      rename_i f2 vs2 hob2
      exact ⟨v1, s1, h1, f, vs, v3, s3, h3, f2, vs2, rfl, hob, hr, hob2, rfl⟩
    | ex i v3 h3 => rw [hr] at hn; exact absurd rfl (hn 164)
    | ret v3 h3 => rw [hr] at hn; exact absurd rfl (hn 164)
    | pan x v3 h3 => rw [hr] at hn; exact absurd rfl (hn 164)
    | fail n => rw [hr] at hn; exact absurd rfl (hn n)
  | ex i v3 h3 => exact absurd rfl (hn 166)
  | ret v3 h3 => exact absurd rfl (hn 166)
  | pan x v3 h3 => exact absurd rfl (hn 166)
  | fail n => exact absurd rfl (hn n)

theorem mapM_len {f : Nat → Option Nat} : ∀ (ps : List Nat) {is : List Nat}, ps.mapM f = some is → is.length = ps.length
  | [], is, h => by cases h; rfl
  | p :: ps, is, h => by
    rw [List.mapM_cons] at h
    cases h1 : f p with
    | none => rw [h1] at h; cases h
    | some x =>
      rw [h1] at h
      cases h2 : ps.mapM f with
      | none => rw [h2] at h; cases h
      | some l => rw [h2] at h; cases h; simp [mapM_len ps h2]

/-- a round of a loop over a function -/
theorem round_ok {codeR : FuncId → Option (List Nat × CI × CI)} (hCR : ∀ f x, codeR f = some x → cRnd P hint f = some x) (hOp : ∀ f fn c, P.funcs[f]? = some fn → fn.body = some c → codeR f ≠ none → ∀ x ∈ rangesOf c, ∀ ops, (opsOf x.2.1 = some ops ∨ opsOf x.2.2 = some ops) → ops.toList.all (opIn fn.ntmps) = true)
    (hH : Rounds.hint = hint) (hRd : ∀ f ps as bd sz, Rounds.rc f ps as bd sz → ∃ fn c, P.funcs[f]? = some fn ∧ fn.body = some c ∧ (ps, as, bd) ∈ rangesOf c ∧ sz = fn.ntmps) (hrec : RecOk P rec)
    (r : Rel ρ h w) {args : List AV} {vs : Array Value} (ha : ArgsRel ρ args vs) (hn : ∀ n, roundC codeR rec args h ≠ .fail n) : YPost P vs w (CPost ρ h w (roundC codeR rec args h)) := by
  unfold roundC at hn
  split at hn
  case h_2 => exact absurd rfl (hn 169)
  rename_i b xs
  split at hn
  case h_2 => exact absurd rfl (hn 168)
  rename_i f vars hob
  split at hn
  case h_2 => exact absurd rfl (hn 167)
  rename_i is c1 c2 hcr
  have hE : roundC codeR rec (.yld b :: xs) h = ifC (Nat.beq (len xs) (len is)) (round2 b rec c2 (c1.run rec (setAll is xs vars) [] h)) := by
    unfold roundC; simp only [hob, hcr]
  rw [hE]
  cases hle : Nat.beq (len xs) (len is) with
  | false => rw [hle] at hn; exact absurd rfl (hn 149)
  | true =>
  rw [hle] at hn
  have hlen := beq_iff.1 hle
  rw [len_eq, len_eq] at hlen
  change ∀ n, round2 b rec c2 (c1.run rec (setAll is xs vars) [] h) ≠ .fail n at hn
  show YPost P vs w (CPost ρ h w (round2 b rec c2 (c1.run rec (setAll is xs vars) [] h)))
  obtain ⟨v1, s1, h1, f1, vs1, v3, s3, h3, f2, vs2, q1, q2, q3, q4, q5⟩ := round2_inv hn
  rw [q5]
  -- the arguments
  have hl0 := ha.len
  obtain ⟨ys, hys⟩ : ∃ ys : List Value, vs.toList = ys := ⟨_, rfl⟩
  cases ys with
  | nil => have := congrArg List.length hys; simp at this; rw [this] at hl0; simp at hl0
  | cons y0 ys =>
  have hget : ∀ i : Nat, vs[i]? = (y0 :: ys)[i]? := fun i => by rw [← hys, Array.getElem?_toList]
  have hy0 := ha.rel 0 (.yld b) y0 rfl (by rw [hget]; rfl)
  cases hy0 with
  | yld _ l hb =>
  have hvs : vs = #[.func (.yield l.cb) #[] #[]] ++ ys.toArray := Array.ext' (by rw [hys]; simp)
  have hlx : xs.length = ys.length := by
    have := congrArg List.length hys
    rw [Array.length_toList] at this
    simp only [List.length_cons] at this hl0
    omega
  have harg : ∀ (i : Nat) (x : AV) (y : Value), xs[i]? = some x → ys[i]? = some y → RV ρ x y := fun i x y hx hy => ha.rel (i + 1) x y (by simpa using hx) (by rw [hget]; simpa using hy)
  cases r.obj _ _ hob _ hb with
  | lp _ _ _ rc hw0 hs0 hp0 hrc hv0 hd0 =>
  obtain ⟨fn, c, ps, ia, oa, bid, ib, ob, hf, hbd, hrng, hmap, hda, hdb, hN, hpN, rfl, rfl⟩ := cRnd_inv (hCR f _ hcr)
  obtain ⟨fn', c', hf', hbd', hmem, hsz⟩ := hRd f _ _ _ _ hrc
  rw [hf] at hf'
  cases hf'
  rw [hbd] at hbd'
  cases hbd'
  rw [hrng] at hmem
  obtain ⟨hp1, hp2, hp3⟩ : rc.params = ps ∧ rc.assign = .region ia oa false ∧ rc.body = .block bid (.region ib ob false) := by
    have := List.mem_singleton.1 hmem
    simp only [Prod.mk.injEq] at this
    exact this
  have hops := fun x hx => hOp f fn c hf hbd (by rw [hcr]; simp) x (by rw [hrng]; exact hx)
  have ha1 : oa.toList.all (opIn fn.ntmps) = true := hops _ List.mem_cons_self _ (.inl rfl)
  have hb1 : ob.toList.all (opIn fn.ntmps) = true := hops _ List.mem_cons_self _ (.inr rfl)
  rw [hH] at hv0 hd0
  have hpl : is.length = ps.size := by rw [mapM_len _ hmap, Array.length_toList]
  have hy := run_yield (P := P) (args := ys.toArray) hw0 (by rw [hp1, ← hpl]; simp; omega)
  refine ⟨l.cb, ys.toArray, rc.fn, _, rc.assign, rc.body, hvs, hy, ?_⟩
  have sA : St (hint f) fn.ntmps ρ env0 vars [] { tmps := rc.tmps, defers := [] } := by
    refine ⟨fun t ht => hv0 t (by rw [hsz]; exact ht), hsz, ?_⟩
    unfold DefOk
    split
    · rfl
    · rename_i i hi
      obtain ⟨d1, d2⟩ := hd0 i hi
      exact ⟨d1, .inl ⟨by rw [← nth_eq]; exact d2, rfl⟩⟩
  have sB := setAll_ok hN ps.toList hmap hlen hlx harg hpN sA
  have htm : (Array.foldl (fun tmps (x : Tmp × Value) => tmps.setIfInBounds x.1 x.2) rc.tmps (rc.params.zip ys.toArray)) = (ps.toList.zip ys).foldl (fun t p => t.setIfInBounds p.1 p.2) rc.tmps := by
    rw [hp1, ← Array.foldl_toList, Array.toList_zip]
  refine roundIn_of_wpIn trivial ?_
  show rc.assign.wpIn (wideR (some l.cb)) 0 P _ { tmps := Array.foldl (fun tmps (x : Tmp × Value) => tmps.setIfInBounds x.1 x.2) rc.tmps (rc.params.zip ys.toArray), defers := [] } w
  rw [htm, hp2]
  have all_of : ∀ {ops : Array Oper}, ops.toList.all (opIn fn.ntmps) = true → ∀ (j : Nat) (o : Oper), ops[j]? = some o → opIn fn.ntmps o = true := fun h => allIn h
  refine wpIn_region ?_
  rw [List.range_eq_range', show oa.size = oa.toList.length by simp]
  refine plain_ok (ro := some l.cb) hrec hN (all_of ha1) oa.toList 0 (fun j o hj => by rw [Nat.zero_add]; simpa using hj) (.inr hda) (by rw [q1]; intro n hh; cases hh) r wf0 sB ?_
  rw [q1]
  intro ρ1 w1 a1 st1 sC
  show ∃ w₂, (Instr.beginRound l.cb).run P w1 = .ok () w₂ ∧ rc.body.wpIn (wideR (some l.cb)) 0 P _ a1 w₂
  have hb2 := st1.le _ _ hb
  cases st1.rel.obj _ _ q2 _ hb2 with
  | lp _ _ _ r1 hw1 hs1 hp1' hrc1 hv1 hd1 =>
  refine ⟨_, run_beginRound hw1 hs1, ?_⟩
  have hlt1 : l.cb < w1.heap.size := (Array.getElem?_eq_some_iff.1 hw1).1
  have st2 := stp_put st1.rel q2 hb2 (.lp f1 vs1 true) (w1.putObj l.cb (.loop { r1 with state := .busy })) rfl rfl rfl World.putObj_size (fun k hk => World.putObj_heap_other hk)
    (.lp f1 vs1 true { r1 with state := .busy } (World.putObj_heap_same hlt1) rfl hp1' hrc1 hv1 hd1)
  rw [hp3]
  refine wpIn_block (wpIn_region ?_)
  rw [List.range_eq_range', show ob.size = ob.toList.length by simp]
  have sD := (sC.mono st2.le).env0 (wf_ops wf0 oa.toList fun o ho => List.all_eq_true.1 ha1 o ho) []
  refine plain_ok (ro := some l.cb) hrec hN (all_of hb1) ob.toList 0 (fun j o hj => by rw [Nat.zero_add]; simpa using hj) (.inr hdb) (by rw [q3]; intro n hh; cases hh) st2.rel wf0 sD ?_
  rw [q3]
  intro ρ3 w3 a3 st3 sE
  show ∃ v w', (Instr.endRound l.cb none).run P w3 = .ok v w' ∧ CPost ρ h w _ (.returned v) w'
  have hb3 := st3.le _ _ (st2.le _ _ hb2)
  cases st3.rel.obj _ _ q4 _ hb3 with
  | lp _ _ _ r3 hw3 hs3 hp3' hrc3 hv3 hd3 =>
  have hlt3 : l.cb < w3.heap.size := (Array.getElem?_eq_some_iff.1 hw3).1
  have st4 := stp_put st3.rel q4 hb3 (.lp f2 vs2 false) (w3.putObj l.cb (.loop { r3 with state := .ready, pending := none })) rfl rfl rfl World.putObj_size (fun k hk => World.putObj_heap_other hk)
    (.lp f2 vs2 false { r3 with state := .ready, pending := none } (World.putObj_heap_same hlt3) rfl rfl hrc3 hv3 hd3)
  exact ⟨_, _, run_endRound none hw3, .tt, _, ρ3, rfl, ((st1.trans st2).trans st3).trans st4, .tt⟩

/-- what a function that is known by its answers must do -/
def PrimOk (P : Program) (f : FuncId) (p : Rec → List AV → AH → CR) : Prop :=
  ∀ (rec : Rec), RecOk P rec → ∀ (args : List AV) (h : AH), (∀ n, p rec args h ≠ .fail n) → ∀ (ρ : Emb) (w : World) (vs : Array Value), Rel ρ h w → ArgsRel ρ args vs → NextPost P ((callFunc f vs).run P w) (CPost ρ h w (p rec args h))
/-- THE EVALUATOR'S ANSWER HOLDS OF EVERY RUN -/
theorem runN_ok {code : FuncId → Option CFn} {codeR : FuncId → Option (List Nat × CI × CI)} {prim : FuncId → Option (Rec → List AV → AH → CR)} (hC : ∀ f c, code f = some c → cFn P hint od f = some c ∧ fnChk P (hint f) (od f) f = true)
    (hD : ∀ f x, codeD f = some x → cFnD P hint od f = some x ∧ fnChk P (hint f) (od f) f = true) (hRg : ∀ f fn c, P.funcs[f]? = some fn → fn.body = some c → RangesOk P (hint f) (od f) fn.ntmps c)
    (hCR : ∀ f x, codeR f = some x → cRnd P hint f = some x) (hOp : ∀ f fn c, P.funcs[f]? = some fn → fn.body = some c → codeR f ≠ none → ∀ x ∈ rangesOf c, ∀ ops, (opsOf x.2.1 = some ops ∨ opsOf x.2.2 = some ops) → ops.toList.all (opIn fn.ntmps) = true)
    (hH : Rounds.hint = hint) (hRd : ∀ f ps as bd sz, Rounds.rc f ps as bd sz → ∃ fn c, P.funcs[f]? = some fn ∧ fn.body = some c ∧ (ps, as, bd) ∈ rangesOf c ∧ sz = fn.ntmps)
    (hP : ∀ f p, prim f = some p → PrimOk P f p) (hm : P.follows .mixedOrders = true) : ∀ n, RecOk P (runN code codeD codeR prim n) := by
  intro n
  induction n with
  | zero => intro f args h hn; exact absurd rfl (hn 143)
  | succ n ih =>
    intro f args h hn ρ w vs r ha
    have e : runN code codeD codeR prim (n + 1) f args h = @Bool.rec (fun _ => CR) ((cFun code prim f).run codeD (runN code codeD codeR prim n) args h) (roundC codeR (runN code codeD codeR prim n) args h) (Nat.beq f baseY) := rfl
    rw [e] at hn ⊢
    cases hb : Nat.beq f baseY with
    | true =>
      rw [hb] at hn
      exact ⟨fun hne => absurd (beq_iff.1 hb) hne, fun _ => round_ok hCR hOp hH hRd ih r ha hn⟩
    | false =>
      rw [hb] at hn
      refine ⟨fun _ => ?_, fun he => (by rw [he] at hb; cases hb)⟩
      change ∀ n_1, (cFun code prim f).run codeD (runN code codeD codeR prim n) args h ≠ .fail n_1 at hn
      show NextPost P ((callFunc f vs).run P w) (CPost ρ h w ((cFun code prim f).run codeD (runN code codeD codeR prim n) args h))
      unfold cFun at hn ⊢
      cases hp : prim f with
      | some p =>
        rw [hp] at hn
        exact hP f p hp _ ih args h hn ρ w vs r ha
      | none =>
        rw [hp] at hn
        simp only at hn ⊢
        cases hc : code f with
        | none => rw [hc] at hn; exact absurd rfl (hn 142)
        | some c =>
          rw [hc] at hn
          obtain ⟨c1, c2⟩ := hC f c hc
          exact fun_ok c1 c2 hD hRg ih hm r ha hn
end
end Go.Ev
