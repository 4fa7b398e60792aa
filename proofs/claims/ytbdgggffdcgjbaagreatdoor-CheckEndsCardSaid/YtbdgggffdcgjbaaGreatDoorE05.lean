/- A part of the proof that CheckEnds returns true at every number: EvOper EvStep EvYield EvPlain. Conditions: none. -/
import Derived.Test.YtbdgggffdcgjbaaGreatDoorE04
import Derived.RangeFuncIn
import Derived.RangeFuncRecord
set_option linter.all false
set_option linter.unusedVariables false
set_option linter.unusedSectionVars false
set_option linter.unusedSimpArgs false
namespace Go.Ev
set_option autoImplicit false
variable [Rounds]
open Go

structure ArgsRel (ρ : Emb) (args : List AV) (vs : Array Value) : Prop where
  len : args.length = vs.size
  rel : ∀ (i : Nat) (x : AV) (y : Value), args[i]? = some x → vs[i]? = some y → RV ρ x y
/-- what comes of a call, be it carried out at once, entered, or a row -/
def NextPost (P : Program) (res : Result Next) (R : Ending → World → Prop) : Prop :=
  match res with
  | .ok (.value v) w' => R (.returned v) w'
  | .ok (.enter f args) w' => Calls P f args w' R
  | .ok (.row row args) w' => Rows P row args w' fun v w'' => R (.returned v) w''
  | _ => False
def CPost (ρ : Emb) (h : AH) (w : World) (r : CR) : Ending → World → Prop
  | .returned y, w' => ∃ v h' ρ', r = .ret v h' ∧ Stp ρ h w ρ' h' w' ∧ RV ρ' v y
  | .panicked chain, w' => ∃ v h' ρ' y, r = .pan v h' ∧ chain = [{ v := y, recovered := false }] ∧ Stp ρ h w ρ' h' w' ∧ RV ρ' v y
  | .outgrown, _ => False
/-- what comes of a call of a loop's body -/
def YPost (P : Program) (vs : Array Value) (w : World) (R : Ending → World → Prop) : Prop :=
  ∃ (l : Nat) (xs : Array Value) (fn : FuncId) (tmps : Array Value) (assign body : Code), vs = #[.func (.yield l) #[] #[]] ++ xs ∧ (Instr.yield l xs).run P w = .ok (.round l fn tmps assign body) w ∧ RoundIn Fence.wide 0 P l fn tmps assign body w R
/-- what the evaluator says of calls holds -/
def RecOk (P : Program) (rec : Rec) : Prop :=
  ∀ (f : FuncId) (args : List AV) (h : AH), (∀ n, rec f args h ≠ .fail n) → ∀ (ρ : Emb) (w : World) (vs : Array Value), Rel ρ h w → ArgsRel ρ args vs →
    (f ≠ baseY → NextPost P ((callFunc f vs).run P w) (CPost ρ h w (rec f args h))) ∧ (f = baseY → YPost P vs w (CPost ρ h w (rec f args h)))
theorem noY_inv {f : Nat} {r : R} (hn : NF (noY f r)) : f ≠ baseY ∧ noY f r = r := by
  unfold noY at hn ⊢
  cases hb : Nat.beq f baseY with
  | true => rw [hb] at hn; exact absurd rfl (hn 157)
  | false => exact ⟨fun e => (by rw [e] at hb; cases hb), rfl⟩

section
variable {P : Program} {ρ : Emb} {h : AH} {w : World} {k : K} {vars stk : List AV} {L : List Nat}
theorem upon_call {o : Oper} {a : Act} {K : Act → World → Prop} {Q : Exit → Act → World → Prop} {cr : CR} {res : Result Next} (hp : NextPost P res (CPost ρ h w cr))
    (hk : ∀ v h' ρ' w' y, cr = .ret v h' → Stp ρ h w ρ' h' w' → RV ρ' v y → K (a.put o.dst y) w')
    (hq : ∀ v h' ρ' w' y, cr = .pan v h' → Stp ρ h w ρ' h' w' → RV ρ' v y → Q (.panic [{ v := y, recovered := false }]) a w') : o.upon P a K Q res := by
  cases res with
  | halt x w' => exact hp.elim
  | ok n w' =>
    cases n with
    | value v => obtain ⟨x, h', ρ', h1, h2, h3⟩ := hp; exact hk x h' ρ' w' v h1 h2 h3
    | enter f args =>
      refine Calls.mono (show Calls P f args w' _ from hp) fun e w'' he => ?_
      cases e with
      | returned y => obtain ⟨x, h', ρ', h1, h2, h3⟩ := he; exact hk x h' ρ' w'' y h1 h2 h3
      | panicked chain => obtain ⟨x, h', ρ', y, h1, rfl, h2, h3⟩ := he; exact hq x h' ρ' w'' y h1 h2 h3
      | outgrown => exact he.elim
    | row row args =>
      refine Rows.mono (show Rows P row args w' _ from hp) fun y w'' he => ?_
      obtain ⟨x, h', ρ', h1, h2, h3⟩ := he; exact hk x h' ρ' w'' y h1 h2 h3
    | _ => exact hp.elim
theorem afterCall_inv {cr : CR} (hn : NF (afterCall k vars stk cr)) : (∀ n, cr ≠ .fail n) ∧ ((∃ v h', cr = .ret v h' ∧ afterCall k vars stk cr = k v vars stk h') ∨ ∃ v h', cr = .pan v h' ∧ afterCall k vars stk cr = .pan v vars h') := by
  cases cr with
  | ret v h' => exact ⟨(fun n e => by cases e), .inl ⟨v, h', rfl, rfl⟩⟩
  | pan v h' => exact ⟨(fun n e => by cases e), .inr ⟨v, h', rfl, rfl⟩⟩
  | fail n => exact absurd rfl (hn n)
theorem evs_length (gs : List G) : (evs gs vars stk).length = gs.length := by rw [evs_map]; simp
theorem args_of {L : List Nat} {e : SEnv} {ev : Operand → Value} (xs : Array Operand) (h : ∀ y ∈ xs, RV ρ ((res L e y).ev vars stk) (ev y)) : ArgsRel ρ (evs (xs.toList.map (res L e)) vars stk) (xs.map ev) := by
  obtain ⟨h1, h2⟩ := list_of (ρ := ρ) (vars := vars) (stk := stk) (L := L) (e := e) (ev := ev) xs h
  refine ⟨by rw [evs_length, h1], fun i x y hx hy => ?_⟩
  rw [evs_map, List.getElem?_map] at hx
  cases hg : (xs.toList.map (res L e))[i]? with
  | none => rw [hg] at hx; cases hx
  | some g => rw [hg] at hx; cases hx; exact h2 i g y hg hy
theorem ArgsRel.append {a b : List AV} {A B : Array Value} (h1 : ArgsRel ρ a A) (h2 : ArgsRel ρ b B) : ArgsRel ρ (a ++ b) (A ++ B) := by
  refine ⟨by simp [h1.len, h2.len], fun i x y hx hy => ?_⟩
  rcases Nat.lt_or_ge i a.length with hlt | hge
  · rw [List.getElem?_append_left hlt] at hx
    rw [Array.getElem?_append_left (by rw [← h1.len]; exact hlt)] at hy
    exact h1.rel i x y hx hy
  · rw [List.getElem?_append_right hge] at hx
    rw [Array.getElem?_append_right (by rw [← h1.len]; exact hge), ← h1.len] at hy
    exact h2.rel _ x y hx hy
theorem ArgsRel.one {x : AV} {y : Value} (h : RV ρ x y) : ArgsRel ρ [x] #[y] := by
  refine ⟨rfl, fun i x' y' hx hy => ?_⟩
  cases i with
  | zero => cases hx; cases hy; exact h
  | succ i => simp at hx

theorem pickM_inv {f : FuncId → CR} {t : Nat} : ∀ {tbl : List (Nat × FuncId)}, (∀ n, pickM f t tbl ≠ .fail n) → ∃ g, (t, g) ∈ tbl ∧ pickM f t tbl = f g
  | [], hn => absurd rfl (hn 74)
  | p :: r, hn => by
    have e : pickM f t (p :: r) = @Bool.rec (fun _ => CR) (pickM f t r) (f p.2) (Nat.beq p.1 t) := rfl
    cases hb : Nat.beq p.1 t with
    | true =>
      have := beq_iff.1 hb
      refine ⟨p.2, by rw [← this]; exact List.mem_cons_self, by rw [e, hb]⟩
    | false =>
      rw [hb] at e
      obtain ⟨g, h1, h2⟩ := pickM_inv (f := f) (t := t) (tbl := r) (fun n hh => hn n (e.trans hh))
      exact ⟨g, List.mem_cons_of_mem _ h1, e.trans h2⟩
theorem method_run {name : String} {t : Nat} {g : FuncId} (hm : (t, g) ∈ methodsOf P name) (v : Value) (n : Nat) : (method (n + 1) t v name).run P w = .ok (g, v) w := by
  unfold methodsOf at hm
  obtain ⟨t', _, h2⟩ := List.mem_filterMap.1 hm
  split at h2
  · rename_i i hi
    split at h2
    · rename_i m hfind
      split at h2
      · rename_i f p hsz hfn
        cases hc0 : and (not (Nat.beq f baseY)) (and (p == isPtrT P t') (P.underlying t').isSome) with
        | false => rw [hc0] at h2; cases h2
        | true =>
          rw [hc0] at h2
          cases h2
          have hc := (Bool.and_eq_true_iff.1 hc0).2
          have hpath : m.path.toList = [] := by
            have : m.path.size = 0 := hsz
            exact List.length_eq_zero_iff.1 (by rw [Array.length_toList]; exact this)
          have hc := Bool.and_eq_true_iff.1 hc
          have hp := beq_iff_eq.1 hc.1
          unfold isPtrT at hp
          have hfind' : i.methods.find? (fun x => x.name == name) = some m := hfind
          cases hu : P.underlying t with
          | none => rw [hu] at hc; exact absurd hc.2 (by simp)
          | some d =>
            rw [hu] at hp
            simp only [method, typeInfo, Sem.run_bind, run_program, hi, Sem.run_pure, Result.andThen_ok, hfind', hpath, follow, hfn, receiverAt, underlying, hu]
            cases d <;> simp only at hp <;> subst hp <;> simp [Place.get]
      · cases h2
    · cases h2
  · cases h2

theorem method_ne {name : String} {t : Nat} {g : FuncId} (hm : (t, g) ∈ methodsOf P name) : g ≠ baseY := by
  unfold methodsOf at hm
  obtain ⟨t', _, h2⟩ := List.mem_filterMap.1 hm
  split at h2
  · split at h2
    · split at h2
      · rename_i f p hsz hfn
        cases hc0 : and (not (Nat.beq f baseY)) (and (p == isPtrT P t') (P.underlying t').isSome) with
        | false => rw [hc0] at h2; cases h2
        | true =>
          rw [hc0] at h2
          cases h2
          have h3 := (Bool.and_eq_true_iff.1 hc0).1
          intro e
          rw [e] at h3
          cases h3
      · cases h2
    · cases h2
  · cases h2

theorem cOp_kind {e : SEnv} {op : Op} {c : COp} (hc : cOp P L e op = c) (hp : plainC c = false) (hs : stepC c = true) :
    (∃ x, op = .panic x ∧ c = .panic (res L e x)) ∨ (∃ (cl : Call) (f : FuncId), op = .call cl ∧ cl.callee = .value (.func f) ∧ f ≠ baseY ∧ c = .callS f (cl.args.toList.map (res L e))) ∨
    (∃ (cl : Call) (x : Operand), op = .call cl ∧ cl.callee = .value x ∧ c = .callV (res L e x) (cl.args.toList.map (res L e))) ∨
    (∃ (cl : Call) (x : Operand) (m : String), op = .call cl ∧ cl.callee = .invoke x m ∧ c = .callM (methodsOf P m) (res L e x) (cl.args.toList.map (res L e))) := by
  cases op <;> simp only [cOp, cBin, cTuple] at hc
  case panic x => exact .inl ⟨x, rfl, hc.symm⟩
  case call cl =>
    split at hc
    · rename_i f hf
      rcases mkCallS_or f (cl.args.toList.map (res L e)) with h1 | ⟨h0, h1⟩
      · rw [h1] at hc; subst hc; cases hs
      · exact .inr (.inl ⟨cl, f, rfl, hf, h0, (h1.symm.trans hc).symm⟩)
    · rename_i x _ hx; exact .inr (.inr (.inl ⟨cl, x, rfl, hx, hc.symm⟩))
    · rename_i x m hx; exact .inr (.inr (.inr ⟨cl, x, m, rfl, hx, hc.symm⟩))
    · split at hc
      · rcases cBuiltin_kind hc with h1 | ⟨n, rfl⟩
        · rw [h1] at hp; cases hp
        · cases hs
      · subst hc; cases hs
  case makeMap t rs => cases rs <;> simp only [] at hc <;> (subst hc; first | (cases hs; done) | (cases hp; done))
  case next it s => cases s <;> simp only [cond_true, cond_false] at hc <;> (subst hc; first | (cases hs; done) | (cases hp; done))
  all_goals (repeat' split at hc)
  all_goals (subst hc; first | (cases hs; done) | (cases hp; done))
theorem arg_mem {cl : Call} {y : Operand} (hy : y ∈ cl.args) : y ∈ (Op.call cl).operands := by
  show y ∈ cl.operands
  unfold Call.operands
  exact Array.mem_append.2 (.inr hy)
theorem extract_cons (v : Value) (xs : Array Value) : (#[v] ++ xs).extract 1 (#[v] ++ xs).size = xs := by
  apply Array.ext'
  simp
theorem first_cons (v : Value) (xs : Array Value) : (#[v] ++ xs)[0]? = some v := by
  rw [Array.getElem?_append_left (by simp)]; rfl
theorem oper_ok {rec : Rec} (hrec : RecOk P rec) (r : Rel ρ h w) {e : SEnv} {a : Act} (o : Oper) (hev : ∀ x ∈ o.op.operands, RV ρ ((res L e x).ev vars stk) (a.eval x)) {c : COp} (hc : cOp P L e o.op = c) (hs : stepC c = true) (hn : NF (runOp c rec k vars stk h))
    {K : Act → World → Prop} {Q : Exit → Act → World → Prop}
    (hk : ∀ v h' ρ' w' y, runOp c rec k vars stk h = k v vars stk h' → Stp ρ h w ρ' h' w' → RV ρ' v y → K (a.put o.dst y) w')
    (hq : ∀ v h' ρ' w' y, runOp c rec k vars stk h = .pan v vars h' → Stp ρ h w ρ' h' w' → RV ρ' v y → Q (.panic [{ v := y, recovered := false }]) a w') :
    o.wp P a w K Q := by
  unfold Oper.wp
  by_cases hp : plainC c = true
  · obtain ⟨v, h', ρ', w', n, h1, h2, h3, h4⟩ := cOp_ok (k := k) (rec := rec) L e r o a.eval hev hc hp hn
    rw [h3]
    rcases h4 with ⟨y, rfl, hv⟩ | ⟨rfl, rfl⟩
    · exact hk v h' ρ' w' y h1 h2 hv
    · exact hk .undef h' ρ' w' undef h1 h2 (.undef _)
  · rcases cOp_kind hc (by simpa using hp) hs with ⟨x, ho, rfl⟩ | ⟨cl, f, ho, hcal, hne, rfl⟩ | ⟨cl, x, ho, hcal, rfl⟩ | ⟨cl, x, m, ho, hcal, rfl⟩
    · have hx := hev x (by rw [ho]; simp [Op.operands])
      change NF (panicC (res L e x) vars stk h) at hn
      unfold panicC at hn
      split at hn
      · rename_i t v hv
        rw [hv] at hx
        generalize hX : a.eval x = X at hx
        have hrun : (execOp a.eval o).run P w = .halt (.panic X) w := by
          cases hx with
          | iface _ _ y hy =>
            unfold execOp
            rw [ho]
            simp only [Sem.run_bind, hX, Instr.panic, goPanic]
            rfl
        rw [hrun]
        refine hq (.iface t v) h ρ w X ?_ (Stp.refl r) hx
        show panicC (res L e x) vars stk h = _
        unfold panicC; simp only [hv]
      · exact absurd rfl (hn _)
    · have ha := args_of (ρ := ρ) (vars := vars) (stk := stk) (L := L) (e := e) (ev := a.eval) cl.args (fun y hy => hev y (by rw [ho]; exact arg_mem hy))
      obtain ⟨i1, i2⟩ := afterCall_inv (k := k) (vars := vars) (stk := stk) hn
      have hrun : (execOp a.eval o).run P w = (callFunc f (cl.args.map a.eval)).run P w := by
        unfold execOp
        rw [ho]
        simp only [resolve, hcal, Act.eval, Deferred.ofValue, Sem.run_bind, Sem.run_pure, Result.andThen_ok, invoke, Array.append_empty, Array.empty_append]
      rw [hrun]
      have := (hrec f _ h i1 ρ w _ r ha).1 hne
      rcases i2 with ⟨v, h', h1, h2⟩ | ⟨v, h', h1, h2⟩
      · exact upon_call this (fun v' h'' ρ' w' y e1 => by rw [h1] at e1; cases e1; exact hk v h' ρ' w' y h2) (fun v' h'' ρ' w' y e1 => by rw [h1] at e1; cases e1)
      · exact upon_call this (fun v' h'' ρ' w' y e1 => by rw [h1] at e1; cases e1) (fun v' h'' ρ' w' y e1 => by rw [h1] at e1; cases e1; exact hq v h' ρ' w' y h2)
    · have ha := args_of (ρ := ρ) (vars := vars) (stk := stk) (L := L) (e := e) (ev := a.eval) cl.args (fun y hy => hev y (by rw [ho]; exact arg_mem hy))
      have hx := hev x (by rw [ho]; show x ∈ cl.operands; unfold Call.operands; rw [hcal]; simp)
      change NF (onFn ((res L e x).ev vars stk) (callFn (cl.args.toList.map (res L e)) rec) k vars stk h) at hn
      obtain ⟨g, fi, ca, hv⟩ := onFn_inv hn
      rw [hv] at hx hn
      change NF (callFn (cl.args.toList.map (res L e)) rec g fi ca k vars stk h) at hn
      have hrunE : runOp (.callV (res L e x) (cl.args.toList.map (res L e))) rec k vars stk h = callFn (cl.args.toList.map (res L e)) rec g fi ca k vars stk h := by
        show onFn ((res L e x).ev vars stk) (callFn (cl.args.toList.map (res L e)) rec) k vars stk h = _
        rw [hv]; rfl
      generalize hX : a.eval x = X at hx
      cases hx with
      | fn _ _ _ A C hA hC h1 h2 =>
        cases g with
        | func f =>
          obtain ⟨hne, hnY⟩ := noY_inv (show NF (noY f (afterCall k vars stk (rec f (app (app ca (evs (cl.args.toList.map (res L e)) vars stk)) fi) h))) from hn)
          have hrunE := hrunE.trans hnY
          obtain ⟨i1, i2⟩ := afterCall_inv (k := k) (vars := vars) (stk := stk) (show NF (afterCall k vars stk (rec f (app (app ca (evs (cl.args.toList.map (res L e)) vars stk)) fi) h)) from (by rw [← hnY]; exact hn))
          have hrun : (execOp a.eval o).run P w = (callFunc f ((A ++ cl.args.map a.eval) ++ C)).run P w := by
            unfold execOp
            rw [ho]
            simp only [resolve, hcal, hX, Deferred.ofValue, Sem.run_bind, Sem.run_pure, Result.andThen_ok, invoke]
          rw [hrun]
          have ha2 : ArgsRel ρ (app (app ca (evs (cl.args.toList.map (res L e)) vars stk)) fi) ((A ++ cl.args.map a.eval) ++ C) := by
            rw [app_eq, app_eq, ← List.append_assoc]
            exact ((⟨hA, h1⟩ : ArgsRel ρ fi A).append ha).append ⟨hC, h2⟩
          have := (hrec f _ h i1 ρ w _ r ha2).1 hne
          rcases i2 with ⟨v, h', h1, h2⟩ | ⟨v, h', h1, h2⟩
          · exact upon_call this (fun v' h'' ρ' w' y e1 => by rw [h1] at e1; cases e1; exact hk v h' ρ' w' y (hrunE.trans h2)) (fun v' h'' ρ' w' y e1 => by rw [h1] at e1; cases e1)
          · exact upon_call this (fun v' h'' ρ' w' y e1 => by rw [h1] at e1; cases e1) (fun v' h'' ρ' w' y e1 => by rw [h1] at e1; cases e1; exact hq v h' ρ' w' y (hrunE.trans h2))
        | _ => exact absurd rfl (hn _)
    · have ha := args_of (ρ := ρ) (vars := vars) (stk := stk) (L := L) (e := e) (ev := a.eval) cl.args (fun y hy => hev y (by rw [ho]; exact arg_mem hy))
      have hx := hev x (by rw [ho]; show x ∈ cl.operands; unfold Call.operands; rw [hcal]; simp)
      change NF (onIface ((res L e x).ev vars stk) (callM2 (methodsOf P m) (cl.args.toList.map (res L e)) rec) k vars stk h) at hn
      obtain ⟨t, v0, hv⟩ := onIface_inv hn
      rw [hv] at hx hn
      change NF (callM2 (methodsOf P m) (cl.args.toList.map (res L e)) rec t v0 k vars stk h) at hn
      have hrunE : runOp (.callM (methodsOf P m) (res L e x) (cl.args.toList.map (res L e))) rec k vars stk h = callM2 (methodsOf P m) (cl.args.toList.map (res L e)) rec t v0 k vars stk h := by
        show onIface ((res L e x).ev vars stk) (callM2 (methodsOf P m) (cl.args.toList.map (res L e)) rec) k vars stk h = _
        rw [hv]; rfl
      unfold callM2 at hn hrunE
      obtain ⟨i1, i2⟩ := afterCall_inv (k := k) (vars := vars) (stk := stk) hn
      obtain ⟨g, g1, g2⟩ := pickM_inv i1
      rw [g2] at i1 i2
      generalize hX : a.eval x = X at hx
      cases hx with
      | iface _ _ y hy =>
        have hrun : (execOp a.eval o).run P w = (callFunc g (#[y] ++ cl.args.map a.eval)).run P w := by
          unfold execOp
          rw [ho]
          have hm : ∀ n, (method (n + 1) t y m).run P w = .ok (g, y) w := fun n => method_run g1 y n
          have hex := extract_cons (.iface t y) (cl.args.map a.eval)
          have h0 := first_cons (.iface t y) (cl.args.map a.eval)
          simp only [resolve, hcal, hX, Sem.run_bind, Sem.run_pure, Result.andThen_ok, invoke, h0, hex, callMethod, run_program, Made.depth]
          rw [hm]
          rfl
        rw [hrun]
        have ha2 : ArgsRel ρ (v0 :: evs (cl.args.toList.map (res L e)) vars stk) (#[y] ++ cl.args.map a.eval) := (ArgsRel.one hy).append ha
        have := (hrec g _ h i1 ρ w _ r ha2).1 (method_ne g1)
        rcases i2 with ⟨v, h', h1, h2⟩ | ⟨v, h', h1, h2⟩
        · exact upon_call this (fun v' h'' ρ' w' y e1 => by rw [h1] at e1; cases e1; exact hk v h' ρ' w' y (by rw [hrunE, g2]; exact h2)) (fun v' h'' ρ' w' y e1 => by rw [h1] at e1; cases e1)
        · exact upon_call this (fun v' h'' ρ' w' y e1 => by rw [h1] at e1; cases e1) (fun v' h'' ρ' w' y e1 => by rw [h1] at e1; cases e1; exact hq v h' ρ' w' y (by rw [hrunE, g2]; exact h2))
end
end Go.Ev
namespace Go.Ev
set_option autoImplicit false
variable [Rounds]
open Go

/-- slots within bounds -/
def opIn (N : Nat) (o : Oper) : Bool := o.op.operands.toList.all (inN N) && (match o.dst with | some t => Nat.blt t N | none => true)
theorem opIn_ops {N : Nat} {o : Oper} (h : opIn N o = true) : ∀ x ∈ o.op.operands, inN N x = true := by
  have := (Bool.and_eq_true_iff.1 h).1
  rw [List.all_eq_true] at this
  exact fun x hx => this x (Array.mem_toList_iff.2 hx)
theorem opIn_dst {N : Nat} {o : Oper} (h : opIn N o = true) : ∀ t, o.dst = some t → t < N := by
  have := (Bool.and_eq_true_iff.1 h).2
  intro t ht
  rw [ht] at this
  exact blt_iff.1 this
/-- the deferred call that waits, if any -/
def DefOk (L : List Nat) (ρ : Emb) (vars : List AV) (a : Act) : Prop :=
  match idxOf slotD L 0 with
  | none => a.defers = []
  | some i => i < vars.length ∧ ((vars.getD i .undef = .undef ∧ a.defers = []) ∨
      (∃ f fa c A C, vars.getD i .undef = .fn (.func f) fa c ∧ a.defers = [{ target := .fn (.func f) C, args := A }] ∧ ArgsRel ρ fa A ∧ ArgsRel ρ c C) ∨
      ∃ b l, vars.getD i .undef = .tok b ∧ ρ b = some l ∧ a.defers = [{ target := .collected l.cb, args := #[] }])
structure St (L : List Nat) (N : Nat) (ρ : Emb) (e : SEnv) (vars stk : List AV) (a : Act) : Prop where
  env : EnvOk L N e ρ vars stk a
  size : a.tmps.size = N
  dfr : DefOk L ρ vars a

section
variable {P : Program} {ρ : Emb} {h : AH} {w : World} {k : K} {vars stk : List AV} {L : List Nat} {N : Nat}
theorem ArgsRel.mono {ρ' : Emb} (hle : ρ.le ρ') {l : List AV} {A : Array Value} (a : ArgsRel ρ l A) : ArgsRel ρ' l A := ⟨a.len, fun i x y hx hy => (a.rel i x y hx hy).mono hle⟩
theorem DefOk.mono {ρ' : Emb} (hle : ρ.le ρ') {a : Act} (d : DefOk L ρ vars a) : DefOk L ρ' vars a := by
  unfold DefOk at d ⊢
  split
  · rename_i hi; rw [hi] at d; exact d
  · rename_i i hi
    rw [hi] at d
    refine ⟨d.1, ?_⟩
    rcases d.2 with d | ⟨f, fa, c, A, C, d1, d2, d3, d4⟩ | ⟨b, l, d1, d2, d3⟩
    · exact .inl d
    · exact .inr (.inl ⟨f, fa, c, A, C, d1, d2, d3.mono hle, d4.mono hle⟩)
    · exact .inr (.inr ⟨b, l, d1, hle _ _ d2, d3⟩)
theorem DefOk.put' (hN : N ≤ slotD) {a a' : Act} (hd : a'.defers = a.defers) (d : DefOk L ρ vars a) (o : Option Tmp) (ho : ∀ t, o = some t → t < N) (v : AV) : DefOk L ρ ((dstOf L o).vs v vars) a' := by
  have hv : ∀ i, idxOf slotD L 0 = some i → ((dstOf L o).vs v vars).getD i .undef = vars.getD i .undef := by
    intro i hi
    cases o with
    | none => rfl
    | some t =>
      cases ht : idxOf t L 0 with
      | none => rw [show dstOf L (some t) = .push t by simp only [dstOf, ht]]; rfl
      | some j =>
        rw [show dstOf L (some t) = .var j by simp only [dstOf, ht]]
        show (upd v j vars).getD i .undef = _
        rw [upd_getD, if_neg]
        rintro ⟨rfl, _⟩
        have h1 := idxOf_inj ht hi
        have h2 := ho t rfl
        rw [h1] at h2
        exact absurd (Nat.lt_of_lt_of_le h2 hN) (Nat.lt_irrefl _)
  unfold DefOk at d ⊢
  split
  · rename_i hi; rw [hi] at d; rw [hd]; exact d
  · rename_i i hi
    rw [hi] at d
    simp only [hv i hi, hd]
    have hl : ((dstOf L o).vs v vars).length = vars.length := by cases dstOf L o <;> first | rfl | (show (upd v _ vars).length = _; rw [upd_eq, List.length_set])
    rw [hl]
    exact d
theorem DefOk.put (hN : N ≤ slotD) {a : Act} (d : DefOk L ρ vars a) (o : Option Tmp) (ho : ∀ t, o = some t → t < N) (v : AV) (y : Value) : DefOk L ρ ((dstOf L o).vs v vars) (a.put o y) := by
  have hd : (a.put o y).defers = a.defers := by cases o <;> rfl
  have hv : ∀ i, idxOf slotD L 0 = some i → ((dstOf L o).vs v vars).getD i .undef = vars.getD i .undef := by
    intro i hi
    cases o with
    | none => rfl
    | some t =>
      cases ht : idxOf t L 0 with
      | none => rw [show dstOf L (some t) = .push t by simp only [dstOf, ht]]; rfl
      | some j =>
        rw [show dstOf L (some t) = .var j by simp only [dstOf, ht]]
        show (upd v j vars).getD i .undef = _
        rw [upd_getD, if_neg]
        rintro ⟨rfl, _⟩
        have h1 := idxOf_inj ht hi
        have h2 := ho t rfl
        rw [h1] at h2
        exact absurd (Nat.lt_of_lt_of_le h2 hN) (Nat.lt_irrefl _)
  unfold DefOk at d ⊢
  split
  · rename_i hi; rw [hi] at d; rw [hd]; exact d
  · rename_i i hi
    rw [hi] at d
    simp only [hv i hi, hd]
    have hl : ((dstOf L o).vs v vars).length = vars.length := by cases dstOf L o <;> first | rfl | (show (upd v _ vars).length = _; rw [upd_eq, List.length_set])
    rw [hl]
    exact d
theorem St.put (hN : N ≤ slotD) {e : SEnv} (hw : WF L N e) {a : Act} (s : St L N ρ e vars stk a) {ρ' : Emb} (hle : ρ.le ρ') {o : Oper} (hin : opIn N o = true) {v : AV} {y : Value} (hv : RV ρ' v y) :
    St L N ρ' (e.after (dstOf L o.dst)) ((dstOf L o.dst).vs v vars) ((dstOf L o.dst).ss v stk) (a.put o.dst y) :=
  ⟨(s.env.mono hle).put hw o.dst hv fun t ht => by rw [s.size]; exact opIn_dst hin t ht, by rw [put_size]; exact s.size, (s.dfr.mono hle).put hN o.dst (opIn_dst hin) v y⟩

theorem cOp_step {e : SEnv} {op : Op} {c : COp} (hc : cOp P L e op = c) : stepC c = true ∨ (∃ n, c = .bad n) ∨ ∃ (cl : Call) (x : Operand) (i : Nat), op = .defer cl ∧ cl.callee = .value x ∧ cl.args.size = 0 ∧ idxOf slotD L 0 = some i ∧ c = .defer i (res L e x) := by
  cases op <;> simp only [cOp, cBin, cTuple] at hc
  case defer cl =>
    split at hc
    · rename_i x i h1 h2 h3; exact .inr (.inr ⟨cl, x, i, rfl, h1, h2, h3, hc.symm⟩)
    · exact .inr (.inl ⟨_, hc.symm⟩)
  case makeMap t rs => cases rs <;> simp only [] at hc <;> (subst hc; first | exact .inl rfl | exact .inr (.inl ⟨_, rfl⟩))
  case next it s => cases s <;> simp only [cond_true, cond_false] at hc <;> (subst hc; first | exact .inl rfl | exact .inr (.inl ⟨_, rfl⟩))
  case call cl =>
    split at hc
    · rename_i f hf
      rcases mkCallS_or f (cl.args.toList.map (res L e)) with h1 | ⟨_, h1⟩ <;> (rw [h1] at hc; subst hc; first | exact .inl rfl | exact .inr (.inl ⟨_, rfl⟩))
    · subst hc; exact .inl rfl
    · subst hc; exact .inl rfl
    · split at hc
      · rcases cBuiltin_kind hc with h1 | ⟨n, h1⟩
        · left; cases c <;> first | rfl | cases h1
        · exact .inr (.inl ⟨n, h1⟩)
      · subst hc; exact .inr (.inl ⟨_, rfl⟩)
  all_goals (repeat' split at hc)
  all_goals (subst hc; first | exact .inl rfl | exact .inr (.inl ⟨_, rfl⟩))

/-- one operation -/
theorem op_step {rec : Rec} (hrec : RecOk P rec) (hN : N ≤ slotD) (r : Rel ρ h w) {e : SEnv} (hw : WF L N e) {a : Act} (s : St L N ρ e vars stk a) (o : Oper) (hin : opIn N o = true) {nx : Clos}
    (hn : NF (runOp (cOp P L e o.op) rec ((dstOf L o.dst).k nx rec) vars stk h)) {K : Act → World → Prop} {Q : Exit → Act → World → Prop}
    (hk : ∀ vars' stk' h' ρ' w' a', runOp (cOp P L e o.op) rec ((dstOf L o.dst).k nx rec) vars stk h = nx rec vars' stk' h' → Stp ρ h w ρ' h' w' → St L N ρ' (e.after (dstOf L o.dst)) vars' stk' a' → K a' w')
    (hq : ∀ v h' ρ' w' y, runOp (cOp P L e o.op) rec ((dstOf L o.dst).k nx rec) vars stk h = .pan v vars h' → Stp ρ h w ρ' h' w' → RV ρ' v y → Q (.panic [{ v := y, recovered := false }]) a w') :
    o.wp P a w K Q := by
  rcases cOp_step (P := P) (L := L) (e := e) (op := o.op) rfl with hs | ⟨n, hb⟩ | ⟨cl, x, i, ho, hcal, hsz, hi, hc⟩
  · refine oper_ok hrec r o (fun x hx => s.env.operand (opIn_ops hin x hx)) rfl hs hn (fun v h' ρ' w' y h1 h2 h3 => ?_) hq
    rw [dst_k] at h1
    exact hk _ _ h' ρ' w' _ h1 h2 (s.put hN hw h2.le hin h3)
  · rw [hb] at hn; exact absurd rfl (hn n)
  · rw [hc] at hn hk
    change NF (deferC i (res L e x) ((dstOf L o.dst).k nx rec) vars stk h) at hn
    unfold deferC at hn
    have hx := s.env.operand (opIn_ops hin x (by rw [ho]; show x ∈ cl.operands; unfold Call.operands; rw [hcal]; simp))
    split at hn
    · rename_i f fa c hv1 hv2
      rw [hv2] at hx
      generalize hX : a.eval x = X at hx
      cases hx with
      | fn _ _ _ A C hA hC h1 h2 =>
      have hrun : (execOp a.eval o).run P w = .ok (.defer { target := .fn (.func f) C, args := A }) w := by
        unfold execOp
        rw [ho]
        have hargs : cl.args.map a.eval = #[] := by
          have := Array.eq_empty_of_size_eq_zero hsz
          rw [this]; exact Array.map_empty
        simp only [resolve, hcal, hX, Deferred.ofValue, Sem.run_bind, Sem.run_pure, Result.andThen_ok, hargs, Array.append_empty]
      unfold Oper.wp
      rw [hrun]
      show K _ w
      have h0 : a.defers = [] ∧ i < vars.length ∨ True := .inr trivial
      have hd := s.dfr
      unfold DefOk at hd
      rw [hi] at hd
      rw [nth_eq] at hv1
      simp only at hd
      have hde : a.defers = [] := by
        rcases hd.2 with ⟨_, h⟩ | ⟨f', fa', c', A', C', h, _⟩ | ⟨b', l', h, _⟩
        · exact h
        · rw [hv1] at h; cases h
        · rw [hv1] at h; cases h
      have hrunE : runOp (.defer i (res L e x)) rec ((dstOf L o.dst).k nx rec) vars stk h = nx rec ((dstOf L o.dst).vs .undef (upd (.fn (.func f) fa c) i vars)) ((dstOf L o.dst).ss .undef stk) h := by
        show deferC i (res L e x) ((dstOf L o.dst).k nx rec) vars stk h = _
        unfold deferC
        rw [nth_eq, hv1, hv2]
        show (dstOf L o.dst).k nx rec .undef (upd (.fn (.func f) fa c) i vars) stk h = _
        rw [dst_k]
      have s1 : St L N ρ e (upd (.fn (.func f) fa c) i vars) stk { a with defers := [{ target := .fn (.func f) C, args := A }] } := by
        refine ⟨fun t ht => ?_, s.size, ?_⟩
        · have h1 := s.env t ht
          have : (Act.eval { a with defers := [{ target := .fn (.func f) C, args := A }] } (.tmp t)) = a.eval (.tmp t) := rfl
          rw [this]
          have hsg := sig_other (vars := vars) (stk := stk) hw hi hN (.fn (.func f) fa c) ht
          rw [hsg]; exact h1
        · unfold DefOk
          rw [hi]
          simp only
          refine ⟨by rw [upd_eq, List.length_set]; exact hd.1, .inr (.inl ⟨f, fa, c, A, C, by rw [upd_getD, if_pos ⟨rfl, hd.1⟩], rfl, ⟨hA, h1⟩, ⟨hC, h2⟩⟩)⟩
      have s2 := s1.put hN hw (fun _ _ e => e) hin (v := .undef) (y := undef) (.undef _)
      rw [hde]
      exact hk _ _ h ρ w _ hrunE (Stp.refl r) s2
    · exact absurd rfl (hn _)
end
end Go.Ev
namespace Go.Ev
set_option autoImplicit false
variable [Rounds]
open Go

/-- every function may be called; a frame is a round's of this loop, or a plain one -/
def wideR (ro : Option Nat) : Fence := { Fence.wide with round := ro }
section
variable {P : Program} {ρ : Emb} {h : AH} {w : World} {k : K} {vars stk : List AV} {L : List Nat} {N : Nat} {K : Act → World → Prop} {Q : Exit → Act → World → Prop} {ro : Option Nat}
theorem semAt_ro {a : Act} {o : Oper} (hro : ro = none ∨ noDefer o = true) : o.semAt ro a.eval = execOp a.eval o := by
  rcases hro with rfl | hd
  · rfl
  · exact Oper.semAt_eq _ _ _ fun c hc => by unfold noDefer at hd; rw [hc] at hd; cases hd
theorem callsIn_wideR {f : FuncId} {args : Array Value} {R : Ending → World → Prop} (h : Calls P f args w R) : CallsIn (wideR ro) 0 P f args w R := (callsIn_wide (n := 0)).2 h
theorem rowsIn_wideR {row : String} {args : Array Value} {R : Value → World → Prop} (h : Rows P row args w R) : RowsIn (wideR ro) 0 P row args w R :=
  fun c cs _ => let ⟨v, w', r, s⟩ := h c cs; ⟨v, w', r, stepsIn_wide.2 s⟩
theorem wpIn_of_wp {a : Act} {o : Oper} (h : o.wp P a w K Q) (hro : ro = none ∨ noDefer o = true) : o.wpIn (wideR ro) 0 P a w K Q := by
  refine ⟨fun _ _ => trivial, ?_⟩
  show o.uponIn (wideR ro) 0 P a K Q ((o.semAt ro a.eval).run P w)
  rw [semAt_ro hro]
  unfold Oper.wp at h
  generalize (execOp a.eval o).run P w = res at h
  cases res with
  | ok n w' =>
    cases n with
    | enter f args => exact ⟨fun hh => (by cases hh), callsIn_wideR h⟩
    | row row args => exact ⟨fun hh => (by cases hh), rowsIn_wideR h⟩
    | _ => first | exact h | exact h.elim
  | halt x w' => cases x <;> first | exact h | exact h.elim
theorem upon_round {a : Act} {o : Oper} {cr : CR} {l : Nat} {fn : FuncId} {tmps : Array Value} {assign body : Code} {w' : World} (hp : RoundIn Fence.wide 0 P l fn tmps assign body w' (CPost ρ h w cr))
    (hk : ∀ v h' ρ' w' y, cr = .ret v h' → Stp ρ h w ρ' h' w' → RV ρ' v y → K (a.put o.dst y) w')
    (hq : ∀ v h' ρ' w' y, cr = .pan v h' → Stp ρ h w ρ' h' w' → RV ρ' v y → Q (.panic [{ v := y, recovered := false }]) a w') : o.uponIn (wideR ro) 0 P a K Q (.ok (.round l fn tmps assign body) w') := by
  refine ⟨fun hh => (by cases hh), ?_⟩
  refine RoundIn.mono (F := wideR ro) (n := 0) (show RoundIn (wideR ro) 0 P l fn tmps assign body w' _ from hp) fun e w'' he => ?_
  cases e with
  | returned y => obtain ⟨x, h', ρ', h1, h2, h3⟩ := he; exact hk x h' ρ' w'' y h1 h2 h3
  | panicked chain => obtain ⟨x, h', ρ', y, h1, rfl, h2, h3⟩ := he; exact hq x h' ρ' w'' y h1 h2 h3
  | outgrown => exact he.elim
theorem yop_or (c : COp) : yop c = c ∨ ∃ g args, c = .callV g args ∧ yop c = .callY g args := by
  cases c <;> first | exact .inl rfl | exact .inr ⟨_, _, rfl, rfl⟩
theorem onFnY_inv {v : AV} {f : Fn → List AV → List AV → Ev.K → List AV → List AV → AH → R} {g : Pos → Ev.K → List AV → List AV → AH → R} (hn : NF (onFnY v f g k vars stk h)) : (∃ x a c, v = .fn x a c) ∨ ∃ b, v = .yld b := by
  cases v <;> first | exact .inl ⟨_, _, _, rfl⟩ | exact .inr ⟨_, rfl⟩ | exact (nf_fail hn).elim
theorem ArgsRel.cons {x : AV} {y : Value} {l : List AV} {A : Array Value} (h1 : RV ρ x y) (h2 : ArgsRel ρ l A) : ArgsRel ρ (x :: l) (#[y] ++ A) := (ArgsRel.one h1).append h2

/-- one operation of a plain region -/
theorem op_stepY {rec : Rec} (hrec : RecOk P rec) (hN : N ≤ slotD) (r : Rel ρ h w) {e : SEnv} (hw : WF L N e) {a : Act} (s : St L N ρ e vars stk a) (o : Oper) (hin : opIn N o = true) (hro : ro = none ∨ noDefer o = true) {nx : Clos}
    (hn : NF (runOp (yop (cOp P L e o.op)) rec ((dstOf L o.dst).k nx rec) vars stk h))
    (hk : ∀ vars' stk' h' ρ' w' a', runOp (yop (cOp P L e o.op)) rec ((dstOf L o.dst).k nx rec) vars stk h = nx rec vars' stk' h' → Stp ρ h w ρ' h' w' → St L N ρ' (e.after (dstOf L o.dst)) vars' stk' a' → K a' w')
    (hq : ∀ v h' ρ' w' y, runOp (yop (cOp P L e o.op)) rec ((dstOf L o.dst).k nx rec) vars stk h = .pan v vars h' → Stp ρ h w ρ' h' w' → RV ρ' v y → Q (.panic [{ v := y, recovered := false }]) a w') :
    o.wpIn (wideR ro) 0 P a w K Q := by
  rcases yop_or (cOp P L e o.op) with hy | ⟨g, args, hc, hy⟩
  · rw [hy] at hn hk hq
    exact wpIn_of_wp (op_step hrec hN r hw s o hin hn hk hq) hro
  · rw [hy] at hn hk hq
    change NF (onFnY (g.ev vars stk) (callFn args rec) (callB args rec) ((dstOf L o.dst).k nx rec) vars stk h) at hn
    rcases onFnY_inv hn with ⟨f, fa, ca, hv⟩ | ⟨b, hv⟩
    · have e1 : runOp (.callY g args) rec ((dstOf L o.dst).k nx rec) vars stk h = runOp (cOp P L e o.op) rec ((dstOf L o.dst).k nx rec) vars stk h := by
        rw [hc]
        show onFnY (g.ev vars stk) (callFn args rec) (callB args rec) ((dstOf L o.dst).k nx rec) vars stk h = onFn (g.ev vars stk) (callFn args rec) ((dstOf L o.dst).k nx rec) vars stk h
        rw [hv]; rfl
      rw [e1] at hk hq
      have hn' : NF (runOp (cOp P L e o.op) rec ((dstOf L o.dst).k nx rec) vars stk h) := by rw [← e1]; exact hn
      exact wpIn_of_wp (op_step hrec hN r hw s o hin hn' hk hq) hro
    · rcases cOp_kind (P := P) (L := L) (e := e) (op := o.op) rfl (by rw [hc]; rfl) (by rw [hc]; rfl) with ⟨x, ho, hc'⟩ | ⟨cl, f, ho, hcal, hne, hc'⟩ | ⟨cl, x, ho, hcal, hc'⟩ | ⟨cl, x, m, ho, hcal, hc'⟩
      · rw [hc] at hc'; cases hc'
      · rw [hc] at hc'; cases hc'
      · rw [hc] at hc'
        cases hc'
        have hev := fun x hx => s.env.operand (x := x) (opIn_ops hin x hx)
        have ha := args_of (ρ := ρ) (vars := vars) (stk := stk) (L := L) (e := e) (ev := a.eval) cl.args (fun y hy => hev y (by rw [ho]; exact arg_mem hy))
        have hx := hev x (by rw [ho]; show x ∈ cl.operands; unfold Call.operands; rw [hcal]; simp)
        rw [hv] at hx
        generalize hX : a.eval x = X at hx
        cases hx with
        | yld _ l hb =>
        have hrun : (execOp a.eval o).run P w = (Instr.yield l.cb (cl.args.map a.eval)).run P w := by
          unfold execOp
          rw [ho]
          simp only [resolve, hcal, hX, Deferred.ofValue, Sem.run_bind, Sem.run_pure, Result.andThen_ok, invoke, Array.append_empty, Array.empty_append]
        have hE : runOp (.callY (res L e x) (cl.args.toList.map (res L e))) rec ((dstOf L o.dst).k nx rec) vars stk h = afterCall ((dstOf L o.dst).k nx rec) vars stk (rec baseY (.yld b :: evs (cl.args.toList.map (res L e)) vars stk) h) := by
          show onFnY ((res L e x).ev vars stk) (callFn _ rec) (callB _ rec) ((dstOf L o.dst).k nx rec) vars stk h = _
          rw [hv]; rfl
        rw [hE] at hk hq
        have hn' : NF (afterCall ((dstOf L o.dst).k nx rec) vars stk (rec baseY (.yld b :: evs (cl.args.toList.map (res L e)) vars stk) h)) := by rw [← hE]; exact hn
        obtain ⟨i1, i2⟩ := afterCall_inv hn'
        obtain ⟨l', xs, fn, tmps, assign, body, y1, y2, y3⟩ := (hrec baseY _ h i1 ρ w _ r (ArgsRel.cons (.yld b l hb) ha)).2 rfl
        have y1l : [Value.func (.yield l.cb) #[] #[]] ++ (cl.args.map a.eval).toList = [Value.func (.yield l') #[] #[]] ++ xs.toList := by
          have := congrArg Array.toList y1
          simpa using this
        have e2 : l' = l.cb := by
          have := (List.cons.inj y1l).1
          cases this; rfl
        have e3 : xs = cl.args.map a.eval := Array.ext' (List.cons.inj y1l).2.symm
        subst e2 e3
        refine ⟨fun _ _ => trivial, ?_⟩
        show o.uponIn (wideR ro) 0 P a K Q ((o.semAt ro a.eval).run P w)
        rw [semAt_ro hro, hrun, y2]
        rcases i2 with ⟨v, h', h1, h2⟩ | ⟨v, h', h1, h2⟩
        · refine upon_round y3 (fun v' h'' ρ' w' y e1 st hy => ?_) (fun v' h'' ρ' w' y e1 => by rw [h1] at e1; cases e1)
          rw [h1] at e1; cases e1
          rw [dst_k] at h2
          exact hk _ _ h' ρ' w' _ h2 st (s.put hN hw st.le hin hy)
        · exact upon_round y3 (fun v' h'' ρ' w' y e1 => by rw [h1] at e1; cases e1) (fun v' h'' ρ' w' y e1 => by rw [h1] at e1; cases e1; exact hq v h' ρ' w' y h2)
      · rw [hc] at hc'; cases hc'
end
end Go.Ev
namespace Go.Ev
set_option autoImplicit false
variable [Rounds]
open Go

/-- how it stands where a panic leaves a function: the deferred function reads the variables, if there is one -/
def PSt (L : List Nat) (N : Nat) (ρ : Emb) (vars : List AV) (a : Act) : Prop := St L N ρ env0 vars [] a ∨ (idxOf slotD L 0 = none ∧ a.defers = [])
/-- whatever is reached, from (ρ, h, w) on, Q holds of it -/
def GoodR (L : List Nat) (N : Nat) (Q : Exit → Act → World → Prop) (ρ : Emb) (h : AH) (w : World) (ex : SEnv) : R → Prop
  | .ok vars stk h' => ∀ ρ' w' a', Stp ρ h w ρ' h' w' → St L N ρ' ex vars stk a' → Q .normal a' w'
  | .ex id vars h' => ∀ ρ' w' a', Stp ρ h w ρ' h' w' → St L N ρ' env0 vars [] a' → Q (.exit id) a' w'
  | .ret vars h' => ∀ ρ' w' a', Stp ρ h w ρ' h' w' → St L N ρ' env0 vars [] a' → Q .ret a' w'
  | .pan v vars h' => ∀ ρ' w' a' y, Stp ρ h w ρ' h' w' → PSt L N ρ' vars a' → RV ρ' v y → Q (.panic [{ v := y, recovered := false }]) a' w'
  | .fail _ => True
section
variable {P : Program} {ρ : Emb} {h : AH} {w : World} {k : K} {vars stk : List AV} {L : List Nat} {N : Nat} {Q : Exit → Act → World → Prop}
theorem GoodR.step {ex : SEnv} {r : R} (g : GoodR L N Q ρ h w ex r) {ρ₁ : Emb} {h₁ : AH} {w₁ : World} (s : Stp ρ h w ρ₁ h₁ w₁) : GoodR L N Q ρ₁ h₁ w₁ ex r := by
  cases r with
  | ok vars stk h' => exact fun ρ' w' a' s' => g ρ' w' a' (s.trans s')
  | ex id vars h' => exact fun ρ' w' a' s' => g ρ' w' a' (s.trans s')
  | ret vars h' => exact fun ρ' w' a' s' => g ρ' w' a' (s.trans s')
  | pan v vars h' => exact fun ρ' w' a' y s' => g ρ' w' a' y (s.trans s')
  | fail n => trivial
theorem St.env0 {e : SEnv} (hw : WF L N e) {a : Act} (s : St L N ρ e vars stk a) (stk' : List AV) : St L N ρ env0 vars stk' a := ⟨s.env.env0 hw stk', s.size, s.dfr⟩
theorem St.mono {ρ' : Emb} {e : SEnv} {a : Act} (s : St L N ρ e vars stk a) (hle : ρ.le ρ') : St L N ρ' e vars stk a := ⟨s.env.mono hle, s.size, s.dfr.mono hle⟩

theorem wf_env {e : SEnv} (hw : WF L N e) {o : Oper} (hin : opIn N o = true) : WF L N (envOf L e o) := by
  unfold envOf
  cases h : aliasOf L e o with
  | none => exact wf_after hw o.dst
  | some e' =>
    obtain ⟨x, t, _, _, _, h1, _⟩ := sig_alias (vars := []) (stk := []) hw h (fun x hx => opIn_ops hin x (by rw [hx]; simp [Op.operands]))
    exact h1
theorem wf_ops {e : SEnv} (hw : WF L N e) : ∀ (os : List Oper), (∀ o ∈ os, opIn N o = true) → WF L N (opsE L os e) := by
  intro os
  induction os generalizing e with
  | nil => intro _; exact hw
  | cons o os ih => intro hin; exact ih (wf_env hw (hin o List.mem_cons_self)) fun o' ho' => hin o' (List.mem_cons_of_mem _ ho')

/-- what a guard says -/
theorem guard_inv {g : G} {want : Bool} {yes no : List AV → List AV → AH → R} (hn : NF (guardC g want yes no vars stk h)) :
    ((g.ev vars stk = @Bool.rec (fun _ => AV) .ff .tt want) ∧ guardC g want yes no vars stk h = yes vars stk h) ∨
    ((g.ev vars stk = @Bool.rec (fun _ => AV) .tt .ff want ∨ ∃ l, g.ev vars stk = .tup l) ∧ guardC g want yes no vars stk h = no vars stk h) := by
  unfold guardC at hn ⊢
  generalize g.ev vars stk = v at hn ⊢
  cases v <;> first
    | (cases want <;> first | exact .inl ⟨rfl, rfl⟩ | exact .inr ⟨.inl rfl, rfl⟩)
    | exact .inr ⟨.inr ⟨_, rfl⟩, rfl⟩
    | exact absurd rfl (hn _)
theorem yielded_of {ops : Array Oper} {a : Act} {j t : Nat} (hj : gslot ops j = some t) (ht : t < a.tmps.size) : yielded ops a.tmps j = match a.eval (.tmp t) with | .bool b => some b | _ => none := by
  have h0 : (ops[j]?).bind (·.dst) = some t := hj
  unfold yielded
  rw [h0]
  show (match (a.tmps[t]?) with | some (.bool b) => some b | _ => none) = (match a.tmps.getD t undef with | .bool b => some b | _ => none)
  rw [Array.getD_eq_getD_getElem?, Array.getElem?_eq_getElem ht]
  simp only [Option.getD_some]
  generalize a.tmps[t] = v
  cases v <;> rfl
theorem wanted_of {ops : Array Oper} {o : Oper} {a : Act} {j t : Nat} {want : Bool} (hg : o.guard = some (j, want)) (hj : gslot ops j = some t) (ht : t < a.tmps.size) {v : AV} (hv : RV ρ v (a.eval (.tmp t))) :
    (v = @Bool.rec (fun _ => AV) .ff .tt want → Region.wanted o (yielded ops a.tmps) = true) ∧ ((v = @Bool.rec (fun _ => AV) .tt .ff want ∨ ∃ l, v = .tup l) → Region.wanted o (yielded ops a.tmps) = false) := by
  have hy := yielded_of hj ht
  generalize a.eval (.tmp t) = X at hv hy
  unfold Region.wanted
  rw [hg]
  simp only [hy]
  refine ⟨fun e => ?_, fun e => ?_⟩
  · cases want <;> subst e <;> cases hv <;> rfl
  · rcases e with e | ⟨l, e⟩
    · cases want <;> subst e <;> cases hv <;> rfl
    · subst e; cases hv; simp

theorem plain_ok {rec : Rec} (hrec : RecOk P rec) (hN : N ≤ slotD) {ro : Option Nat} {ops : Array Oper} (hall : ∀ (j : Nat) (o : Oper), ops[j]? = some o → opIn N o = true) : ∀ (os : List Oper) (k : Nat) {e : SEnv} {vars stk : List AV} {h : AH} {ρ : Emb} {w : World} {a : Act},
    (∀ (j : Nat) (o : Oper), os[j]? = some o → ops[k + j]? = some o) → (ro = none ∨ os.all noDefer = true) → NF ((cOps P L ops os e).run rec vars stk h) → Rel ρ h w → WF L N e → St L N ρ e vars stk a →
    GoodR L N Q ρ h w (opsE L os e) ((cOps P L ops os e).run rec vars stk h) → wpOpsIn (wideR ro) 0 P ops Q (List.range' k os.length) a w := by
  intro os
  induction os with
  | nil =>
    intro k e vars stk h ρ w a _ _ _ r _ s g
    exact g ρ w a (Stp.refl r) s
  | cons o os ih =>
    intro k e vars stk h ρ w a hos hro hn r hw s g
    have hro1 : ro = none ∨ noDefer o = true := hro.imp id fun h => by rw [List.all_cons] at h; exact (Bool.and_eq_true_iff.1 h).1
    have hro2 : ro = none ∨ os.all noDefer = true := hro.imp id fun h => by rw [List.all_cons] at h; exact (Bool.and_eq_true_iff.1 h).2
    have ho : ops[k]? = some o := hos 0 o rfl
    have hin := hall k o ho
    have hos' : ∀ (j : Nat) (o' : Oper), os[j]? = some o' → ops[k + 1 + j]? = some o' := fun j o' hj => by
      have := hos (j + 1) o' (by simpa using hj)
      rwa [show k + 1 + j = k + (j + 1) by omega]
    show wpOpsIn (wideR ro) 0 P ops Q (k :: List.range' (k + 1) os.length) a w
    have hw' := wf_env hw hin
    unfold opsE at g
    unfold envOf at g hw'
    unfold cOps at hn g
    simp only [wpOpsIn, ho]
    cases hal : aliasOf L e o with
    | some e' =>
      rw [hal] at hn g hw'
      simp only at hn g hw'
      obtain ⟨x, t, hg, hop, hd, _, _⟩ := sig_alias (vars := vars) (stk := stk) hw hal (fun x hx => opIn_ops hin x (by rw [hx]; simp [Op.operands]))
      have hwant : Region.wanted o (yielded ops a.tmps) = true := by unfold Region.wanted; rw [hg]
      rw [if_pos hwant]
      refine ⟨fun _ _ => trivial, ?_⟩
      show o.uponIn (wideR ro) 0 P a (wpOpsIn (wideR ro) 0 P ops Q (List.range' (k + 1) os.length)) Q ((o.semAt ro a.eval).run P w)
      rw [semAt_ro hro1]
      have hrun : (execOp a.eval o).run P w = .ok (.value (a.eval x)) w := by unfold execOp; rw [hop]; rfl
      rw [hrun, Oper.uponIn_value]
      refine ih (k + 1) hos' hro2 hn r hw' ⟨s.env.alias hw hal hop (opIn_ops hin x (by rw [hop]; simp [Op.operands])) fun t ht => by rw [s.size]; exact opIn_dst hin t ht, by rw [put_size]; exact s.size, ?_⟩ g
      have := s.dfr
      unfold DefOk at this ⊢
      have hd' : (a.put o.dst (a.eval x)).defers = a.defers := by cases o.dst <;> rfl
      rw [hd']; exact this
    | none =>
      rw [hal] at hn g hw'
      simp only at hn g hw'
      have go : ∀ {h₀ : AH} {ρ₀ : Emb} {w₀ : World} {vars₀ stk₀ : List AV} {a₀ : Act}, Stp ρ h w ρ₀ h₀ w₀ → NF ((cOps P L ops os (e.after (dstOf L o.dst))).run rec vars₀ stk₀ h₀) → St L N ρ₀ (e.after (dstOf L o.dst)) vars₀ stk₀ a₀ →
          GoodR L N Q ρ h w (opsE L os (e.after (dstOf L o.dst))) ((cOps P L ops os (e.after (dstOf L o.dst))).run rec vars₀ stk₀ h₀) → wpOpsIn (wideR ro) 0 P ops Q (List.range' (k + 1) os.length) a₀ w₀ :=
        fun st hn' s' g' => ih (k + 1) hos' hro2 hn' st.rel hw' s' (g'.step st)
      have run1 : ∀ {c : COp}, c = yop (cOp P L e o.op) → NF (runOp c rec ((dstOf L o.dst).k (cOps P L ops os (e.after (dstOf L o.dst))).run rec) vars stk h) →
          GoodR L N Q ρ h w (opsE L os (e.after (dstOf L o.dst))) (runOp c rec ((dstOf L o.dst).k (cOps P L ops os (e.after (dstOf L o.dst))).run rec) vars stk h) → o.wpIn (wideR ro) 0 P a w (wpOpsIn (wideR ro) 0 P ops Q (List.range' (k + 1) os.length)) Q := by
        intro c hc hn' g'
        subst hc
        refine op_stepY hrec hN r hw s o hin hro1 hn' (fun vars' stk' h' ρ' w' a' h1 h2 h3 => ?_) (fun v h' ρ' w' y h1 h2 h3 => ?_)
        · rw [h1] at hn' g'
          exact go h2 hn' h3 g'
        · rw [h1] at g'
          exact g' ρ' w' a y h2 (.inl ((s.mono h2.le).env0 hw [])) h3
      cases hg : o.guard with
      | none =>
        rw [hg] at hn g
        simp only at hn g
        have hwant : Region.wanted o (yielded ops a.tmps) = true := by unfold Region.wanted; rw [hg]
        rw [if_pos hwant]
        exact run1 rfl hn g
      | some jw =>
        obtain ⟨j, want⟩ := jw
        rw [hg] at hn g
        simp only at hn g
        cases hj : gslot ops j with
        | none => rw [hj] at hn; exact absurd rfl (hn 122)
        | some t =>
          rw [hj] at hn g
          simp only at hn g
          have ht : t < N := by
            have hj' : (ops[j]?).bind (·.dst) = some t := hj
            cases hoj : ops[j]? with
            | none => rw [hoj] at hj'; cases hj'
            | some oj => rw [hoj] at hj'; exact opIn_dst (hall j oj hoj) t hj'
          have hv : RV ρ ((resT L e t).ev vars stk) (a.eval (.tmp t)) := s.env t ht
          obtain ⟨w1, w2⟩ := wanted_of (ops := ops) (o := o) hg hj (by rw [s.size]; exact ht) hv
          change NF (guardC (resT L e t) want (runOp (yop (cOp P L e o.op)) rec ((dstOf L o.dst).k (cOps P L ops os (e.after (dstOf L o.dst))).run rec)) ((dstOf L o.dst).k (cOps P L ops os (e.after (dstOf L o.dst))).run rec (.tup [])) vars stk h) at hn
          change GoodR L N Q ρ h w _ (guardC (resT L e t) want (runOp (yop (cOp P L e o.op)) rec ((dstOf L o.dst).k (cOps P L ops os (e.after (dstOf L o.dst))).run rec)) ((dstOf L o.dst).k (cOps P L ops os (e.after (dstOf L o.dst))).run rec (.tup [])) vars stk h) at g
          rcases guard_inv hn with ⟨h1, h2⟩ | ⟨h1, h2⟩
          · rw [h2] at hn g
            rw [if_pos (w1 h1)]
            exact run1 rfl hn g
          · rw [h2, dst_k] at hn g
            rw [if_neg (by rw [w2 h1]; simp)]
            refine ⟨fun _ _ => trivial, ?_⟩
            exact go (Stp.refl r) hn (s.put hN hw (fun _ _ e => e) hin (v := .tup []) (y := undef) (.tup [] #[] rfl (by simp))) g
end
end Go.Ev
