/- A part of the proof that CheckEnds returns true at every number: EvCode. Conditions: none. -/
import Derived.Test.YtbdgggffdcgjbaaGreatDoorE07
import Derived.Scope
set_option linter.all false
set_option linter.unusedVariables false
set_option linter.unusedSectionVars false
set_option linter.unusedSimpArgs false
namespace Go.Ev
set_option autoImplicit false
variable [Rounds]
open Go

/-- what of a function's code is looked at once and for all -/
def codeOk (N : Nat) (L : List Nat) (od : Nat → Option (List Nat)) : Code → Bool
  | .region _ ops false => ops.toList.all (opIn N)
  | .region id ops true => and (ops.toList.all (opIn N)) (regOk L ops (orderOf od id ops.size))
  | .seq a b => and (codeOk N L od a) (codeOk N L od b)
  | .cond c a b => and (inN N c) (and (codeOk N L od a) (codeOk N L od b))
  | .block _ a | .loop a | .scope a => codeOk N L od a
  | .rangeFunc g _ _ _ => inN N g
  | _ => true

section
variable {P : Program} {ρ : Emb} {h : AH} {w : World} {k : K} {vars stk : List AV} {L : List Nat} {N : Nat} {Q : Exit → Act → World → Prop} {rec : Rec} {od : Nat → Option (List Nat)}
theorem allIn {ops : Array Oper} (h : ops.toList.all (opIn N) = true) : ∀ (j : Nat) (o : Oper), ops[j]? = some o → opIn N o = true := by
  rw [List.all_eq_true] at h
  exact fun j o ho => h o (Array.mem_toList_iff.2 (Array.mem_of_getElem? ho))
theorem wf_opsD {ops : Array Oper} (hall : ∀ (j : Nat) (o : Oper), ops[j]? = some o → opIn N o = true) : ∀ (is : List Nat) {e : SEnv}, WF L N e → WF L N (opsED L ops is e)
  | [], _, hw => hw
  | i :: is, e, hw => by
    unfold opsED
    cases ho : ops[i]? with
    | none => exact hw
    | some o => exact wf_opsD hall is (wf_env hw (hall i o ho))
theorem wf_code : ∀ (c : Code) {e : SEnv}, codeOk N L od c = true → WF L N e → WF L N (codeEnv L od c e)
  | .skip, e, _, hw => hw
  | .label _, e, _, hw => hw
  | .region _ ops false, e, hc, hw => wf_ops hw ops.toList fun o ho => by
      have h : ops.toList.all (opIn N) = true := hc
      rw [List.all_eq_true] at h; exact h o ho
  | .region id ops true, e, hc, hw => wf_opsD (allIn (Bool.and_eq_true_iff.1 (show and (ops.toList.all (opIn N)) (regOk L ops (orderOf od id ops.size)) = true from hc)).1) _ hw
  | .seq a b, e, hc, hw => by
      have h := Bool.and_eq_true_iff.1 (show and (codeOk N L od a) (codeOk N L od b) = true from hc)
      exact wf_code b h.2 (wf_code a h.1 hw)
  | .cond _ _ _, e, _, _ => wf0
  | .block _ _, e, _, _ => wf0
  | .loop _, e, _, _ => wf0
  | .exit _, e, _, _ => wf0
  | .scope _, e, _, _ => wf0
  | .ret, e, _, _ => wf0
  | .rangeFunc .., e, _, _ => wf0
  | .goto _, e, _, _ => wf0
  | .refuse _, e, _, _ => wf0
theorem GoodR.env0 {ex : SEnv} (hw : WF L N ex) {r : R} (g : GoodR L N Q ρ h w env0 r) : GoodR L N Q ρ h w ex r := by
  cases r with
  | ok vars stk h' => exact fun ρ' w' a' s t => g ρ' w' a' s (t.env0 hw stk)
  | ex id vars h' => exact g
  | ret vars h' => exact g
  | pan v vars h' => exact g
  | fail n => trivial

/-- a loop that is gone round at most so often -/
theorem loop_n {c : Code} (I : Nat → Act → World → Prop) (h0 : ∀ a w, I 0 a w → False) (round : ∀ n a w, I (n + 1) a w → c.wp P (Exit.then (I n) Q) a w) {n : Nat} {a : Act} (hi : I n a w) : (Code.loop c).wp P Q a w := by
  intro b k cs
  have key : ∀ n a w, I n a w → ∃ e a' w', Q e a' w' ∧ Arrives P (lone (b.at a (.code c :: .inLoop c :: k)) cs w) b k cs e a' w' := by
    intro n
    induction n with
    | zero => intro a w hI; exact (h0 a w hI).elim
    | succ n ih =>
      intro a w hI
      obtain ⟨e, a₁, w₁, hq, harr⟩ := round n a w hI b (.inLoop c :: k) cs
      cases e with
      | normal =>
        obtain ⟨e₂, a₂, w₂, hq₂, harr₂⟩ := ih a₁ w₁ hq
        exact ⟨e₂, a₂, w₂, hq₂, .of_steps (Steps.trans harr (.one step_inLoop)) harr₂⟩
      | exit id => exact ⟨_, a₁, w₁, hq, .pass (x := .inLoop c) rfl (fun _ _ => .inl (by simp)) harr⟩
      | goto l => exact ⟨_, a₁, w₁, hq, .pass (x := .inLoop c) rfl (fun _ _ => .inl (by simp)) harr⟩
      | ret => exact ⟨_, a₁, w₁, hq, .pass (x := .inLoop c) rfl (fun _ _ => .inl (by simp)) harr⟩
      | panic ch => exact ⟨_, a₁, w₁, hq, .pass (x := .inLoop c) rfl (fun _ _ => .inl (by simp)) harr⟩
      | outgrown => exact ⟨_, a₁, w₁, hq, .pass (x := .inLoop c) rfl (fun _ _ => .inl (by simp)) harr⟩
  obtain ⟨e, a', w', hq, harr⟩ := key n a w hi
  exact ⟨e, a', w', hq, .of_steps (.one step_loop) harr⟩

/-- the loops over functions within a piece of code are those that are laid down -/
def RangesOk (P : Program) (L : List Nat) (od : Nat → Option (List Nat)) (N : Nat) (c : Code) : Prop :=
  ∀ f gs, od slotD = some (f :: gs) → L = Rounds.hint f ∧ (∀ gf ∈ gs, gf ≠ baseY ∧ ∀ vs w, (callFunc gf vs).run P w = .ok (.enter gf vs) w) ∧ ∀ x ∈ rangesOf c, Rounds.rc f x.1 x.2.1 x.2.2 N
theorem RangesOk.sub {c d : Code} (h : RangesOk P L od N c) (hs : ∀ x, x ∈ rangesOf d → x ∈ rangesOf c) : RangesOk P L od N d := fun f gs e => let ⟨a, b, r⟩ := h f gs e; ⟨a, b, fun x hx => r x (hs x hx)⟩

theorem code_ok (hrec : RecOk P rec) (hN : N ≤ slotD) (hm : P.follows .mixedOrders = true) : ∀ (c : Code) {Q : Exit → Act → World → Prop} {e : SEnv} {vars stk : List AV} {h : AH} {ρ : Emb} {w : World} {a : Act}, codeOk N L od c = true → RangesOk P L od N c →
    NF ((cCode P L od c e).run rec vars stk h) → Rel ρ h w → WF L N e → St L N ρ e vars stk a → GoodR L N Q ρ h w (codeEnv L od c e) ((cCode P L od c e).run rec vars stk h) → c.wp P Q a w
  | .skip, Q, e, vars, stk, h, ρ, w, a, _, _, _, r, _, s, g => wp_skip (g ρ w a (Stp.refl r) s)
  | .label _, Q, e, vars, stk, h, ρ, w, a, _, _, _, r, _, s, g => wp_label (g ρ w a (Stp.refl r) s)
  | .region _ ops false, Q, e, vars, stk, h, ρ, w, a, hc, hR, hn, r, hw, s, g => by
    refine (wpIn_wide (n := 0)).1 (wpIn_region (F := Fence.wide) (n := 0) ?_)
    rw [List.range_eq_range', show ops.size = ops.toList.length by simp]
    exact plain_ok (ro := none) hrec hN (allIn hc) ops.toList 0 (fun j o hj => by rw [Nat.zero_add]; simpa using hj) (.inl rfl) hn r hw s g
  | .region id ops true, Q, e, vars, stk, h, ρ, w, a, hc, hR, hn, r, hw, s, g => by
    have h2 := Bool.and_eq_true_iff.1 (show and (ops.toList.all (opIn N)) (regOk L ops (orderOf od id ops.size)) = true from hc)
    exact draw_ok hrec (allIn h2.1) hN hm h2.2 hn r hw s g
  | .seq x y, Q, e, vars, stk, h, ρ, w, a, hc, hR, hn, r, hw, s, g => by
    have h2 := Bool.and_eq_true_iff.1 (show and (codeOk N L od x) (codeOk N L od y) = true from hc)
    refine wp_seq ?_
    change NF (seqK ((cCode P L od y (codeEnv L od x e)).run rec) ((cCode P L od x e).run rec vars stk h)) at hn
    change GoodR L N Q ρ h w (codeEnv L od y (codeEnv L od x e)) (seqK ((cCode P L od y (codeEnv L od x e)).run rec) ((cCode P L od x e).run rec vars stk h)) at g
    have hwx := wf_code x h2.1 hw
    have hx := code_ok hrec hN hm x (Q := Exit.then (y.wp P Q) Q) (e := e) (vars := vars) (stk := stk) (h := h) (ρ := ρ) (w := w) (a := a) h2.1 (hR.sub fun x hx => List.mem_append_left _ hx)
    cases hr : (cCode P L od x e).run rec vars stk h with
    | ok v1 s1 h1 =>
      rw [hr] at hn g hx
      exact hx (by intro n hh; cases hh) r hw s fun ρ' w' a' st s' => code_ok hrec hN hm y h2.2 (hR.sub fun x hx => List.mem_append_right _ hx) hn st.rel hwx s' (g.step st)
    | ex id v1 h1 => rw [hr] at hn g hx; exact hx (by intro n hh; cases hh) r hw s g
    | ret v1 h1 => rw [hr] at hn g hx; exact hx (by intro n hh; cases hh) r hw s g
    | pan v v1 h1 => rw [hr] at hn g hx; exact hx (by intro n hh; cases hh) r hw s g
    | fail n => rw [hr] at hn; exact absurd rfl (hn n)
  | .cond c x y, Q, e, vars, stk, h, ρ, w, a, hc, hR, hn, r, hw, s, g => by
    have h2 := Bool.and_eq_true_iff.1 (show and (inN N c) (and (codeOk N L od x) (codeOk N L od y)) = true from hc)
    have h3 := Bool.and_eq_true_iff.1 h2.2
    change NF (onBool ((res L e c).ev vars stk) ((cCode P L od x e).run rec) ((cCode P L od y e).run rec) vars stk h) at hn
    change GoodR L N Q ρ h w env0 (onBool ((res L e c).ev vars stk) ((cCode P L od x e).run rec) ((cCode P L od y e).run rec) vars stk h) at g
    have hv := s.env.operand h2.1
    rcases onBool_inv hn with hb | hb <;> rw [hb] at hn g hv
    · generalize hX : a.eval c = X at hv
      cases hv
      exact wp_cond_true hX (code_ok hrec hN hm x h3.1 (hR.sub fun x hx => List.mem_append_left _ hx) hn r hw s (g.env0 (wf_code x h3.1 hw)))
    · generalize hX : a.eval c = X at hv
      cases hv
      exact wp_cond_false hX (code_ok hrec hN hm y h3.2 (hR.sub fun x hx => List.mem_append_right _ hx) hn r hw s (g.env0 (wf_code y h3.2 hw)))
  | .block id x, Q, e, vars, stk, h, ρ, w, a, hc, hR, hn, r, hw, s, g => by
    refine wp_block ?_
    change NF (blockK id ((cCode P L od x env0).run rec vars stk h)) at hn
    change GoodR L N Q ρ h w env0 (blockK id ((cCode P L od x env0).run rec vars stk h)) at g
    have hx := code_ok hrec hN hm x (Q := Exit.inBlock id Q) (e := env0) (vars := vars) (stk := stk) (h := h) (ρ := ρ) (w := w) (a := a) hc (hR.sub fun x hx => hx)
    have hwx := wf_code x (e := env0) hc wf0
    have s0 := s.env0 hw stk
    cases hr : (cCode P L od x env0).run rec vars stk h with
    | ok v1 s1 h1 => rw [hr] at hn g hx; exact hx (by intro n hh; cases hh) r wf0 s0 fun ρ' w' a' st s' => g ρ' w' a' st (s'.env0 hwx s1)
    | ex i v1 h1 =>
      rw [hr] at hn g hx
      refine hx (by intro n hh; cases hh) r wf0 s0 fun ρ' w' a' st s' => ?_
      show (if i = id then Q .normal a' w' else Q (.exit i) a' w')
      change GoodR L N Q ρ h w env0 (exK id i v1 h1) at g
      unfold exK at g
      by_cases hi : i = id
      · subst hi
        rw [Nat.beq_refl] at g
        rw [if_pos rfl]
        exact g ρ' w' a' st s'
      · have hb : Nat.beq i id = false := by
          cases h : Nat.beq i id with
          | false => rfl
          | true => exact absurd (beq_iff.1 h) hi
        rw [hb] at g
        rw [if_neg hi]
        exact g ρ' w' a' st s'
    | ret v1 h1 => rw [hr] at hn g hx; exact hx (by intro n hh; cases hh) r wf0 s0 g
    | pan v v1 h1 => rw [hr] at hn g hx; exact hx (by intro n hh; cases hh) r wf0 s0 g
    | fail n => rw [hr] at hn; exact absurd rfl (hn n)
  | .loop x, Q, e, vars, stk, h, ρ, w, a, hc, hR, hn, r, hw, s, g => by
    change NF (loopN ((cCode P L od x env0).run rec) 100000 vars h) at hn
    change GoodR L N Q ρ h w env0 (loopN ((cCode P L od x env0).run rec) 100000 vars h) at g
    refine loop_n (n := 100000) (fun n a w' => ∃ ρ' vars' h', Stp ρ h w ρ' h' w' ∧ St L N ρ' env0 vars' [] a ∧ NF (loopN ((cCode P L od x env0).run rec) n vars' h') ∧ GoodR L N Q ρ h w env0 (loopN ((cCode P L od x env0).run rec) n vars' h')) ?_ ?_
      ⟨ρ, vars, h, Stp.refl r, s.env0 hw [], hn, g⟩
    · rintro a w' ⟨ρ', vars', h', _, _, hn, _⟩
      exact absurd rfl (hn 131)
    · rintro n a w' ⟨ρ', vars', h', st, s', hn, g⟩
      have hwx := wf_code x (e := env0) hc wf0
      change NF (loopK (loopN ((cCode P L od x env0).run rec) n) ((cCode P L od x env0).run rec vars' [] h')) at hn
      change GoodR L N Q ρ h w env0 (loopK (loopN ((cCode P L od x env0).run rec) n) ((cCode P L od x env0).run rec vars' [] h')) at g
      refine code_ok hrec hN hm x (Q := Exit.then _ Q) (e := env0) (vars := vars') (stk := []) (h := h') hc (hR.sub fun x hx => hx) ?_ st.rel wf0 s' ?_
      · cases hr : (cCode P L od x env0).run rec vars' [] h' with
        | fail n => rw [hr] at hn; exact absurd rfl (hn n)
        | _ => intro n hh; cases hh
      · cases hr : (cCode P L od x env0).run rec vars' [] h' with
        | ok v1 s1 h1 =>
          rw [hr] at hn g
          exact fun ρ2 w2 a2 st2 s2 => ⟨ρ2, v1, h1, st.trans st2, s2.env0 hwx [], hn, g⟩
        | ex i v1 h1 => rw [hr] at g; exact (show GoodR L N Q ρ h w env0 (.ex i v1 h1) from g).step st
        | ret v1 h1 => rw [hr] at g; exact (show GoodR L N Q ρ h w env0 (.ret v1 h1) from g).step st
        | pan v v1 h1 => rw [hr] at g; exact (show GoodR L N Q ρ h w env0 (.pan v v1 h1) from g).step st
        | fail n => trivial
  | .exit id, Q, e, vars, stk, h, ρ, w, a, _, _, _, r, hw, s, g => wp_exit (g ρ w a (Stp.refl r) (s.env0 hw []))
  | .ret, Q, e, vars, stk, h, ρ, w, a, _, _, _, r, hw, s, g => wp_ret (g ρ w a (Stp.refl r) (s.env0 hw []))
  | .scope x, Q, e, vars, stk, h, ρ, w, a, hc, hR, hn, r, hw, s, g => by
    refine wp_scope_straight (code_ok hrec hN hm x (Q := Exit.noGoto Q) hc (hR.sub fun x hx => hx) hn r hw s ?_)
    have g' : GoodR L N Q ρ h w env0 ((cCode P L od x e).run rec vars stk h) := g
    have := g'.env0 (wf_code x hc hw)
    cases hr : (cCode P L od x e).run rec vars stk h with
    | ok v1 s1 h1 => rw [hr] at this; exact this
    | ex i v1 h1 => rw [hr] at this; exact this
    | ret v1 h1 => rw [hr] at this; exact this
    | pan v v1 h1 => rw [hr] at this; exact this
    | fail n => trivial
  | .rangeFunc x ps as bd, Q, e, vars, stk, h, ρ, w, a, hc, hR, hn, r, hw, s, g => by
    unfold cCode at hn g
    split at hn
    · rename_i f gs i h1 h2
      rw [h1, h2] at g
      obtain ⟨r1, r2, r3⟩ := hR f gs h1
      exact range_ok hrec hN hc r2 h2 r1 (r3 (ps, as, bd) List.mem_cons_self) hn r hw s g
    · exact absurd rfl (hn 132)
  | .goto _, Q, e, vars, stk, h, ρ, w, a, _, _, hn, _, _, _, _ => absurd rfl (hn 133)
  | .refuse _, Q, e, vars, stk, h, ρ, w, a, _, _, hn, _, _, _, _ => absurd rfl (hn 134)
end
end Go.Ev
