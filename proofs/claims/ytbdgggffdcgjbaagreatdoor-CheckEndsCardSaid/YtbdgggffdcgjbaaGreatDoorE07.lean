/- A part of the proof that CheckEnds returns true at every number: EvRange. Conditions: none. -/
import Derived.Test.YtbdgggffdcgjbaaGreatDoorE06
import Derived.RangeFuncLeaves
set_option linter.all false
set_option linter.unusedVariables false
set_option linter.unusedSectionVars false
set_option linter.unusedSimpArgs false
namespace Go.Ev
set_option autoImplicit false
variable [Rounds]
open Go

section
variable {P : Program} {ρ : Emb} {h : AH} {w : World} {k : K} {vars stk : List AV} {L : List Nat} {N : Nat} {Q : Exit → Act → World → Prop} {rec : Rec}
/-- a block goes out of use, and is turned -/
theorem stp_del2 (r : Rel ρ h w) {p : Pos} {o : Obj} {l : Loc} (hp : h.obj p = some o) (hl : ρ p = some l) (w' : World)
    (hos : w'.os = w.os) (htape : w'.tape = w.tape) (hout : w'.output = w.output) (hsz : w'.heap.size = w.heap.size)
    (hk : ∀ k, k ≠ l.cb → w'.heap[k]? = w.heap[k]?) (hdr : w.drawn ≤ w'.drawn := by exact Nat.le_refl _) : Stp ρ h w ρ (h.del p) w' := by
  have live : ∀ q, (h.del p).obj q ≠ none → h.obj q ≠ none ∧ q ≠ p := fun q hq => by
    rw [AH.obj_del] at hq
    by_cases e : q = p
    · rw [if_pos e] at hq; exact absurd rfl hq
    · rw [if_neg e] at hq; exact ⟨hq, e⟩
  refine ⟨fun _ _ e => e, ⟨?_, ?_, ?_, ?_⟩, by rw [AH.nx_del]; exact Nat.le_refl _, hos, htape, hout, Nat.le_of_eq hsz.symm, ?_, ?_, ?_, hdr⟩
  · intro q o2 hq m hm
    obtain ⟨l1, e⟩ := live q (by rw [hq]; simp)
    rw [AH.obj_del, if_neg e] at hq
    have ne : m.cb ≠ l.cb := fun e' => e (r.inj q p m l (by simp [hq]) (by simp [hp]) hm hl e')
    exact (r.obj q o2 hq m hm).world (hk _ ne)
  · intro a b m n ha hb hm hn e
    exact r.inj a b m n (live a ha).1 (live b hb).1 hm hn e
  · intro q m hm; rw [AH.nx_del]; exact r.fresh1 q m hm
  · intro q hq; rw [AH.nx_del]; exact r.fresh2 q (live q hq).1
  · intro k hk' hn
    exact hk k fun e => hn p l (by simp [hp]) hl e.symm
  · intro q l' hq hl'
    exact .inr ⟨q, l', (live q hq).1, hl', rfl⟩
  · intro q hq e
    have ne : q ≠ p := fun e' => by subst e'; rw [hl] at e; cases e
    exact ⟨e, by rw [AH.obj_del, if_neg ne]⟩
theorem heap_new (w : World) (o : Go.Obj) : (w.alloc o).heap[w.heap.size]? = some o := World.alloc_heap_new w o
theorem inGs_inv {gf : Nat} {gs : List Nat} {r : R} (hn : NF (inGs gf gs r)) : gf ∈ gs ∧ inGs gf gs r = r := by
  unfold inGs at hn ⊢
  cases hb : gs.any (Nat.beq gf) with
  | false => rw [hb] at hn; exact absurd rfl (hn 170)
  | true =>
    obtain ⟨x, hx, he⟩ := List.any_eq_true.1 hb
    rw [← beq_iff.1 he] at hx
    exact ⟨hx, rfl⟩

theorem range_ok {f i : Nat} {gs : List Nat} {g : Operand} {ps : Array Tmp} {as bd : Code} {e : SEnv} {a : Act} (hrec : RecOk P rec) (hN : N ≤ slotD) (hin : inN N g = true)
    (hgs : ∀ gf ∈ gs, gf ≠ baseY ∧ ∀ vs w, (callFunc gf vs).run P w = .ok (.enter gf vs) w) (hi : idxOf slotD L 0 = some i) (hL : L = Rounds.hint f) (hrc : Rounds.rc f ps as bd N)
    (hn : NF (rangeC f i (res L e g) gs rec vars stk h)) (r : Rel ρ h w) (hw : WF L N e) (s : St L N ρ e vars stk a) (g0 : GoodR L N Q ρ h w env0 (rangeC f i (res L e g) gs rec vars stk h)) :
    (Code.rangeFunc g ps as bd).wp P Q a w := by
  have hx := s.env.operand hin
  unfold rangeC at hn g0
  split at hn
  case h_2 => exact absurd rfl (hn 160)
  rename_i gf fa ca hv1 hv2
  rw [hv1, hv2] at g0
  simp only at g0
  rw [hv2] at hx
  obtain ⟨hg1, hg2⟩ := inGs_inv hn
  rw [hg2] at hn g0
  obtain ⟨hne, hent⟩ := hgs gf hg1
  generalize hX : a.eval g = X at hx
  cases hx with
  | fn _ _ _ A C hA hC hr1 hr2 =>
  have s0 := s.env0 hw []
  have hdef := s.dfr
  unfold DefOk at hdef
  rw [hi] at hdef
  simp only at hdef
  rw [nth_eq] at hv1
  have hnd : a.defers = [] := by
    rcases hdef.2 with ⟨_, h⟩ | ⟨f', fa', c', A', C', h, _⟩ | ⟨b', l', h, _⟩
    · exact h
    · rw [hv1] at h; cases h
    · rw [hv1] at h; cases h
  refine (wpIn_wide (n := 0)).1 (wpIn_rangeFunc (F := Fence.wide) (n := 0) fun fn _ => ?_)
  -- the two blocks
  have st1 : Stp ρ h w (ρ.set h.nx ⟨w.heap.size, 0, 0, 0, #[], []⟩) (h.new .dl) (w.alloc (.deferred (some []))) := stp_new r .dl _ ⟨w.heap.size, 0, 0, 0, #[], []⟩ rfl (.dl (heap_new _ _))
  generalize hρ1 : ρ.set h.nx ⟨w.heap.size, 0, 0, 0, #[], []⟩ = ρ1 at st1
  have hb1 : ρ1 h.nx = some ⟨w.heap.size, 0, 0, 0, #[], []⟩ := by rw [← hρ1]; exact Emb.set_same _ _ _
  generalize hw1 : w.alloc (.deferred (some [])) = w1 at st1
  have hsz1 : w1.heap.size = w.heap.size + 1 := by rw [← hw1]; exact World.size_alloc _ _
  generalize hh1 : h.new .dl = h1 at st1 hn g0
  obtain ⟨rc0, hrc0⟩ : ∃ rc0 : Loop, rc0 = { state := .ready, pending := none, fn, tmps := a.tmps, params := ps, assign := as, body := bd, defers := w.heap.size } := ⟨_, rfl⟩
  have st2 : Stp ρ1 h1 w1 (ρ1.set h1.nx ⟨w1.heap.size, 0, 0, 0, #[], []⟩) (h1.new (.lp f vars false)) (w1.alloc (.loop rc0)) := by
    have hle := Emb.le_set (ρ := ρ1) (p := h1.nx) ⟨w1.heap.size, 0, 0, 0, #[], []⟩ st1.rel.nx_none
    refine stp_new st1.rel (.lp f vars false) _ ⟨w1.heap.size, 0, 0, 0, #[], []⟩ rfl (.lp f vars false rc0 (heap_new _ _) (by rw [hrc0]; rfl) (by rw [hrc0]) (by rw [hrc0]; show Rounds.rc f ps as bd a.tmps.size; rw [s.size]; exact hrc) ?_ ?_)
    · intro t ht
      rw [hrc0] at ht ⊢
      have ht' : t < N := by rw [← s.size]; exact ht
      have := s0.env t ht'
      rw [hL] at this
      exact (this.mono st1.le).mono hle
    · intro i' hi'
      rw [← hL, hi] at hi'
      cases hi'
      exact ⟨hdef.1, by rw [nth_eq]; exact hv1⟩
  generalize hρ2 : ρ1.set h1.nx ⟨w1.heap.size, 0, 0, 0, #[], []⟩ = ρ2 at st2
  have hb2 : ρ2 h1.nx = some ⟨w1.heap.size, 0, 0, 0, #[], []⟩ := by rw [← hρ2]; exact Emb.set_same _ _ _
  generalize hw2 : w1.alloc (.loop rc0) = w2 at st2
  generalize hh2 : h1.new (.lp f vars false) = h2 at st2 hn g0
  have st12 := st1.trans st2
  have ha2 : ArgsRel ρ2 (app (app ca [.yld h1.nx]) fa) ((A ++ #[.func (.yield w1.heap.size) #[] #[]]) ++ C) := by
    rw [app_eq, app_eq, ← List.append_assoc]
    exact (((⟨hA, hr1⟩ : ArgsRel ρ fa A).mono st12.le).append (ArgsRel.one (.yld _ _ hb2))).append ((⟨hC, hr2⟩ : ArgsRel ρ ca C).mono st12.le)
  have hnf : ∀ n, rec gf (app (app ca [.yld h1.nx]) fa) h2 ≠ .fail n := fun n hh => by rw [hh] at hn; exact hn n rfl
  have hcall := (hrec gf _ h2 hnf ρ2 w2 _ st2.rel ha2).1 hne
  rw [hent] at hcall
  change Calls P gf _ w2 _ at hcall
  refine ⟨w.heap.size + 1, [{ target := .collected w.heap.size, args := #[] }], w2, { target := .fn (.func gf) C, args := A ++ #[.func (.yield (w.heap.size + 1)) #[] #[]] }, w2, gf,
    (A ++ #[.func (.yield w1.heap.size) #[] #[]]) ++ C, w2, ?_, ?_, fun _ _ => trivial, ?_, fun hh => (by cases hh), ?_⟩
  · rw [← hw2, ← hw1, hrc0]; exact run_enterLoop_outer _ _ _ _ _
  · simp only [resolve, hX, rangeCall]
    simp [Act.eval, Deferred.ofValue, Sem.run_pure]
  · rw [hsz1]; simp only [invoke]; exact hent _ _
  · refine ((callsIn_wide (n := 0)).2 hcall).mono fun en w3 hc => ?_
    cases en with
    | outgrown => exact hc.elim
    | panicked chain =>
      obtain ⟨v, h', ρ', y, h1', _⟩ := hc
      rw [h1'] at hn
      exact absurd rfl (hn 159)
    | returned y =>
      obtain ⟨v, h3, ρ3, h1', st3, _⟩ := hc
      rw [h1'] at hn g0
      have hl3 := st3.le _ _ hb2
      unfold afterRange at hn g0
      simp only at hn g0
      split at hn
      case h_2 => exact absurd rfl (hn 158)
      rename_i f' vs' hob
      rw [hob] at g0
      simp only at g0
      cases st3.rel.obj _ _ hob _ hl3 with
      | lp _ _ _ r3 hw3 hs3 hp3 _ _ _ =>
      have hne3 : r3.state ≠ .busy := by rw [hs3]; simp
      have hend := run_endLoop (P := P) hw3 hne3
      have hlt : w1.heap.size < w3.heap.size := (Array.getElem?_eq_some_iff.1 hw3).1
      rw [hsz1] at hend hw3 hlt
      refine ⟨none, _, hend.trans (congrArg (fun p => Result.ok p _) hp3), ?_⟩
      show Q .normal { a with defers := [{ target := .collected w.heap.size, args := #[] }] ++ a.defers } _
      have st4 := stp_del2 st3.rel hob hl3 (w3.putObj (w.heap.size + 1) (.loop { r3 with state := .exhausted })) rfl rfl rfl World.putObj_size (fun k hk => World.putObj_heap_other (by rw [hsz1] at hk; exact hk))
      refine g0 ρ3 _ _ ((st12.trans st3).trans st4) ⟨fun t ht => ?_, s.size, ?_⟩
      · rw [sig_other (vars := vars) (stk := []) wf0 hi hN _ ht]
        exact ((s0.env t ht).mono st12.le).mono st3.le
      · unfold DefOk
        rw [hi]
        refine ⟨by rw [upd_eq, List.length_set]; exact hdef.1, .inr (.inr ⟨h.nx, _, by rw [upd_getD, if_pos ⟨rfl, hdef.1⟩], st3.le _ _ (st2.le _ _ hb1), ?_⟩)⟩
        rw [hnd]; rfl
end
end Go.Ev
