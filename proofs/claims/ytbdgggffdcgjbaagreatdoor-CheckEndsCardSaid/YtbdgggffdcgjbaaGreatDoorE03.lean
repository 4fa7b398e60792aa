/- A part of the proof that CheckEnds returns true at every number: EvDraw2 EvDraw3 EvDraw4 EvRange EvCode EvFun EvRun EvPrim EvSort EvSort2 EvSort3. Conditions: none. -/
import Derived.Test.YtbdgggffdcgjbaaGreatDoorE02
import Derived.RangeFuncLeaves
import Derived.Scope
import Derived.Recover
import Derived.Lib.Bytealg
import Derived.Sort.Grow
import Derived.Deep.Draws
import Derived.Shelf.SlSortCmp.WholeK
set_option linter.all false
set_option linter.unusedVariables false
set_option linter.unusedSectionVars false
set_option linter.unusedSimpArgs false
namespace Go.Ev
set_option autoImplicit false
variable [Rounds]
open Go

/-- a slot: either an operation that waits will give it this value, or the value is there -/
def SI (M : List Ms) (ρ : Emb) (a : Act) (x : AV) (t : Nat) : Prop :=
  (∀ m ∈ M, m.o.dst = some t → m.val = x ∨ x = .undef) ∧ ((∀ m ∈ M, m.o.dst ≠ some t) → RV ρ x (a.eval (.tmp t)))

structure Inv (P : Program) (rec : Rec) (ops : Array Oper) (L : List Nat) (N : Nat) (Q : Exit → Act → World → Prop) (ρ₀ : Emb) (h₀ : AH) (w₀ : World) (ex : SEnv) (fuel : Nat) (pre post : List Nat) (M : List Ms) (listed : Array Bool)
    (e : SEnv) (vars stk : List AV) (H : AH) (pend : List Nat) (ρ : Emb) (a : Act) (w : World) : Prop where
  wf : WF L N e
  stp : Stp ρ₀ h₀ w₀ ρ H w
  go : regGo L ops (Region.before ops) pre post = true
  cover : ∀ i, i < ops.size → i ∈ pre ∨ i ∈ post
  disj : ∀ i ∈ pre, i ∉ post
  pnd : post.Nodup
  lst : ∀ i ∈ pre, listed.getD i false = true ∨ ∃ m ∈ M, m.j = i
  lst2 : ∀ i, listed.getD i false = true → i ∈ pre ∧ ∀ m ∈ M, m.j ≠ i
  lsz : listed.size = ops.size
  cl : Closed ops (fun i => listed.getD i false = true)
  mem : ∀ m ∈ M, m.j ∈ pre ∧ ops[m.j]? = some m.o
  mnd : (M.map (·.j)).Nodup
  dep : ∀ m ∈ M, ∀ m' ∈ M, ∀ t ∈ m.o.looksAt ops, m'.o.dst = some t → ((Region.before ops).getD m.j 0).testBit m'.j = true
  own : ∀ m ∈ M, ∀ t ∈ m.o.looksAt ops, m.o.dst ≠ some t
  fact : ∀ m ∈ M, Fact P L ops H m.o m.snap m.val m.pos
  pers : ∀ m ∈ M, m.j ∈ pend ∨ ∀ H' : AH, (∀ q, m.pos = some q → H'.obj q = H.obj q) → Fact P L ops H' m.o m.snap m.val m.pos
  snaps : ∀ m ∈ M, ∀ t ∈ m.o.looksAt ops, SI M ρ a (m.snap t) t
  cur : ∀ t, t < N → SI M ρ a (sig L e vars stk t) t
  now : ∀ m ∈ M, ∀ t ∈ m.o.looksAt ops, sig L e vars stk t = m.snap t ∨ sig L e vars stk t = .undef
  posn : ∀ m ∈ M, ∀ q, m.pos = some q → ρ q = none ∧ h₀.nx.num ≤ q.num ∧ q.num < H.nx.num
  posd : ∀ m ∈ M, ∀ m' ∈ M, ∀ q, m.pos = some q → m'.pos = some q → m.j = m'.j
  size : a.tmps.size = N
  dfr : DefOk L ρ vars a
  nf : NF ((cOpsD P L ops (Region.before ops) post pend e).run rec vars stk H)
  env : opsED L ops post e = ex
  good : GoodR L N Q ρ₀ h₀ w₀ ex ((cOpsD P L ops (Region.before ops) post pend e).run rec vars stk H)
  fuel : fuel = post.length + M.length

section
variable {P : Program} {ρ : Emb} {h : AH} {w : World} {k : K} {vars stk : List AV} {L : List Nat} {N : Nat} {ops : Array Oper} {Q : Exit → Act → World → Prop} {rec : Rec}
  {ρ₀ : Emb} {h₀ : AH} {w₀ : World} {ex e : SEnv} {fuel : Nat} {pre post pend : List Nat} {M : List Ms} {listed : Array Bool} {H : AH} {a : Act}
theorem put_other (a : Act) {d : Option Tmp} {t : Nat} (y : Value) (hd : ∀ u, d = some u → u < a.tmps.size) (hne : d ≠ some t) : (a.put d y).eval (.tmp t) = a.eval (.tmp t) := by
  cases d with
  | none => rfl
  | some u => rw [put_eval a u y (hd u rfl), if_neg fun e => hne (by rw [e])]
theorem put_here (a : Act) {d : Option Tmp} {t : Nat} (y : Value) (hd : ∀ u, d = some u → u < a.tmps.size) (he : d = some t) : (a.put d y).eval (.tmp t) = y := by
  subst he; rw [put_eval a t y (hd t rfl), if_pos rfl]
theorem SI.late {A B : List Ms} {m : Ms} {ρ' : Emb} (hle : ρ.le ρ') {y : Value} (hv : RV ρ' m.val y) (hd : ∀ u, m.o.dst = some u → u < a.tmps.size) {x : AV} {t : Nat} (s : SI (A ++ m :: B) ρ a x t) : SI (A ++ B) ρ' (a.put m.o.dst y) x t := by
  obtain ⟨s1, s2⟩ := s
  have sub : ∀ m' ∈ A ++ B, m' ∈ A ++ m :: B := fun m' h => by
    rcases List.mem_append.1 h with h | h
    · exact List.mem_append.2 (.inl h)
    · exact List.mem_append.2 (.inr (List.mem_cons_of_mem _ h))
  refine ⟨fun m' hm' hd' => s1 m' (sub m' hm') hd', fun hno => ?_⟩
  by_cases hmt : m.o.dst = some t
  · rw [put_here a y hd hmt]
    rcases s1 m (List.mem_append.2 (.inr List.mem_cons_self)) hmt with h | h
    · rw [← h]; exact hv
    · rw [h]; exact .undef _
  · rw [put_other a y hd hmt]
    refine (s2 fun m' hm' => ?_).mono hle
    rcases List.mem_append.1 hm' with h | h
    · exact hno m' (List.mem_append.2 (.inl h))
    · rcases List.mem_cons.1 h with rfl | h
      · exact hmt
      · exact hno m' (List.mem_append.2 (.inr h))
theorem GSays.trans {o : Oper} {f g : Nat → AV} {b : Bool} (hg : GSays ops o f b) (h : ∀ t ∈ o.looksAt ops, f t = g t ∨ f t = .undef) : GSays ops o g b := by
  unfold GSays at hg ⊢
  cases ho : o.guard with
  | none => rw [ho] at hg; exact hg
  | some gw =>
    obtain ⟨j, want⟩ := gw
    rw [ho] at hg
    obtain ⟨t, ht, h1⟩ := hg
    refine ⟨t, ht, ?_⟩
    rcases h t (guard_looks ho ht) with h2 | h2
    · rw [← h2]; exact h1
    · rw [h2] at h1
      rcases h1 with ⟨_, h1⟩ | ⟨_, h1 | ⟨l, h1⟩⟩
      · cases want <;> cases h1
      · cases want <;> cases h1
      · cases h1
theorem GSays.both {o : Oper} {f : Nat → AV} (h1 : GSays ops o f true) (h2 : GSays ops o f false) : False := by
  unfold GSays at h1 h2
  cases ho : o.guard with
  | none => rw [ho] at h2; cases h2
  | some gw =>
    obtain ⟨j, want⟩ := gw
    rw [ho] at h1 h2
    obtain ⟨t, ht, a1⟩ := h1
    obtain ⟨u, hu, a2⟩ := h2
    rw [ht] at hu; cases hu
    rcases a1 with ⟨_, a1⟩ | ⟨c, _⟩
    · rcases a2 with ⟨c, _⟩ | ⟨_, a2⟩
      · cases c
      · rw [a1] at a2
        rcases a2 with a2 | ⟨l, a2⟩ <;> cases want <;> cases a2
    · cases c

theorem dstIs_false {j t : Nat} {oj : Oper} (h : dstIs ops j t = false) (hj : ops[j]? = some oj) : oj.dst ≠ some t := by
  intro hd
  unfold dstIs at h
  rw [hj] at h
  simp only [hd, Nat.beq_refl] at h
  cases h
theorem readsIt_false {j t : Nat} {oj : Oper} (h : readsIt ops j t = false) (hj : ops[j]? = some oj) : t ∉ oj.looksAt ops := by
  intro hm
  unfold readsIt at h
  rw [hj] at h
  have : (oj.looksAt ops).any (Nat.beq t) = true := List.any_eq_true.2 ⟨t, hm, Nat.beq_refl t⟩
  simp only at h
  rw [h] at this; cases this
theorem mem_preds {i : Nat} {o : Oper} (ho : ops[i]? = some o) {p : Nat} : p ∈ predsOf ops i ↔ ∃ e ∈ o.after, Region.binds .any e = true ∧ e.on = p := by
  unfold predsOf
  rw [ho]
  simp only [List.mem_map, List.mem_filter, Array.mem_toList_iff]
  constructor
  · rintro ⟨e, ⟨h1, h2⟩, h3⟩; exact ⟨e, h1, h2, h3⟩
  · rintro ⟨e, h1, h2, h3⟩; exact ⟨e, ⟨h1, h2⟩, h3⟩
theorem regGo_inv {i : Nat} {an : Array Nat} (hg : regGo L ops an pre (i :: post) = true) : ∃ o, ops[i]? = some o ∧ (∀ e ∈ o.after, Region.binds .any e = true → e.on ∈ pre) ∧
    (isFloat o.op = false → ∀ j ∈ post, ∃ oj, ops[j]? = some oj ∧ ∃ e ∈ oj.after, Region.binds .any e = true ∧ e.on ∉ pre) ∧
    (isFloat o.op = true → ∀ t, o.dst = some t → t ∉ o.looksAt ops ∧ ∀ j ∈ pre, ∀ oj, ops[j]? = some oj → oj.dst ≠ some t ∧ t ∉ oj.looksAt ops) ∧
    (isFloat o.op = false → ∀ t, o.dst = some t → ∀ j ∈ pre, (an.getD i 0).testBit j = true ∨ ∀ oj, ops[j]? = some oj → oj.dst ≠ some t ∧ t ∉ oj.looksAt ops) ∧
    (∀ t ∈ o.looksAt ops, ∀ j ∈ pre, ∀ oj, ops[j]? = some oj → oj.dst = some t → (an.getD i 0).testBit j = true) ∧
    (isFloat o.op = false → idxOf slotD L 0 ≠ none → ∀ j ∈ pre, (an.getD i 0).testBit j = true ∨ ∀ oj t, ops[j]? = some oj → oj.dst = some t → idxOf t L 0 = none) ∧
    regGo L ops an (i :: pre) post = true := by
  unfold regGo at hg
  cases ho : ops[i]? with
  | none => rw [ho] at hg; cases hg
  | some o =>
    rw [ho] at hg
    simp only [Bool.and_eq_true] at hg
    obtain ⟨g1, g2, g3, g4, g5, g6⟩ := hg
    refine ⟨o, rfl, fun e he hb => ?_, fun hf j hj => ?_, fun hf t ht => ?_, fun hf t ht j hj => ?_, fun t ht j hj oj hoj hd => ?_, fun hf hsl j hj => ?_, g6⟩
    · rw [List.all_eq_true] at g1
      exact memL_iff.1 (g1 e.on ((mem_preds ho).2 ⟨e, he, hb, rfl⟩))
    · rw [hf, Bool.false_or, List.all_eq_true] at g2
      have := g2 j hj
      rw [List.any_eq_true] at this
      obtain ⟨p, hp, hq⟩ := this
      cases hoj : ops[j]? with
      | none => unfold predsOf at hp; rw [hoj] at hp; cases hp
      | some oj =>
        obtain ⟨e, h1, h2, h3⟩ := (mem_preds hoj).1 hp
        refine ⟨oj, rfl, e, h1, h2, fun hm => ?_⟩
        rw [h3] at hm
        rw [memL_iff.2 hm] at hq; cases hq
    · rw [ht] at g3
      simp only [hf, cond_true, Bool.and_eq_true, Bool.not_eq_true'] at g3
      refine ⟨readsIt_false g3.1 ho, fun j hj oj hoj => ?_⟩
      have h2 := g3.2
      rw [List.all_eq_true] at h2
      have := h2 j hj
      simp only [Bool.and_eq_true, Bool.not_eq_true'] at this
      exact ⟨dstIs_false this.1 hoj, readsIt_false this.2 hoj⟩
    · rw [ht] at g3
      simp only [hf, cond_false] at g3
      rw [List.all_eq_true] at g3
      have := g3 j hj
      rw [Bool.or_eq_true] at this
      rcases this with h | h
      · exact .inl h
      · right
        simp only [Bool.and_eq_true, Bool.not_eq_true'] at h
        exact fun oj hoj => ⟨dstIs_false h.1 hoj, readsIt_false h.2 hoj⟩
    · rw [List.all_eq_true] at g4
      have := g4 t ht
      rw [List.all_eq_true] at this
      have := this j hj
      rw [Bool.or_eq_true] at this
      rcases this with h | h
      · exact absurd hd (dstIs_false (by simpa using h) hoj)
      · exact h
    · have hsl : (idxOf slotD L 0).isNone = false := by cases h : idxOf slotD L 0 with | none => exact absurd h hsl | some _ => rfl
      rw [hf, Bool.false_or, hsl, Bool.false_or, List.all_eq_true] at g5
      have := g5 j hj
      rw [Bool.or_eq_true] at this
      rcases this with h | h
      · exact .inl h
      · right
        intro oj t hoj hd
        have h : varDst L ops j = false := by simpa using h
        unfold varDst at h
        rw [hoj] at h
        simp only [hd] at h
        cases hi : idxOf t L 0 with
        | none => rfl
        | some _ => rw [hi] at h; cases h
theorem exists_ready {order : List Nat} {an : Array Nat} : ∀ (pre : List Nat), regGo L ops an pre order = true → (∀ i ∈ pre, listed.getD i false = true) → listed.size = ops.size → (∃ i ∈ order, listed.getD i false = false) → ∃ i, i ∈ Region.ready .any ops listed := by
  induction order with
  | nil => rintro pre _ _ _ ⟨i, hi, _⟩; cases hi
  | cons c order ih =>
    intro pre hg hp hs hx
    obtain ⟨o, ho, c1, _, _, _, _, _, hg'⟩ := regGo_inv hg
    cases hc : listed.getD c false with
    | true =>
      refine ih (c :: pre) hg' (fun i hi => ?_) hs ?_
      · rcases List.mem_cons.1 hi with rfl | h
        · exact hc
        · exact hp i h
      · obtain ⟨i, hi, hu⟩ := hx
        rcases List.mem_cons.1 hi with rfl | h
        · rw [hc] at hu; cases hu
        · exact ⟨i, h, hu⟩
    | false =>
      have hlt : c < listed.size := by rw [hs]; exact (Array.getElem?_eq_some_iff.1 ho).1
      refine ⟨c, mem_ready.2 ⟨?_, o, ho, fun e he hb => hp _ (c1 e he hb)⟩⟩
      rw [Array.getD_eq_getD_getElem?, Array.getElem?_eq_getElem hlt] at hc ⊢
      exact hc
theorem ready_unlisted {i : Nat} (h : i ∈ Region.ready .any ops listed) : listed.getD i false = false := by
  have := (mem_ready.1 h).1
  rw [Array.getD_eq_getD_getElem?] at this ⊢
  cases hl : listed[i]? with
  | none => rw [hl] at this; cases this
  | some b => rw [hl] at this; exact this
theorem getD_set (hlt : k = k) {i j : Nat} (hi : i < listed.size) : (listed.setIfInBounds i true).getD j false = if j = i then true else listed.getD j false := by
  rw [Array.getD_eq_getD_getElem?, Array.getD_eq_getD_getElem?]
  by_cases h : j = i
  · subst h; simp [hi]
  · rw [if_neg h, Array.getElem?_setIfInBounds_ne fun e => h e.symm]

/-- an operation that waits is carried out -/
theorem run_missing (hall : ∀ (j : Nat) (o : Oper), ops[j]? = some o → opIn N o = true) (hN : N ≤ slotD) (I : Inv P rec ops L N Q ρ₀ h₀ w₀ ex (fuel + 1) pre post M listed e vars stk H pend ρ a w) {m : Ms} (hm : m ∈ M) (hr : m.j ∈ Region.ready .any ops listed)
    (next : ∀ M' listed' ρ' a' w', Inv P rec ops L N Q ρ₀ h₀ w₀ ex fuel pre post M' listed' e vars stk H pend ρ' a' w' → listed' = listed.setIfInBounds m.j true → wpAny P .any ops Q fuel listed' a' w') :
    wpOp P ops Q m.j (wpAny P .any ops Q fuel (listed.setIfInBounds m.j true)) a w := by
  obtain ⟨hpre, hoj⟩ := I.mem m hm
  have hin := hall m.j m.o hoj
  have hun := ready_unlisted hr
  have hlt : m.j < listed.size := by rw [I.lsz]; exact (Array.getElem?_eq_some_iff.1 hoj).1
  obtain ⟨_, o', ho', hpreds⟩ := mem_ready.1 hr
  rw [hoj] at ho'; cases ho'
  have gd := fun j => getD_set (listed := listed) (k := kAll) rfl (j := j) hlt
  have cl' : Closed ops (fun i => (listed.setIfInBounds m.j true).getD i false = true) := by
    intro i o ho hi ed hed hb
    show (listed.setIfInBounds m.j true).getD ed.on false = true
    rw [gd]
    split
    · rfl
    · have hi' : (listed.setIfInBounds m.j true).getD i false = true := hi
      rw [gd] at hi'
      split at hi'
      · rename_i hij
        subst hij
        rw [hoj] at ho; cases ho
        exact hpreds ed hed hb
      · exact I.cl i o ho hi' ed hed hb
  obtain ⟨A, B, rfl⟩ := List.append_of_mem hm
  have hdb : ∀ u, m.o.dst = some u → u < a.tmps.size := fun u hu => by rw [I.size]; exact opIn_dst hin u hu
  have jne : ∀ m' ∈ A ++ B, m'.j ≠ m.j := by
    intro m' hm' he
    have := I.mnd
    rw [List.map_append, List.map_cons, List.nodup_append] at this
    obtain ⟨_, h2, h3⟩ := this
    rw [List.nodup_cons] at h2
    rcases List.mem_append.1 hm' with h | h
    · exact h3 m'.j (List.mem_map.2 ⟨m', h, rfl⟩) m.j List.mem_cons_self he
    · exact h2.1 (List.mem_map.2 ⟨m', h, he⟩)
  have sub : ∀ m' ∈ A ++ B, m' ∈ A ++ m :: B := fun m' h => by
    rcases List.mem_append.1 h with h | h
    · exact List.mem_append.2 (.inl h)
    · exact List.mem_append.2 (.inr (List.mem_cons_of_mem _ h))
  have ops_ok : ∀ t ∈ m.o.looksAt ops, RV ρ (m.snap t) (a.eval (.tmp t)) := by
    intro t ht
    refine (I.snaps m hm t ht).2 fun m' hm' hd => ?_
    have hb := I.dep m hm m' hm' t ht hd
    have := before_ok ops _ cl' hb (by show (listed.setIfInBounds m.j true).getD m.j false = true; rw [gd, if_pos rfl])
    have h1 : (listed.setIfInBounds m.j true).getD m'.j false = true := this
    rw [gd] at h1
    split at h1
    · rename_i he
      have ho2 := (I.mem m' hm').2
      rw [he, hoj] at ho2
      have : m.o = m'.o := by injection ho2
      exact I.own m hm t ht (by rw [this]; exact hd)
    · exact (I.lst2 m'.j h1).2 m' hm' rfl
  refine (I.fact m hm).exec hoj I.stp.rel ops_ok (fun t ht => by rw [I.size]; exact looks_lt hall hoj ht) (fun q hq => (I.posn m hm q hq).1) fun ρ' w' y hl hv => ?_
  obtain ⟨s1, s2, s3⟩ := late_stp I.stp (I.posn m hm) hl
  refine next (A ++ B) _ ρ' _ w' ?_ rfl
  refine { wf := I.wf, stp := s1, go := I.go, cover := I.cover, disj := I.disj, pnd := I.pnd, lst := ?_, lst2 := ?_, lsz := by rw [Array.size_setIfInBounds]; exact I.lsz, cl := cl', mem := fun m' h => I.mem m' (sub m' h), mnd := ?_,
           dep := fun m1 h1 m2 h2 => I.dep m1 (sub _ h1) m2 (sub _ h2), own := fun m' h => I.own m' (sub m' h), fact := fun m' h => I.fact m' (sub m' h), pers := fun m' h => I.pers m' (sub m' h),
           snaps := fun m' h t ht => (I.snaps m' (sub m' h) t ht).late s2 hv hdb, cur := fun t ht => (I.cur t ht).late s2 hv hdb, now := fun m' h => I.now m' (sub m' h), posn := ?_, posd := fun m1 h1 m2 h2 => I.posd m1 (sub _ h1) m2 (sub _ h2),
           size := by rw [put_size]; exact I.size, dfr := ?_, nf := I.nf, env := I.env, good := I.good, fuel := ?_ }
  · intro i hi
    rw [gd]
    by_cases h : i = m.j
    · left; rw [if_pos h]
    · rw [if_neg h]
      rcases I.lst i hi with h1 | ⟨m', hm', hj⟩
      · exact .inl h1
      · right
        refine ⟨m', ?_, hj⟩
        rcases List.mem_append.1 hm' with h2 | h2
        · exact List.mem_append.2 (.inl h2)
        · rcases List.mem_cons.1 h2 with rfl | h2
          · exact absurd hj.symm h
          · exact List.mem_append.2 (.inr h2)
  · intro i hi
    rw [gd] at hi
    split at hi
    · rename_i he
      subst he
      exact ⟨hpre, jne⟩
    · obtain ⟨h1, h2⟩ := I.lst2 i hi
      exact ⟨h1, fun m' h => h2 m' (sub m' h)⟩
  · refine List.Sublist.nodup ?_ I.mnd
    rw [List.map_append, List.map_append, List.map_cons]
    exact List.Sublist.append (List.Sublist.refl _) (List.sublist_cons_self _ _)
  · intro m' h q hq
    obtain ⟨p1, p2, p3⟩ := I.posn m' (sub m' h) q hq
    refine ⟨s3 q (fun he => ?_) p3 p1, p2, p3⟩
    exact jne m' h (I.posd m' (sub m' h) m hm q hq he)
  · have hd' : (a.put m.o.dst y).defers = a.defers := by cases m.o.dst <;> rfl
    have := I.dfr.mono s2
    unfold DefOk at this ⊢
    rw [hd']; exact this
  · have := I.fuel
    simp only [List.length_append, List.length_cons] at this ⊢
    omega
end
end Go.Ev
namespace Go.Ev
set_option autoImplicit false
variable [Rounds]
open Go

section
variable {P : Program} {ρ : Emb} {h : AH} {w : World} {k : K} {vars stk vars' stk' : List AV} {L : List Nat} {N : Nat} {ops : Array Oper} {Q : Exit → Act → World → Prop} {rec : Rec}
  {ρ₀ : Emb} {h₀ : AH} {w₀ : World} {ex e e' : SEnv} {fuel : Nat} {pre post pend pend' : List Nat} {M : List Ms} {listed : Array Bool} {H H' : AH} {a : Act}

/-- the evaluator goes on alone -/
theorem adv_core {c : Nat} (hall : ∀ (j : Nat) (o : Oper), ops[j]? = some o → opIn N o = true) (I : Inv P rec ops L N Q ρ₀ h₀ w₀ ex fuel pre (c :: post) M listed e vars stk H pend ρ a w) {o : Oper} (ho : ops[c]? = some o) (hfl : isFloat o.op = true)
    {v : AV} {p : Option Pos} (hwf : WF L N e') (hsig : ∀ u, (o.dst = some u → sig L e' vars' stk' u = v ∨ sig L e' vars' stk' u = .undef) ∧ (o.dst ≠ some u → sig L e' vars' stk' u = sig L e vars stk u ∨ sig L e' vars' stk' u = .undef))
    (hf : Fact P L ops H' o (sig L e vars stk) v p) (hH : (p = none ∧ H' = H) ∨ ∃ ob, p = some H.nx ∧ H' = H.new ob) (hpend : ∀ x ∈ pend, x ∈ pend')
    (hpers : c ∈ pend' ∨ ∀ H'' : AH, (∀ q, p = some q → H''.obj q = H'.obj q) → Fact P L ops H'' o (sig L e vars stk) v p) (hdef : DefOk L ρ vars' a)
    (hnf : NF ((cOpsD P L ops (Region.before ops) post pend' e').run rec vars' stk' H')) (henv : opsED L ops post e' = ex) (hg : GoodR L N Q ρ₀ h₀ w₀ ex ((cOpsD P L ops (Region.before ops) post pend' e').run rec vars' stk' H')) :
    Inv P rec ops L N Q ρ₀ h₀ w₀ ex fuel (c :: pre) post (⟨c, o, v, sig L e vars stk, p⟩ :: M) listed e' vars' stk' H' pend' ρ a w := by
  obtain ⟨o', ho', c1, c2, c3, c3s, c4, c5, hgo⟩ := regGo_inv I.go
  rw [ho] at ho'; cases ho'
  have hext : Ext H H' ∧ Stp ρ₀ h₀ w₀ ρ H' w ∧ H.nx.num ≤ H'.nx.num := by
    rcases hH with ⟨_, rfl⟩ | ⟨ob, _, rfl⟩
    · exact ⟨fun _ _ h => h, I.stp, Nat.le_refl _⟩
    · obtain ⟨s1, _, s3⟩ := early_stp I.stp ob
      exact ⟨s3, s1, by rw [AH.nx_new, Pos.num_succ]; omega⟩
  obtain ⟨x1, x2, x3⟩ := hext
  have hc : c ∉ pre := fun hm => I.disj c hm List.mem_cons_self
  have hnd := List.nodup_cons.1 I.pnd
  have cne : ∀ m ∈ M, m.j ≠ c := fun m hm he => hc (he ▸ (I.mem m hm).1)
  have mdst : ∀ m ∈ M, ∀ t, o.dst = some t → m.o.dst ≠ some t ∧ t ∉ m.o.looksAt ops := fun m hm t ht => (c3 hfl t ht).2 m.j (I.mem m hm).1 m.o (I.mem m hm).2
  have keepS : ∀ {x : AV} {t : Nat}, o.dst ≠ some t → SI M ρ a x t → SI (⟨c, o, v, sig L e vars stk, p⟩ :: M) ρ a x t := by
    intro x t hne s
    refine ⟨fun m hm hd => ?_, fun hno => s.2 fun m hm => hno m (List.mem_cons_of_mem _ hm)⟩
    rcases List.mem_cons.1 hm with rfl | hm
    · exact absurd hd hne
    · exact s.1 m hm hd
  refine { wf := hwf, stp := x2, go := hgo, cover := ?_, disj := ?_, pnd := hnd.2, lst := ?_, lst2 := ?_, lsz := I.lsz, cl := I.cl, mem := ?_, mnd := ?_, dep := ?_, own := ?_, fact := ?_, pers := ?_, snaps := ?_, cur := ?_, now := ?_, posn := ?_, posd := ?_,
           size := I.size, dfr := hdef, nf := hnf, env := henv, good := hg, fuel := ?_ }
  · intro i hi
    rcases I.cover i hi with h | h
    · exact .inl (List.mem_cons_of_mem _ h)
    · rcases List.mem_cons.1 h with rfl | h
      · exact .inl List.mem_cons_self
      · exact .inr h
  · intro i hi hp
    rcases List.mem_cons.1 hi with rfl | hi
    · exact hnd.1 hp
    · exact I.disj i hi (List.mem_cons_of_mem _ hp)
  · intro i hi
    rcases List.mem_cons.1 hi with rfl | hi
    · exact .inr ⟨_, List.mem_cons_self, rfl⟩
    · rcases I.lst i hi with h | ⟨m, hm, hj⟩
      · exact .inl h
      · exact .inr ⟨m, List.mem_cons_of_mem _ hm, hj⟩
  · intro i hi
    obtain ⟨h1, h2⟩ := I.lst2 i hi
    refine ⟨List.mem_cons_of_mem _ h1, fun m hm => ?_⟩
    rcases List.mem_cons.1 hm with rfl | hm
    · intro he
      have he : c = i := he
      exact hc (he ▸ h1)
    · exact h2 m hm
  · intro m hm
    rcases List.mem_cons.1 hm with rfl | hm
    · exact ⟨List.mem_cons_self, ho⟩
    · exact ⟨List.mem_cons_of_mem _ (I.mem m hm).1, (I.mem m hm).2⟩
  · rw [List.map_cons, List.nodup_cons]
    refine ⟨fun hm => ?_, I.mnd⟩
    obtain ⟨m, h1, h2⟩ := List.mem_map.1 hm
    exact cne m h1 h2
  · intro m1 h1 m2 h2 t ht hd
    rcases List.mem_cons.1 h1 with rfl | h1
    · rcases List.mem_cons.1 h2 with rfl | h2
      · exact absurd ht (c3 hfl t hd).1
      · exact c4 t ht m2.j (I.mem m2 h2).1 m2.o (I.mem m2 h2).2 hd
    · rcases List.mem_cons.1 h2 with rfl | h2
      · exact absurd ht (mdst m1 h1 t hd).2
      · exact I.dep m1 h1 m2 h2 t ht hd
  · intro m hm t ht hd
    rcases List.mem_cons.1 hm with rfl | hm
    · exact (c3 hfl t hd).1 ht
    · exact I.own m hm t ht hd
  · intro m hm
    rcases List.mem_cons.1 hm with rfl | hm
    · exact hf
    · exact (I.fact m hm).ext x1
  · intro m hm
    rcases List.mem_cons.1 hm with rfl | hm
    · exact hpers
    · rcases I.pers m hm with h | h
      · exact .inl (hpend _ h)
      · right
        intro H'' hq
        refine h H'' fun q hp => ?_
        rw [hq q hp]
        rcases hH with ⟨_, rfl⟩ | ⟨ob, _, rfl⟩
        · rfl
        · rw [AH.obj_new, if_neg]
          rintro rfl
          have := (I.posn m hm _ hp).2.2
          omega
  · intro m hm t ht
    rcases List.mem_cons.1 hm with rfl | hm
    · have htN := looks_lt hall ho ht
      refine keepS (fun hd => (c3 hfl t hd).1 ht) (I.cur t htN)
    · exact keepS (fun hd => (mdst m hm t hd).2 ht) (I.snaps m hm t ht)
  · intro t ht
    have hs := hsig t
    by_cases hd : o.dst = some t
    · refine ⟨fun m hm hmd => ?_, fun hno => absurd hd (hno _ List.mem_cons_self)⟩
      rcases List.mem_cons.1 hm with rfl | hm
      · rcases hs.1 hd with h | h
        · exact .inl h.symm
        · exact .inr h
      · exact absurd hmd (mdst m hm t hd).1
    · have hk := keepS hd (I.cur t ht)
      rcases hs.2 hd with h | h
      · rw [h]; exact hk
      · rw [h]; exact ⟨fun _ _ _ => .inr rfl, fun _ => .undef _⟩
  · intro m hm t ht
    rcases List.mem_cons.1 hm with rfl | hm
    · exact (hsig t).2 fun hd => (c3 hfl t hd).1 ht
    · rcases (hsig t).2 fun hd => (mdst m hm t hd).2 ht with h | h
      · rw [h]; exact I.now m hm t ht
      · exact .inr h
  · intro m hm q hq
    rcases List.mem_cons.1 hm with rfl | hm
    · rcases hH with ⟨h1, _⟩ | ⟨ob, h1, h2⟩
      · rw [show p = some q from hq] at h1; cases h1
      · rw [show p = some q from hq] at h1; cases h1
        refine ⟨I.stp.rel.nx_none, I.stp.nx, ?_⟩
        rw [h2, AH.nx_new, Pos.num_succ]; omega
    · obtain ⟨p1, p2, p3⟩ := I.posn m hm q hq
      exact ⟨p1, p2, Nat.lt_of_lt_of_le p3 x3⟩
  · have fresh : ∀ m ∈ M, ∀ q, p = some q → m.pos = some q → False := by
      intro m hm q h1 h2
      rcases hH with ⟨h3, _⟩ | ⟨ob, h3, _⟩
      · rw [h1] at h3; cases h3
      · rw [h1] at h3; cases h3
        have := (I.posn m hm _ h2).2.2
        omega
    intro m1 h1 m2 h2 q q1 q2
    rcases List.mem_cons.1 h1 with rfl | h1
    · rcases List.mem_cons.1 h2 with rfl | h2
      · rfl
      · exact (fresh m2 h2 q q1 q2).elim
    · rcases List.mem_cons.1 h2 with rfl | h2
      · exact (fresh m1 h1 q q2 q1).elim
      · exact I.posd m1 h1 m2 h2 q q1 q2
  · have := I.fuel
    simp only [List.length_cons] at this ⊢
    omega

/-- a float, and its guard -/
theorem guarded_run {o : Oper} {c : COp} {r : CI} (hn : NF ((guarded L ops e o c r).run rec vars stk H)) :
    (GSays ops o (sig L e vars stk) true ∧ (guarded L ops e o c r).run rec vars stk H = runOp c rec ((dstOf L o.dst).k r.run rec) vars stk H) ∨
    (GSays ops o (sig L e vars stk) false ∧ (guarded L ops e o c r).run rec vars stk H = r.run rec ((dstOf L o.dst).vs (.tup []) vars) ((dstOf L o.dst).ss (.tup []) stk) H) := by
  unfold guarded at hn ⊢
  unfold GSays
  cases hg : o.guard with
  | none => exact .inl ⟨rfl, rfl⟩
  | some gw =>
    obtain ⟨j, want⟩ := gw
    rw [hg] at hn
    simp only at hn ⊢
    cases hj : gslot ops j with
    | none => rw [hj] at hn; exact absurd rfl (hn 122)
    | some t =>
      rw [hj] at hn
      simp only at hn ⊢
      have hn' : NF (guardC (resT L e t) want (runOp c rec ((dstOf L o.dst).k r.run rec)) ((dstOf L o.dst).k r.run rec (.tup [])) vars stk H) := hn
      rcases guard_inv hn' with ⟨h1, h2⟩ | ⟨h1, h2⟩
      · exact .inl ⟨⟨t, rfl, .inl ⟨trivial, h1⟩⟩, h2⟩
      · refine .inr ⟨⟨t, rfl, .inr ⟨trivial, h1⟩⟩, ?_⟩
        exact h2.trans (dst_k _ _ _ _)

/-- the next operation in the evaluator's order may wait: it is carried out there, and waits -/
theorem advance {c : Nat} (hall : ∀ (j : Nat) (o : Oper), ops[j]? = some o → opIn N o = true) (hN : N ≤ slotD) (I : Inv P rec ops L N Q ρ₀ h₀ w₀ ex fuel pre (c :: post) M listed e vars stk H pend ρ a w) {o : Oper} (ho : ops[c]? = some o) (hfl : isFloat o.op = true) :
    ∃ e' vars' stk' H' pend' v p, Inv P rec ops L N Q ρ₀ h₀ w₀ ex fuel (c :: pre) post (⟨c, o, v, sig L e vars stk, p⟩ :: M) listed e' vars' stk' H' pend' ρ a w := by
  have hin := hall c o ho
  have hn := I.nf
  have hg := I.good
  have he := I.env
  unfold cOpsD at hn hg
  unfold opsED at he
  rw [ho] at hn hg he
  simp only at hn hg he
  unfold envOf at he
  cases hal : aliasOf L e o with
  | some e' =>
    rw [hal] at hn hg he
    simp only at hn hg he
    obtain ⟨x, t, hgd, hop, hd, hwf, hsg⟩ := sig_alias (vars := vars) (stk := stk) I.wf hal (fun x hx => opIn_ops hin x (by rw [hx]; simp [Op.operands]))
    refine ⟨e', vars, stk, H, pend, (res L e x).ev vars stk, none, adv_core hall I ho hfl hwf (fun u => ?_) ?_ (.inl ⟨rfl, rfl⟩) (fun _ h => h) (.inr fun H'' _ => ?_) I.dfr hn he hg⟩
    · rw [hsg u, hd]
      by_cases hu : u = t
      · subst hu; rw [if_pos rfl]; exact ⟨fun _ => .inl rfl, fun h => absurd rfl h⟩
      · rw [if_neg hu]; exact ⟨fun h => by cases h; exact absurd rfl hu, fun _ => .inl rfl⟩
    · refine .run ?_ e vars stk _ (fun _ _ => .inl rfl) ?_ ?_
      · unfold GSays; rw [hgd]
      · rw [hop]; rfl
      · intro rec k; rw [hop]; rfl
    · refine .run ?_ e vars stk _ (fun _ _ => .inl rfl) ?_ ?_
      · unfold GSays; rw [hgd]
      · rw [hop]; rfl
      · intro rec k; rw [hop]; rfl
  | none =>
    rw [hal] at hn hg he
    simp only [hfl] at hn hg he
    have hwf := wf_after I.wf o.dst
    have hsg := fun v u => sig_after (vars := vars) (stk := stk) I.wf o.dst v u
    have hdf := fun v => DefOk.put' hN (a := a) (a' := a) rfl I.dfr o.dst (opIn_dst hin) v
    have skipF : GSays ops o (sig L e vars stk) false → ∀ H'', Fact P L ops H'' o (sig L e vars stk) (.tup []) none := fun h _ => .skip h
    cases hf : floatC (cOp P L e o.op) with
    | true =>
      rw [hf] at hn hg
      simp only at hn hg
      rcases guarded_run hn with ⟨h1, h2⟩ | ⟨h1, h2⟩
      · rw [h2] at hn hg
        obtain ⟨v, hv⟩ := float_ok hf hn
        have hv0 := hv H (fun _ _ _ h => h) rec ((dstOf L o.dst).k (cOpsD P L ops (Region.before ops) post (cond (memC (cOp P L e o.op)) (c :: pend) pend) (e.after (dstOf L o.dst))).run rec)
        rw [hv0, dst_k] at hn hg
        refine ⟨_, _, _, H, _, v, none, adv_core hall I ho hfl hwf (hsg v) ?_ (.inl ⟨rfl, rfl⟩) (fun x hx => ?_) ?_ (hdf v) hn he hg⟩
        · exact .run h1 e vars stk v (fun _ _ => .inl rfl) hf fun rec' k' => hv H (fun _ _ _ h => h) rec' k'
        · cases memC (cOp P L e o.op) with
          | true => exact List.mem_cons_of_mem _ hx
          | false => exact hx
        · cases hm : memC (cOp P L e o.op) with
          | true => exact .inl List.mem_cons_self
          | false => exact .inr fun H'' _ => .run h1 e vars stk v (fun _ _ => .inl rfl) hf fun rec' k' => hv H'' (fun hh => by rw [hm] at hh; cases hh) rec' k'
      · rw [h2] at hn hg
        refine ⟨_, _, _, H, _, .tup [], none, adv_core hall I ho hfl hwf (hsg _) (skipF h1 H) (.inl ⟨rfl, rfl⟩) (fun x hx => ?_) (.inr fun H'' _ => skipF h1 H'') (hdf _) hn he hg⟩
        cases memC (cOp P L e o.op) with
        | true => exact List.mem_cons_of_mem _ hx
        | false => exact hx
    | false =>
      rw [hf] at hn hg
      cases ha : allocC (cOp P L e o.op) with
      | false => rw [ha] at hn; exact absurd rfl (hn 155)
      | true =>
        rw [ha] at hn hg
        simp only at hn hg
        rcases guarded_run hn with ⟨h1, h2⟩ | ⟨h1, h2⟩
        · rw [h2] at hn hg
          obtain ⟨v, ob, hv⟩ := alloc_abs ha hn
          have hv0 := hv rec ((dstOf L o.dst).k (cOpsD P L ops (Region.before ops) post pend (e.after (dstOf L o.dst))).run rec)
          rw [hv0, dst_k] at hn hg
          have fct : ∀ H'' : AH, H''.obj H.nx = some ob → Fact P L ops H'' o (sig L e vars stk) v (some H.nx) := fun H'' hob => .alloc h1 e vars stk v H ob (fun _ _ => .inl rfl) ha hv hob
          have hob : (H.new ob).obj H.nx = some ob := by rw [AH.obj_new, if_pos rfl]
          exact ⟨_, _, _, H.new ob, pend, v, some H.nx, adv_core hall I ho hfl hwf (hsg v) (fct _ hob) (.inr ⟨ob, rfl, rfl⟩) (fun _ h => h) (.inr fun H'' hq => fct H'' (by rw [hq _ rfl]; exact hob)) (hdf v) hn he hg⟩
        · rw [h2] at hn hg
          exact ⟨_, _, _, H, _, .tup [], none, adv_core hall I ho hfl hwf (hsg _) (skipF h1 H) (.inl ⟨rfl, rfl⟩) (fun _ h => h) (.inr fun H'' _ => skipF h1 H'') (hdf _) hn he hg⟩

/-- what the checks say -/
theorem chks_inv {r : CI} : ∀ (js : List Nat), NF ((cChks P L ops e r js).run rec vars stk H) → (cChks P L ops e r js).run rec vars stk H = r.run rec vars stk H ∧
    ∀ j ∈ js, ∃ o t, ops[j]? = some o ∧ o.dst = some t ∧ (GSays ops o (sig L e vars stk) false ∨ (GSays ops o (sig L e vars stk) true ∧ floatC (cOp P L e o.op) = true ∧ sig L e vars stk t ≠ .undef ∧
      ∀ (rec' : Rec) (k' : K), runOp (cOp P L e o.op) rec' k' vars stk H = k' (sig L e vars stk t) vars stk H)) := by
  intro js
  induction js with
  | nil => intro hn; exact ⟨rfl, fun j hj => by cases hj⟩
  | cons j js ih =>
    intro hn
    unfold cChks at hn ⊢
    cases ho : ops[j]? with
    | none => rw [ho] at hn; exact absurd rfl (hn 154)
    | some o =>
      rw [ho] at hn
      simp only at hn ⊢
      cases hd : o.dst with
      | none => rw [hd] at hn; exact absurd rfl (hn 153)
      | some t =>
        rw [hd] at hn
        simp only at hn ⊢
        by_cases hf : floatC (cOp P L e o.op) = true
        · rw [if_pos hf] at hn ⊢
          have one : ∀ {nx : List AV → List AV → AH → R}, NF (runOp (cOp P L e o.op) rec (sameK (resT L e t) nx) vars stk H) → runOp (cOp P L e o.op) rec (sameK (resT L e t) nx) vars stk H = nx vars stk H ∧ sig L e vars stk t ≠ .undef ∧
              ∀ (rec' : Rec) (k' : K), runOp (cOp P L e o.op) rec' k' vars stk H = k' (sig L e vars stk t) vars stk H := by
            intro nx hn
            obtain ⟨v, hv⟩ := float_ok hf hn
            have hv0 := hv H (fun _ _ _ h => h)
            rw [hv0] at hn ⊢
            obtain ⟨c1, c2⟩ := ifR_inv (show NF (ifR (sameF 9 v ((resT L e t).ev vars stk)) (nx vars stk H)) from hn)
            have he := sameF_eq _ _ _ c1
            refine ⟨c2, fun hu => ?_, fun rec' k' => by rw [hv0, he]; rfl⟩
            have hu : (resT L e t).ev vars stk = .undef := hu
            rw [hu] at c1
            cases v <;> cases c1
          cases hg : o.guard with
          | none =>
            rw [hg] at hn
            simp only at hn ⊢
            have hn' : NF (runOp (cOp P L e o.op) rec (sameK (resT L e t) ((cChks P L ops e r js).run rec)) vars stk H) := hn
            obtain ⟨a1, a2, a3⟩ := one hn'
            have hn2 : NF ((cChks P L ops e r js).run rec vars stk H) := by rw [← a1]; exact hn'
            obtain ⟨b1, b2⟩ := ih hn2
            refine ⟨a1.trans b1, fun j' hj' => ?_⟩
            rcases List.mem_cons.1 hj' with rfl | hj'
            · exact ⟨o, t, ho, hd, .inr ⟨by unfold GSays; rw [hg], hf, a2, a3⟩⟩
            · exact b2 j' hj'
          | some gw =>
            obtain ⟨g, want⟩ := gw
            rw [hg] at hn
            simp only at hn ⊢
            cases hu : gslot ops g with
            | none => rw [hu] at hn; exact absurd rfl (hn 151)
            | some u =>
              rw [hu] at hn
              simp only at hn ⊢
              have hn' : NF (guardC (resT L e u) want (runOp (cOp P L e o.op) rec (sameK (resT L e t) ((cChks P L ops e r js).run rec))) ((cChks P L ops e r js).run rec) vars stk H) := hn
              rcases guard_inv hn' with ⟨h1, h2⟩ | ⟨h1, h2⟩
              · rw [h2] at hn'
                obtain ⟨a1, a2, a3⟩ := one hn'
                have hn2 : NF ((cChks P L ops e r js).run rec vars stk H) := by rw [← a1]; exact hn'
                obtain ⟨b1, b2⟩ := ih hn2
                refine ⟨(h2.trans a1).trans b1, fun j' hj' => ?_⟩
                rcases List.mem_cons.1 hj' with rfl | hj'
                · exact ⟨o, t, ho, hd, .inr ⟨by unfold GSays; rw [hg]; exact ⟨u, hu, .inl ⟨rfl, h1⟩⟩, hf, a2, a3⟩⟩
                · exact b2 j' hj'
              · rw [h2] at hn'
                obtain ⟨b1, b2⟩ := ih hn'
                refine ⟨h2.trans b1, fun j' hj' => ?_⟩
                rcases List.mem_cons.1 hj' with rfl | hj'
                · exact ⟨o, t, ho, hd, .inl (by unfold GSays; rw [hg]; exact ⟨u, hu, .inr ⟨rfl, h1⟩⟩)⟩
                · exact b2 j' hj'
        · rw [if_neg hf] at hn; exact absurd rfl (hn 152)
end
end Go.Ev
namespace Go.Ev
set_option autoImplicit false
variable [Rounds]
open Go

section
variable {P : Program} {ρ : Emb} {h : AH} {w : World} {k : K} {vars stk vars' stk' : List AV} {L : List Nat} {N : Nat} {ops : Array Oper} {Q : Exit → Act → World → Prop} {rec : Rec}
  {ρ₀ : Emb} {h₀ : AH} {w₀ : World} {ex e e' : SEnv} {fuel : Nat} {pre post pend pend' : List Nat} {M : List Ms} {listed : Array Bool} {H H' : AH} {a : Act}

/-- an operation with an effect -/
theorem spine {c : Nat} (hrec : RecOk P rec) (hall : ∀ (j : Nat) (o : Oper), ops[j]? = some o → opIn N o = true) (hN : N ≤ slotD) (I : Inv P rec ops L N Q ρ₀ h₀ w₀ ex (fuel + 1) pre (c :: post) M listed e vars stk H pend ρ a w) {o : Oper} (ho : ops[c]? = some o)
    (hfl : isFloat o.op = false) (hr : c ∈ Region.ready .any ops listed)
    (next : ∀ listed' e' vars' stk' H' pend' ρ' a' w', Inv P rec ops L N Q ρ₀ h₀ w₀ ex fuel (c :: pre) post M listed' e' vars' stk' H' pend' ρ' a' w' → listed' = listed.setIfInBounds c true → wpAny P .any ops Q fuel listed' a' w') :
    wpOp P ops Q c (wpAny P .any ops Q fuel (listed.setIfInBounds c true)) a w := by
  have hin := hall c o ho
  obtain ⟨o', ho', c1, c2, c3, c3s, c4, c5, hgo⟩ := regGo_inv I.go
  rw [ho] at ho'; cases ho'
  have hc : c ∉ pre := fun hm => I.disj c hm List.mem_cons_self
  have hnd := List.nodup_cons.1 I.pnd
  have cne : ∀ m ∈ M, m.j ≠ c := fun m hm he => hc (he ▸ (I.mem m hm).1)
  have hlt : c < listed.size := by rw [I.lsz]; exact (Array.getElem?_eq_some_iff.1 ho).1
  obtain ⟨_, o', ho', hpreds⟩ := mem_ready.1 hr
  rw [ho] at ho'; cases ho'
  have gd := fun j => getD_set (listed := listed) (k := kAll) rfl (j := j) hlt
  have cl' : Closed ops (fun i => (listed.setIfInBounds c true).getD i false = true) := by
    intro i o2 ho2 hi ed hed hb
    show (listed.setIfInBounds c true).getD ed.on false = true
    rw [gd]
    split
    · rfl
    · have hi' : (listed.setIfInBounds c true).getD i false = true := hi
      rw [gd] at hi'
      split at hi'
      · rename_i hij
        subst hij
        rw [ho] at ho2; cases ho2
        exact hpreds ed hed hb
      · exact I.cl i o2 ho2 hi' ed hed hb
  have notanc : ∀ m ∈ M, ¬ ((Region.before ops).getD c 0).testBit m.j = true := by
    intro m hm hb
    have h1 : (listed.setIfInBounds c true).getD m.j false = true := before_ok ops _ cl' hb (by show (listed.setIfInBounds c true).getD c false = true; rw [gd, if_pos rfl])
    rw [gd, if_neg (cne m hm)] at h1
    exact (I.lst2 m.j h1).2 m hm rfl
  have mdst : ∀ m ∈ M, ∀ t, o.dst = some t → m.o.dst ≠ some t ∧ t ∉ m.o.looksAt ops := by
    intro m hm t ht
    rcases c3s hfl t ht m.j (I.mem m hm).1 with h | h
    · exact absurd h (notanc m hm)
    · exact h m.o (I.mem m hm).2
  have looks : ∀ t ∈ o.looksAt ops, RV ρ (sig L e vars stk t) (a.eval (.tmp t)) := by
    intro t ht
    refine (I.cur t (looks_lt hall ho ht)).2 fun m hm hd => notanc m hm (c4 t ht m.j (I.mem m hm).1 m.o (I.mem m hm).2 hd)
  have hdb : ∀ u, o.dst = some u → u < a.tmps.size := fun u hu => by rw [I.size]; exact opIn_dst hin u hu
  have hn := I.nf
  have hg := I.good
  have he := I.env
  unfold cOpsD at hn hg
  unfold opsED at he
  rw [ho] at hn hg he
  simp only at hn hg he
  have hal : aliasOf L e o = none := by
    cases hal : aliasOf L e o with
    | none => rfl
    | some e' =>
      obtain ⟨_, x, t, hop, _⟩ := alias_inv hal
      rw [hop] at hfl; cases hfl
  unfold envOf at he
  rw [hal] at hn hg he
  simp only [hfl] at hn hg he
  cases hst : stepC (cOp P L e o.op) with
  | false => rw [hst] at hn; exact absurd rfl (hn 156)
  | true =>
  rw [hst] at hn hg
  simp only at hn hg
  have fin : ∀ (v : AV) (h' : AH) (ρ' : Emb) (w' : World) (y : Value), Stp ρ H w ρ' h' w' → RV ρ' v y →
      NF ((cChks P L ops (e.after (dstOf L o.dst)) (cOpsD P L ops (Region.before ops) post (pend.filter fun j => !((Region.before ops).getD c 0).testBit j) (e.after (dstOf L o.dst))) (pend.filter fun j => !((Region.before ops).getD c 0).testBit j)).run rec ((dstOf L o.dst).vs v vars) ((dstOf L o.dst).ss v stk) h') →
      GoodR L N Q ρ₀ h₀ w₀ ex ((cChks P L ops (e.after (dstOf L o.dst)) (cOpsD P L ops (Region.before ops) post (pend.filter fun j => !((Region.before ops).getD c 0).testBit j) (e.after (dstOf L o.dst))) (pend.filter fun j => !((Region.before ops).getD c 0).testBit j)).run rec ((dstOf L o.dst).vs v vars) ((dstOf L o.dst).ss v stk) h') →
      wpAny P .any ops Q fuel (listed.setIfInBounds c true) (a.put o.dst y) w' := by
    intro v h' ρ' w' y st hv hn' hg'
    obtain ⟨ceq, cf⟩ := chks_inv _ hn'
    rw [ceq] at hn' hg'
    have hsg := fun u => sig_after (vars := vars) (stk := stk) I.wf o.dst v u
    have unr : ∀ m ∈ M, ∀ q, m.pos = some q → ρ' q = none ∧ h'.obj q = H.obj q := fun m hm q hq => st.unr q (I.posn m hm q hq).2.2 (I.posn m hm q hq).1
    have now' : ∀ m ∈ M, ∀ t ∈ m.o.looksAt ops, sig L (e.after (dstOf L o.dst)) ((dstOf L o.dst).vs v vars) ((dstOf L o.dst).ss v stk) t = m.snap t ∨ sig L (e.after (dstOf L o.dst)) ((dstOf L o.dst).vs v vars) ((dstOf L o.dst).ss v stk) t = .undef := by
      intro m hm t ht
      rcases (hsg t).2 fun hd => (mdst m hm t hd).2 ht with h | h
      · rw [h]; exact I.now m hm t ht
      · exact .inr h
    have keep : ∀ {x : AV} {t : Nat}, o.dst ≠ some t → SI M ρ a x t → SI M ρ' (a.put o.dst y) x t := by
      intro x t hne s
      exact ⟨s.1, fun hno => by rw [put_other a y hdb hne]; exact (s.2 hno).mono st.le⟩
    have cur' : ∀ t, t < N → SI M ρ' (a.put o.dst y) (sig L (e.after (dstOf L o.dst)) ((dstOf L o.dst).vs v vars) ((dstOf L o.dst).ss v stk) t) t := by
      intro t ht
      by_cases hd : o.dst = some t
      · refine ⟨fun m hm hmd => absurd hmd (mdst m hm t hd).1, fun _ => ?_⟩
        rw [put_here a y hdb hd]
        rcases (hsg t).1 hd with h | h <;> rw [h]
        · exact hv
        · exact .undef _
      · rcases (hsg t).2 hd with h | h
        · rw [h]; exact keep hd (I.cur t ht)
        · rw [h]; exact ⟨fun _ _ _ => .inr rfl, fun _ => .undef _⟩
    have inpend : ∀ m ∈ M, m.j ∈ pend → m.j ∈ pend.filter fun j => !((Region.before ops).getD c 0).testBit j := by
      intro m hm hp
      refine List.mem_filter.2 ⟨hp, ?_⟩
      have := notanc m hm
      simpa using this
    have fact' : ∀ m ∈ M, Fact P L ops h' m.o m.snap m.val m.pos := by
      intro m hm
      have old := I.fact m hm
      obtain ⟨mj, mo, mval, msnap, mpos⟩ := m
      simp only at old ⊢
      cases old with
      | skip hg => exact .skip hg
      | alloc hg e0 v0 s0 _ h1 ob hs ha hr hobj =>
        exact .alloc hg e0 v0 s0 _ h1 ob hs ha hr (by rw [(unr _ hm _ rfl).2]; exact hobj)
      | run hg e0 v0 s0 _ hs hf hr =>
        rcases I.pers _ hm with hp | hp
        · obtain ⟨o2, t, h1, h2, h3⟩ := cf _ (inpend _ hm hp)
          have := (I.mem _ hm).2
          rw [h1] at this; cases this
          rcases h3 with h3 | ⟨h3, h4, h5, h6⟩
          · exact (GSays.both hg (h3.trans fun t ht => now' _ hm t ht)).elim
          · have hc := (cur' t (opIn_dst (hall _ _ h1) t h2)).1 _ hm h2
            rcases hc with hc | hc
            · have hc : mval = _ := hc
              rw [hc]
              exact .run (h3.trans fun t ht => now' _ hm t ht) _ _ _ _ (fun t ht => now' _ hm t ht) h4 h6
            · exact absurd hc h5
        · exact hp h' fun q hq => by cases hq
    refine next _ (e.after (dstOf L o.dst)) ((dstOf L o.dst).vs v vars) ((dstOf L o.dst).ss v stk) h' (pend.filter fun j => !((Region.before ops).getD c 0).testBit j) ρ' _ w' ?_ rfl
    refine { wf := wf_after I.wf o.dst, stp := I.stp.trans st, go := hgo, cover := ?_, disj := ?_, pnd := hnd.2, lst := ?_, lst2 := ?_, lsz := by rw [Array.size_setIfInBounds]; exact I.lsz, cl := cl', mem := fun m hm => ⟨List.mem_cons_of_mem _ (I.mem m hm).1, (I.mem m hm).2⟩,
             mnd := I.mnd, dep := I.dep, own := I.own, fact := fact', pers := ?_, snaps := fun m hm t ht => keep (fun hd => (mdst m hm t hd).2 ht) (I.snaps m hm t ht), cur := cur', now := now', posn := ?_, posd := I.posd,
             size := by rw [put_size]; exact I.size, dfr := ?_, nf := hn', env := he, good := hg', fuel := ?_ }
    · intro i hi
      rcases I.cover i hi with h | h
      · exact .inl (List.mem_cons_of_mem _ h)
      · rcases List.mem_cons.1 h with rfl | h
        · exact .inl List.mem_cons_self
        · exact .inr h
    · intro i hi hp
      rcases List.mem_cons.1 hi with rfl | hi
      · exact hnd.1 hp
      · exact I.disj i hi (List.mem_cons_of_mem _ hp)
    · intro i hi
      rw [gd]
      rcases List.mem_cons.1 hi with rfl | hi
      · exact .inl (if_pos rfl)
      · rcases I.lst i hi with h | h
        · left; split; rfl; exact h
        · exact .inr h
    · intro i hi
      rw [gd] at hi
      split at hi
      · rename_i hic
        subst hic
        exact ⟨List.mem_cons_self, cne⟩
      · obtain ⟨h1, h2⟩ := I.lst2 i hi
        exact ⟨List.mem_cons_of_mem _ h1, h2⟩
    · intro m hm
      rcases I.pers m hm with hp | hp
      · exact .inl (inpend m hm hp)
      · exact .inr fun H'' hq => hp H'' fun q hq' => by rw [hq q hq', (unr m hm q hq').2]
    · intro m hm q hq
      obtain ⟨p1, p2, p3⟩ := I.posn m hm q hq
      exact ⟨(unr m hm q hq).1, p2, Nat.lt_of_lt_of_le p3 st.nx⟩
    · exact DefOk.put' hN (by cases o.dst <;> rfl) (I.dfr.mono st.le) o.dst (opIn_dst hin) v
    · have := I.fuel
      simp only [List.length_cons] at this ⊢
      omega
  unfold wpOp
  simp only [ho]
  rcases guarded_run hn with ⟨h1, h2⟩ | ⟨h1, h2⟩
  · rw [if_pos (h1.wanted looks fun t ht => by rw [I.size]; exact looks_lt hall ho ht)]
    left
    rw [h2] at hn hg
    refine oper_ok hrec I.stp.rel o (operand_of (H := H) (snap := sig L e vars stk) (fun _ _ => .inl rfl) looks) rfl hst hn (fun v h' ρ' w' y a1 a2 a3 => ?_) (fun v h' ρ' w' y a1 a2 a3 => ?_)
    · rw [a1, dst_k] at hn hg
      exact fin v h' ρ' w' y a2 a3 hn hg
    · rw [a1] at hg
      have hpst : PSt L N ρ' vars a := by
        by_cases hsl : idxOf slotD L 0 = none
        · right
          have hd := I.dfr
          unfold DefOk at hd
          rw [hsl] at hd
          exact ⟨hsl, hd⟩
        left
        refine ⟨fun t ht => ?_, I.size, I.dfr.mono a2.le⟩
        unfold sig
        rw [resT_eq]
        show RV ρ' ((resOf 0 (idxOf t L 0) none).ev vars []) _
        cases hi : idxOf t L 0 with
        | none => exact .undef _
        | some i =>
          have hcur := (I.cur t ht).2 fun m hm hd => by
            rcases c5 hfl hsl m.j (I.mem m hm).1 with h | h
            · exact notanc m hm h
            · rw [h m.o t (I.mem m hm).2 hd] at hi; cases hi
          unfold sig at hcur
          rw [resT_var I.wf hi] at hcur
          exact hcur.mono a2.le
      exact hg ρ' w' a y (I.stp.trans a2) hpst a3
  · rw [if_neg (by rw [h1.wanted looks fun t ht => by rw [I.size]; exact looks_lt hall ho ht]; simp)]
    rw [h2] at hn hg
    exact fin (.tup []) H ρ w undef (Stp.refl I.stp.rel) (.tup [] #[] rfl (by simp)) hn hg

theorem find_it {c : Nat} (hrec : RecOk P rec) (hall : ∀ (j : Nat) (o : Oper), ops[j]? = some o → opIn N o = true) (hN : N ≤ slotD) (hr : c ∈ Region.ready .any ops listed)
    (next : ∀ pre post M listed' e vars stk H pend ρ a w, Inv P rec ops L N Q ρ₀ h₀ w₀ ex fuel pre post M listed' e vars stk H pend ρ a w → wpAny P .any ops Q fuel listed' a w) : ∀ (post : List Nat) {pre : List Nat} {M : List Ms} {e : SEnv} {vars stk : List AV} {H : AH} {pend : List Nat},
    Inv P rec ops L N Q ρ₀ h₀ w₀ ex (fuel + 1) pre post M listed e vars stk H pend ρ a w → c ∈ post → wpOp P ops Q c (wpAny P .any ops Q fuel (listed.setIfInBounds c true)) a w
  | [], _, _, _, _, _, _, _, _, hc => by cases hc
  | d :: post, pre, M, e, vars, stk, H, pend, I, hc => by
    obtain ⟨o, ho, c1, c2, _⟩ := regGo_inv I.go
    cases hfl : isFloat o.op with
    | true =>
      obtain ⟨e', vars', stk', H', pend', v, p, I'⟩ := advance hall hN I ho hfl
      rcases List.mem_cons.1 hc with rfl | hc
      · exact run_missing hall hN I' (m := ⟨c, o, v, sig L e vars stk, p⟩) List.mem_cons_self hr fun M' listed' ρ' a' w' I2 _ => next _ _ _ _ _ _ _ _ _ _ _ _ I2
      · exact find_it hrec hall hN hr next post I' hc
    | false =>
      rcases List.mem_cons.1 hc with rfl | hc
      · exact spine hrec hall hN I ho hfl hr fun listed' e' vars' stk' H' pend' ρ' a' w' I2 _ => next _ _ _ _ _ _ _ _ _ _ _ _ I2
      · exfalso
        obtain ⟨oj, hoj, ed, h1, h2, h3⟩ := c2 hfl c hc
        obtain ⟨_, o', ho', hpreds⟩ := mem_ready.1 hr
        rw [hoj] at ho'; cases ho'
        exact h3 (I.lst2 _ (hpreds ed h1 h2)).1

theorem draw_main {order : List Nat} (hrec : RecOk P rec) (hall : ∀ (j : Nat) (o : Oper), ops[j]? = some o → opIn N o = true) (hN : N ≤ slotD) (hgo : regGo L ops (Region.before ops) [] order = true) (hcov : ∀ i, i < ops.size → i ∈ order) :
    ∀ (fuel : Nat) (pre post : List Nat) (M : List Ms) (listed : Array Bool) (e : SEnv) (vars stk : List AV) (H : AH) (pend : List Nat) (ρ : Emb) (a : Act) (w : World),
    Inv P rec ops L N Q ρ₀ h₀ w₀ ex fuel pre post M listed e vars stk H pend ρ a w → wpAny P .any ops Q fuel listed a w := by
  intro fuel
  induction fuel with
  | zero =>
    intro pre post M listed e vars stk H pend ρ a w I
    have hf := I.fuel
    have hp : post = [] := List.length_eq_zero_iff.1 (by omega)
    have hM : M = [] := List.length_eq_zero_iff.1 (by omega)
    subst hp; subst hM
    refine ⟨?_, ?_⟩
    · cases hr : Region.ready .any ops listed with
      | nil => rfl
      | cons i l =>
        exfalso
        have hi : i ∈ Region.ready .any ops listed := by rw [hr]; exact List.mem_cons_self
        have hu := ready_unlisted hi
        obtain ⟨_, o, ho, _⟩ := mem_ready.1 hi
        rcases I.cover i (Array.getElem?_eq_some_iff.1 ho).1 with h | h
        · rcases I.lst i h with h | ⟨m, hm, _⟩
          · rw [hu] at h; cases h
          · cases hm
        · cases h
    · have hg := I.good
      have he := I.env
      unfold opsED at he
      unfold cOpsD at hg
      subst he
      exact hg ρ w a I.stp ⟨fun t ht => (I.cur t ht).2 (fun m hm => by cases hm), I.size, I.dfr⟩
  | succ fuel ih =>
    intro pre post M listed e vars stk H pend ρ a w I
    refine ⟨fun hr => ?_, fun i hi => ?_⟩
    · exfalso
      have hun : ∃ i, i < ops.size ∧ listed.getD i false = false := by
        have unl : ∀ i, (listed.getD i false = true → False) → listed.getD i false = false := fun i h => by
          cases hb : listed.getD i false with
          | false => rfl
          | true => exact (h hb).elim
        cases hp : post with
        | cons c l =>
          have hc : c ∈ post := by rw [hp]; exact List.mem_cons_self
          have hgo' := I.go
          rw [hp] at hgo'
          obtain ⟨o, ho, _⟩ := regGo_inv hgo'
          exact ⟨c, (Array.getElem?_eq_some_iff.1 ho).1, unl c fun h => I.disj c (I.lst2 c h).1 hc⟩
        | nil =>
          have hf := I.fuel
          rw [hp] at hf
          cases hM : M with
          | nil => rw [hM] at hf; simp at hf
          | cons m l =>
            have hm : m ∈ M := by rw [hM]; exact List.mem_cons_self
            exact ⟨m.j, (Array.getElem?_eq_some_iff.1 (I.mem m hm).2).1, unl _ fun h => (I.lst2 _ h).2 m hm rfl⟩
      obtain ⟨i, h1, h2⟩ := hun
      obtain ⟨j, hj⟩ := exists_ready (listed := listed) [] hgo (fun i hi => by cases hi) I.lsz ⟨i, hcov i h1, h2⟩
      rw [hr] at hj; cases hj
    · have hu := ready_unlisted hi
      obtain ⟨_, o, ho, _⟩ := mem_ready.1 hi
      rcases I.cover i (Array.getElem?_eq_some_iff.1 ho).1 with h | h
      · rcases I.lst i h with h | ⟨m, hm, rfl⟩
        · rw [hu] at h; cases h
        · exact run_missing hall hN I hm hi fun M' listed' ρ' a' w' I2 _ => ih _ _ _ _ _ _ _ _ _ _ _ _ I2
      · exact find_it hrec hall hN hi ih post I h

theorem draw_ok {id : Nat} {order : List Nat} (hrec : RecOk P rec) (hall : ∀ (j : Nat) (o : Oper), ops[j]? = some o → opIn N o = true) (hN : N ≤ slotD) (hm : P.follows .mixedOrders = true) (hok : regOk L ops order = true)
    (hn : NF ((cOpsD P L ops (Region.before ops) order [] e).run rec vars stk h)) (r : Rel ρ h w) (hw : WF L N e) (s : St L N ρ e vars stk a)
    (g : GoodR L N Q ρ h w (opsED L ops order e) ((cOpsD P L ops (Region.before ops) order [] e).run rec vars stk h)) : (Code.region id ops true).wp P Q a w := by
  unfold regOk at hok
  have o1 := Bool.and_eq_true_iff.1 hok
  have o2 := Bool.and_eq_true_iff.1 o1.2
  have o3 := Bool.and_eq_true_iff.1 o2.2
  have hlen := beq_iff.1 o1.1
  have hnd := nodupL_iff o2.1
  have hcov : ∀ i, i < ops.size → i ∈ order := by
    intro i hi
    have := o3.1
    rw [List.all_eq_true] at this
    exact memL_iff.1 (this i (List.mem_range.2 hi))
  have st := stp_same r { w with drawn := w.drawn + 1 } rfl rfl rfl rfl (Nat.le_succ _)
  refine wp_region_any hm (draw_main (ρ₀ := ρ) (h₀ := h) (w₀ := { w with drawn := w.drawn + 1 }) (ex := opsED L ops order e) hrec hall hN o3.2 hcov ops.size [] order [] (Array.replicate ops.size false) e vars stk h [] ρ a _ ?_)
  have un : ∀ i, (Array.replicate ops.size false).getD i false = true → False := by
    intro i hi
    rw [Array.getD_eq_getD_getElem?] at hi
    cases hq : (Array.replicate ops.size false)[i]? with
    | none => rw [hq] at hi; cases hi
    | some b =>
      rw [hq] at hi
      rw [Array.getElem?_replicate] at hq
      split at hq
      · cases hq; cases hi
      · cases hq
  exact ⟨hw, (Stp.refl st.rel : Stp ρ h { w with drawn := w.drawn + 1 } ρ h { w with drawn := w.drawn + 1 }), o3.2, fun i hi => .inr (hcov i hi), (fun i hi => by cases hi), hnd, (fun i hi => by cases hi), fun i hi => (un i hi).elim, by simp,
    fun i o _ hi => (un i hi).elim, (fun m hm => by cases hm), by simp, (fun m hm => by cases hm), (fun m hm => by cases hm), (fun m hm => by cases hm), (fun m hm => by cases hm), (fun m hm => by cases hm),
    fun t ht => ⟨(fun m hm => by cases hm), fun _ => s.env t ht⟩, (fun m hm => by cases hm), (fun m hm => by cases hm), (fun m hm => by cases hm), s.size, s.dfr, hn, rfl, g.step st, by simp [hlen]⟩
end
end Go.Ev
namespace Go.Ev
set_option autoImplicit false
variable [Rounds]
open Go

section
variable {P : Program} {ρ : Emb} {h : AH} {w : World} {k : K} {vars stk : List AV} {L : List Nat} {N : Nat} {Q : Exit → Act → World → Prop} {rec : Rec}
/-- a block goes out of use, and is turned -/
theorem stp_del2 (r : Rel ρ h w) {p : Pos} {o : Obj} {l : Loc} (hp : h.obj p = some o) (hl : ρ p = some l) (w' : World)
    (hos : w'.os = w.os) (htape : w'.tape = w.tape) (hout : w'.output = w.output) (hsz : w'.heap.size = w.heap.size)
    (hk : ∀ k, k ≠ l.cb → w'.heap[k]? = w.heap[k]?) (hdr : w.drawn ≤ w'.drawn := by exact Nat.le_refl _) : Stp ρ h w ρ (h.del p) w' := by
  have live : ∀ q, (h.del p).obj q ≠ none → h.obj q ≠ none ∧ q ≠ p := fun q hq => by
    rw [AH.obj_del] at hq
    by_cases e : q = p
    · rw [if_pos e] at hq; exact absurd rfl hq
    · rw [if_neg e] at hq; exact ⟨hq, e⟩
  refine ⟨fun _ _ e => e, ⟨?_, ?_, ?_, ?_⟩, by rw [AH.nx_del]; exact Nat.le_refl _, hos, htape, hout, Nat.le_of_eq hsz.symm, ?_, ?_, ?_, hdr⟩
  · intro q o2 hq m hm
    obtain ⟨l1, e⟩ := live q (by rw [hq]; simp)
    rw [AH.obj_del, if_neg e] at hq
    have ne : m.cb ≠ l.cb := fun e' => e (r.inj q p m l (by simp [hq]) (by simp [hp]) hm hl e')
    exact (r.obj q o2 hq m hm).world (hk _ ne)
  · intro a b m n ha hb hm hn e
    exact r.inj a b m n (live a ha).1 (live b hb).1 hm hn e
  · intro q m hm; rw [AH.nx_del]; exact r.fresh1 q m hm
  · intro q hq; rw [AH.nx_del]; exact r.fresh2 q (live q hq).1
  · intro k hk' hn
    exact hk k fun e => hn p l (by simp [hp]) hl e.symm
  · intro q l' hq hl'
    exact .inr ⟨q, l', (live q hq).1, hl', rfl⟩
  · intro q hq e
    have ne : q ≠ p := fun e' => by subst e'; rw [hl] at e; cases e
    exact ⟨e, by rw [AH.obj_del, if_neg ne]⟩
theorem heap_new (w : World) (o : Go.Obj) : (w.alloc o).heap[w.heap.size]? = some o := World.alloc_heap_new w o
theorem inGs_inv {gf : Nat} {gs : List Nat} {r : R} (hn : NF (inGs gf gs r)) : gf ∈ gs ∧ inGs gf gs r = r := by
  unfold inGs at hn ⊢
  cases hb : gs.any (Nat.beq gf) with
  | false => rw [hb] at hn; exact absurd rfl (hn 170)
  | true =>
    obtain ⟨x, hx, he⟩ := List.any_eq_true.1 hb
    rw [← beq_iff.1 he] at hx
    exact ⟨hx, rfl⟩

theorem range_ok {f i : Nat} {gs : List Nat} {g : Operand} {ps : Array Tmp} {as bd : Code} {e : SEnv} {a : Act} (hrec : RecOk P rec) (hN : N ≤ slotD) (hin : inN N g = true)
    (hgs : ∀ gf ∈ gs, gf ≠ baseY ∧ ∀ vs w, (callFunc gf vs).run P w = .ok (.enter gf vs) w) (hi : idxOf slotD L 0 = some i) (hL : L = Rounds.hint f) (hrc : Rounds.rc f ps as bd N)
    (hn : NF (rangeC f i (res L e g) gs rec vars stk h)) (r : Rel ρ h w) (hw : WF L N e) (s : St L N ρ e vars stk a) (g0 : GoodR L N Q ρ h w env0 (rangeC f i (res L e g) gs rec vars stk h)) :
    (Code.rangeFunc g ps as bd).wp P Q a w := by
  have hx := s.env.operand hin
  unfold rangeC at hn g0
  split at hn
  case h_2 => exact absurd rfl (hn 160)
  rename_i gf fa ca hv1 hv2
  rw [hv1, hv2] at g0
  simp only at g0
  rw [hv2] at hx
  obtain ⟨hg1, hg2⟩ := inGs_inv hn
  rw [hg2] at hn g0
  obtain ⟨hne, hent⟩ := hgs gf hg1
  generalize hX : a.eval g = X at hx
  cases hx with
  | fn _ _ _ A C hA hC hr1 hr2 =>
  have s0 := s.env0 hw []
  have hdef := s.dfr
  unfold DefOk at hdef
  rw [hi] at hdef
  simp only at hdef
  rw [nth_eq] at hv1
  have hnd : a.defers = [] := by
    rcases hdef.2 with ⟨_, h⟩ | ⟨f', fa', c', A', C', h, _⟩ | ⟨b', l', h, _⟩
    · exact h
    · rw [hv1] at h; cases h
    · rw [hv1] at h; cases h
  refine (wpIn_wide (n := 0)).1 (wpIn_rangeFunc (F := Fence.wide) (n := 0) fun fn _ => ?_)
  -- the two blocks
  have st1 : Stp ρ h w (ρ.set h.nx ⟨w.heap.size, 0, 0, 0, #[], []⟩) (h.new .dl) (w.alloc (.deferred (some []))) := stp_new r .dl _ ⟨w.heap.size, 0, 0, 0, #[], []⟩ rfl (.dl (heap_new _ _))
  generalize hρ1 : ρ.set h.nx ⟨w.heap.size, 0, 0, 0, #[], []⟩ = ρ1 at st1
  have hb1 : ρ1 h.nx = some ⟨w.heap.size, 0, 0, 0, #[], []⟩ := by rw [← hρ1]; exact Emb.set_same _ _ _
  generalize hw1 : w.alloc (.deferred (some [])) = w1 at st1
  have hsz1 : w1.heap.size = w.heap.size + 1 := by rw [← hw1]; exact World.size_alloc _ _
  generalize hh1 : h.new .dl = h1 at st1 hn g0
  obtain ⟨rc0, hrc0⟩ : ∃ rc0 : Loop, rc0 = { state := .ready, pending := none, fn, tmps := a.tmps, params := ps, assign := as, body := bd, defers := w.heap.size } := ⟨_, rfl⟩
  have st2 : Stp ρ1 h1 w1 (ρ1.set h1.nx ⟨w1.heap.size, 0, 0, 0, #[], []⟩) (h1.new (.lp f vars false)) (w1.alloc (.loop rc0)) := by
    have hle := Emb.le_set (ρ := ρ1) (p := h1.nx) ⟨w1.heap.size, 0, 0, 0, #[], []⟩ st1.rel.nx_none
    refine stp_new st1.rel (.lp f vars false) _ ⟨w1.heap.size, 0, 0, 0, #[], []⟩ rfl (.lp f vars false rc0 (heap_new _ _) (by rw [hrc0]; rfl) (by rw [hrc0]) (by rw [hrc0]; show Rounds.rc f ps as bd a.tmps.size; rw [s.size]; exact hrc) ?_ ?_)
    · intro t ht
      rw [hrc0] at ht ⊢
      have ht' : t < N := by rw [← s.size]; exact ht
      have := s0.env t ht'
      rw [hL] at this
      exact (this.mono st1.le).mono hle
    · intro i' hi'
      rw [← hL, hi] at hi'
      cases hi'
      exact ⟨hdef.1, by rw [nth_eq]; exact hv1⟩
  generalize hρ2 : ρ1.set h1.nx ⟨w1.heap.size, 0, 0, 0, #[], []⟩ = ρ2 at st2
  have hb2 : ρ2 h1.nx = some ⟨w1.heap.size, 0, 0, 0, #[], []⟩ := by rw [← hρ2]; exact Emb.set_same _ _ _
  generalize hw2 : w1.alloc (.loop rc0) = w2 at st2
  generalize hh2 : h1.new (.lp f vars false) = h2 at st2 hn g0
  have st12 := st1.trans st2
  have ha2 : ArgsRel ρ2 (app (app ca [.yld h1.nx]) fa) ((A ++ #[.func (.yield w1.heap.size) #[] #[]]) ++ C) := by
    rw [app_eq, app_eq, ← List.append_assoc]
    exact (((⟨hA, hr1⟩ : ArgsRel ρ fa A).mono st12.le).append (ArgsRel.one (.yld _ _ hb2))).append ((⟨hC, hr2⟩ : ArgsRel ρ ca C).mono st12.le)
  have hnf : ∀ n, rec gf (app (app ca [.yld h1.nx]) fa) h2 ≠ .fail n := fun n hh => by rw [hh] at hn; exact hn n rfl
  have hcall := (hrec gf _ h2 hnf ρ2 w2 _ st2.rel ha2).1 hne
  rw [hent] at hcall
  change Calls P gf _ w2 _ at hcall
  refine ⟨w.heap.size + 1, [{ target := .collected w.heap.size, args := #[] }], w2, { target := .fn (.func gf) C, args := A ++ #[.func (.yield (w.heap.size + 1)) #[] #[]] }, w2, gf,
    (A ++ #[.func (.yield w1.heap.size) #[] #[]]) ++ C, w2, ?_, ?_, fun _ _ => trivial, ?_, fun hh => (by cases hh), ?_⟩
  · rw [← hw2, ← hw1, hrc0]; exact run_enterLoop_outer _ _ _ _ _
  · simp only [resolve, hX, rangeCall]
    simp [Act.eval, Deferred.ofValue, Sem.run_pure]
  · rw [hsz1]; simp only [invoke]; exact hent _ _
  · refine ((callsIn_wide (n := 0)).2 hcall).mono fun en w3 hc => ?_
    cases en with
    | outgrown => exact hc.elim
    | panicked chain =>
      obtain ⟨v, h', ρ', y, h1', _⟩ := hc
      rw [h1'] at hn
      exact absurd rfl (hn 159)
    | returned y =>
      obtain ⟨v, h3, ρ3, h1', st3, _⟩ := hc
      rw [h1'] at hn g0
      have hl3 := st3.le _ _ hb2
      unfold afterRange at hn g0
      simp only at hn g0
      split at hn
      case h_2 => exact absurd rfl (hn 158)
      rename_i f' vs' hob
      rw [hob] at g0
      simp only at g0
      cases st3.rel.obj _ _ hob _ hl3 with
      | lp _ _ _ r3 hw3 hs3 hp3 _ _ _ =>
      have hne3 : r3.state ≠ .busy := by rw [hs3]; simp
      have hend := run_endLoop (P := P) hw3 hne3
      have hlt : w1.heap.size < w3.heap.size := (Array.getElem?_eq_some_iff.1 hw3).1
      rw [hsz1] at hend hw3 hlt
      refine ⟨none, _, hend.trans (congrArg (fun p => Result.ok p _) hp3), ?_⟩
      show Q .normal { a with defers := [{ target := .collected w.heap.size, args := #[] }] ++ a.defers } _
      have st4 := stp_del2 st3.rel hob hl3 (w3.putObj (w.heap.size + 1) (.loop { r3 with state := .exhausted })) rfl rfl rfl World.putObj_size (fun k hk => World.putObj_heap_other (by rw [hsz1] at hk; exact hk))
      refine g0 ρ3 _ _ ((st12.trans st3).trans st4) ⟨fun t ht => ?_, s.size, ?_⟩
      · rw [sig_other (vars := vars) (stk := []) wf0 hi hN _ ht]
        exact ((s0.env t ht).mono st12.le).mono st3.le
      · unfold DefOk
        rw [hi]
        refine ⟨by rw [upd_eq, List.length_set]; exact hdef.1, .inr (.inr ⟨h.nx, _, by rw [upd_getD, if_pos ⟨rfl, hdef.1⟩], st3.le _ _ (st2.le _ _ hb1), ?_⟩)⟩
        rw [hnd]; rfl
end
end Go.Ev
namespace Go.Ev
set_option autoImplicit false
variable [Rounds]
open Go

/-- what of a function's code is looked at once and for all -/
def codeOk (N : Nat) (L : List Nat) (od : Nat → Option (List Nat)) : Code → Bool
  | .region _ ops false => ops.toList.all (opIn N)
  | .region id ops true => and (ops.toList.all (opIn N)) (regOk L ops (orderOf od id ops.size))
  | .seq a b => and (codeOk N L od a) (codeOk N L od b)
  | .cond c a b => and (inN N c) (and (codeOk N L od a) (codeOk N L od b))
  | .block _ a | .loop a | .scope a => codeOk N L od a
  | .rangeFunc g _ _ _ => inN N g
  | _ => true

section
variable {P : Program} {ρ : Emb} {h : AH} {w : World} {k : K} {vars stk : List AV} {L : List Nat} {N : Nat} {Q : Exit → Act → World → Prop} {rec : Rec} {od : Nat → Option (List Nat)}
theorem allIn {ops : Array Oper} (h : ops.toList.all (opIn N) = true) : ∀ (j : Nat) (o : Oper), ops[j]? = some o → opIn N o = true := by
  rw [List.all_eq_true] at h
  exact fun j o ho => h o (Array.mem_toList_iff.2 (Array.mem_of_getElem? ho))
theorem wf_opsD {ops : Array Oper} (hall : ∀ (j : Nat) (o : Oper), ops[j]? = some o → opIn N o = true) : ∀ (is : List Nat) {e : SEnv}, WF L N e → WF L N (opsED L ops is e)
  | [], _, hw => hw
  | i :: is, e, hw => by
    unfold opsED
    cases ho : ops[i]? with
    | none => exact hw
    | some o => exact wf_opsD hall is (wf_env hw (hall i o ho))
theorem wf_code : ∀ (c : Code) {e : SEnv}, codeOk N L od c = true → WF L N e → WF L N (codeEnv L od c e)
  | .skip, e, _, hw => hw
  | .label _, e, _, hw => hw
  | .region _ ops false, e, hc, hw => wf_ops hw ops.toList fun o ho => by
      have h : ops.toList.all (opIn N) = true := hc
      rw [List.all_eq_true] at h; exact h o ho
  | .region id ops true, e, hc, hw => wf_opsD (allIn (Bool.and_eq_true_iff.1 (show and (ops.toList.all (opIn N)) (regOk L ops (orderOf od id ops.size)) = true from hc)).1) _ hw
  | .seq a b, e, hc, hw => by
      have h := Bool.and_eq_true_iff.1 (show and (codeOk N L od a) (codeOk N L od b) = true from hc)
      exact wf_code b h.2 (wf_code a h.1 hw)
  | .cond _ _ _, e, _, _ => wf0
  | .block _ _, e, _, _ => wf0
  | .loop _, e, _, _ => wf0
  | .exit _, e, _, _ => wf0
  | .scope _, e, _, _ => wf0
  | .ret, e, _, _ => wf0
  | .rangeFunc .., e, _, _ => wf0
  | .goto _, e, _, _ => wf0
  | .refuse _, e, _, _ => wf0
theorem GoodR.env0 {ex : SEnv} (hw : WF L N ex) {r : R} (g : GoodR L N Q ρ h w env0 r) : GoodR L N Q ρ h w ex r := by
  cases r with
  | ok vars stk h' => exact fun ρ' w' a' s t => g ρ' w' a' s (t.env0 hw stk)
  | ex id vars h' => exact g
  | ret vars h' => exact g
  | pan v vars h' => exact g
  | fail n => trivial

/-- a loop that is gone round at most so often -/
theorem loop_n {c : Code} (I : Nat → Act → World → Prop) (h0 : ∀ a w, I 0 a w → False) (round : ∀ n a w, I (n + 1) a w → c.wp P (Exit.then (I n) Q) a w) {n : Nat} {a : Act} (hi : I n a w) : (Code.loop c).wp P Q a w := by
  intro b k cs
  have key : ∀ n a w, I n a w → ∃ e a' w', Q e a' w' ∧ Arrives P (lone (b.at a (.code c :: .inLoop c :: k)) cs w) b k cs e a' w' := by
    intro n
    induction n with
    | zero => intro a w hI; exact (h0 a w hI).elim
    | succ n ih =>
      intro a w hI
      obtain ⟨e, a₁, w₁, hq, harr⟩ := round n a w hI b (.inLoop c :: k) cs
      cases e with
      | normal =>
        obtain ⟨e₂, a₂, w₂, hq₂, harr₂⟩ := ih a₁ w₁ hq
        exact ⟨e₂, a₂, w₂, hq₂, .of_steps (Steps.trans harr (.one step_inLoop)) harr₂⟩
      | exit id => exact ⟨_, a₁, w₁, hq, .pass (x := .inLoop c) rfl (fun _ _ => .inl (by simp)) harr⟩
      | goto l => exact ⟨_, a₁, w₁, hq, .pass (x := .inLoop c) rfl (fun _ _ => .inl (by simp)) harr⟩
      | ret => exact ⟨_, a₁, w₁, hq, .pass (x := .inLoop c) rfl (fun _ _ => .inl (by simp)) harr⟩
      | panic ch => exact ⟨_, a₁, w₁, hq, .pass (x := .inLoop c) rfl (fun _ _ => .inl (by simp)) harr⟩
      | outgrown => exact ⟨_, a₁, w₁, hq, .pass (x := .inLoop c) rfl (fun _ _ => .inl (by simp)) harr⟩
  obtain ⟨e, a', w', hq, harr⟩ := key n a w hi
  exact ⟨e, a', w', hq, .of_steps (.one step_loop) harr⟩

/-- the loops over functions within a piece of code are those that are laid down -/
def RangesOk (P : Program) (L : List Nat) (od : Nat → Option (List Nat)) (N : Nat) (c : Code) : Prop :=
  ∀ f gs, od slotD = some (f :: gs) → L = Rounds.hint f ∧ (∀ gf ∈ gs, gf ≠ baseY ∧ ∀ vs w, (callFunc gf vs).run P w = .ok (.enter gf vs) w) ∧ ∀ x ∈ rangesOf c, Rounds.rc f x.1 x.2.1 x.2.2 N
theorem RangesOk.sub {c d : Code} (h : RangesOk P L od N c) (hs : ∀ x, x ∈ rangesOf d → x ∈ rangesOf c) : RangesOk P L od N d := fun f gs e => let ⟨a, b, r⟩ := h f gs e; ⟨a, b, fun x hx => r x (hs x hx)⟩

theorem code_ok (hrec : RecOk P rec) (hN : N ≤ slotD) (hm : P.follows .mixedOrders = true) : ∀ (c : Code) {Q : Exit → Act → World → Prop} {e : SEnv} {vars stk : List AV} {h : AH} {ρ : Emb} {w : World} {a : Act}, codeOk N L od c = true → RangesOk P L od N c →
    NF ((cCode P L od c e).run rec vars stk h) → Rel ρ h w → WF L N e → St L N ρ e vars stk a → GoodR L N Q ρ h w (codeEnv L od c e) ((cCode P L od c e).run rec vars stk h) → c.wp P Q a w
  | .skip, Q, e, vars, stk, h, ρ, w, a, _, _, _, r, _, s, g => wp_skip (g ρ w a (Stp.refl r) s)
  | .label _, Q, e, vars, stk, h, ρ, w, a, _, _, _, r, _, s, g => wp_label (g ρ w a (Stp.refl r) s)
  | .region _ ops false, Q, e, vars, stk, h, ρ, w, a, hc, hR, hn, r, hw, s, g => by
    refine (wpIn_wide (n := 0)).1 (wpIn_region (F := Fence.wide) (n := 0) ?_)
    rw [List.range_eq_range', show ops.size = ops.toList.length by simp]
    exact plain_ok (ro := none) hrec hN (allIn hc) ops.toList 0 (fun j o hj => by rw [Nat.zero_add]; simpa using hj) (.inl rfl) hn r hw s g
  | .region id ops true, Q, e, vars, stk, h, ρ, w, a, hc, hR, hn, r, hw, s, g => by
    have h2 := Bool.and_eq_true_iff.1 (show and (ops.toList.all (opIn N)) (regOk L ops (orderOf od id ops.size)) = true from hc)
    exact draw_ok hrec (allIn h2.1) hN hm h2.2 hn r hw s g
  | .seq x y, Q, e, vars, stk, h, ρ, w, a, hc, hR, hn, r, hw, s, g => by
    have h2 := Bool.and_eq_true_iff.1 (show and (codeOk N L od x) (codeOk N L od y) = true from hc)
    refine wp_seq ?_
    change NF (seqK ((cCode P L od y (codeEnv L od x e)).run rec) ((cCode P L od x e).run rec vars stk h)) at hn
    change GoodR L N Q ρ h w (codeEnv L od y (codeEnv L od x e)) (seqK ((cCode P L od y (codeEnv L od x e)).run rec) ((cCode P L od x e).run rec vars stk h)) at g
    have hwx := wf_code x h2.1 hw
    have hx := code_ok hrec hN hm x (Q := Exit.then (y.wp P Q) Q) (e := e) (vars := vars) (stk := stk) (h := h) (ρ := ρ) (w := w) (a := a) h2.1 (hR.sub fun x hx => List.mem_append_left _ hx)
    cases hr : (cCode P L od x e).run rec vars stk h with
    | ok v1 s1 h1 =>
      rw [hr] at hn g hx
      exact hx (by intro n hh; cases hh) r hw s fun ρ' w' a' st s' => code_ok hrec hN hm y h2.2 (hR.sub fun x hx => List.mem_append_right _ hx) hn st.rel hwx s' (g.step st)
    | ex id v1 h1 => rw [hr] at hn g hx; exact hx (by intro n hh; cases hh) r hw s g
    | ret v1 h1 => rw [hr] at hn g hx; exact hx (by intro n hh; cases hh) r hw s g
    | pan v v1 h1 => rw [hr] at hn g hx; exact hx (by intro n hh; cases hh) r hw s g
    | fail n => rw [hr] at hn; exact absurd rfl (hn n)
  | .cond c x y, Q, e, vars, stk, h, ρ, w, a, hc, hR, hn, r, hw, s, g => by
    have h2 := Bool.and_eq_true_iff.1 (show and (inN N c) (and (codeOk N L od x) (codeOk N L od y)) = true from hc)
    have h3 := Bool.and_eq_true_iff.1 h2.2
    change NF (onBool ((res L e c).ev vars stk) ((cCode P L od x e).run rec) ((cCode P L od y e).run rec) vars stk h) at hn
    change GoodR L N Q ρ h w env0 (onBool ((res L e c).ev vars stk) ((cCode P L od x e).run rec) ((cCode P L od y e).run rec) vars stk h) at g
    have hv := s.env.operand h2.1
    rcases onBool_inv hn with hb | hb <;> rw [hb] at hn g hv
    · generalize hX : a.eval c = X at hv
      cases hv
      exact wp_cond_true hX (code_ok hrec hN hm x h3.1 (hR.sub fun x hx => List.mem_append_left _ hx) hn r hw s (g.env0 (wf_code x h3.1 hw)))
    · generalize hX : a.eval c = X at hv
      cases hv
      exact wp_cond_false hX (code_ok hrec hN hm y h3.2 (hR.sub fun x hx => List.mem_append_right _ hx) hn r hw s (g.env0 (wf_code y h3.2 hw)))
  | .block id x, Q, e, vars, stk, h, ρ, w, a, hc, hR, hn, r, hw, s, g => by
    refine wp_block ?_
    change NF (blockK id ((cCode P L od x env0).run rec vars stk h)) at hn
    change GoodR L N Q ρ h w env0 (blockK id ((cCode P L od x env0).run rec vars stk h)) at g
    have hx := code_ok hrec hN hm x (Q := Exit.inBlock id Q) (e := env0) (vars := vars) (stk := stk) (h := h) (ρ := ρ) (w := w) (a := a) hc (hR.sub fun x hx => hx)
    have hwx := wf_code x (e := env0) hc wf0
    have s0 := s.env0 hw stk
    cases hr : (cCode P L od x env0).run rec vars stk h with
    | ok v1 s1 h1 => rw [hr] at hn g hx; exact hx (by intro n hh; cases hh) r wf0 s0 fun ρ' w' a' st s' => g ρ' w' a' st (s'.env0 hwx s1)
    | ex i v1 h1 =>
      rw [hr] at hn g hx
      refine hx (by intro n hh; cases hh) r wf0 s0 fun ρ' w' a' st s' => ?_
      show (if i = id then Q .normal a' w' else Q (.exit i) a' w')
      change GoodR L N Q ρ h w env0 (exK id i v1 h1) at g
      unfold exK at g
      by_cases hi : i = id
      · subst hi
        rw [Nat.beq_refl] at g
        rw [if_pos rfl]
        exact g ρ' w' a' st s'
      · have hb : Nat.beq i id = false := by
          cases h : Nat.beq i id with
          | false => rfl
          | true => exact absurd (beq_iff.1 h) hi
        rw [hb] at g
        rw [if_neg hi]
        exact g ρ' w' a' st s'
    | ret v1 h1 => rw [hr] at hn g hx; exact hx (by intro n hh; cases hh) r wf0 s0 g
    | pan v v1 h1 => rw [hr] at hn g hx; exact hx (by intro n hh; cases hh) r wf0 s0 g
    | fail n => rw [hr] at hn; exact absurd rfl (hn n)
  | .loop x, Q, e, vars, stk, h, ρ, w, a, hc, hR, hn, r, hw, s, g => by
    change NF (loopN ((cCode P L od x env0).run rec) 100000 vars h) at hn
    change GoodR L N Q ρ h w env0 (loopN ((cCode P L od x env0).run rec) 100000 vars h) at g
    refine loop_n (n := 100000) (fun n a w' => ∃ ρ' vars' h', Stp ρ h w ρ' h' w' ∧ St L N ρ' env0 vars' [] a ∧ NF (loopN ((cCode P L od x env0).run rec) n vars' h') ∧ GoodR L N Q ρ h w env0 (loopN ((cCode P L od x env0).run rec) n vars' h')) ?_ ?_
      ⟨ρ, vars, h, Stp.refl r, s.env0 hw [], hn, g⟩
    · rintro a w' ⟨ρ', vars', h', _, _, hn, _⟩
      exact absurd rfl (hn 131)
    · rintro n a w' ⟨ρ', vars', h', st, s', hn, g⟩
      have hwx := wf_code x (e := env0) hc wf0
      change NF (loopK (loopN ((cCode P L od x env0).run rec) n) ((cCode P L od x env0).run rec vars' [] h')) at hn
      change GoodR L N Q ρ h w env0 (loopK (loopN ((cCode P L od x env0).run rec) n) ((cCode P L od x env0).run rec vars' [] h')) at g
      refine code_ok hrec hN hm x (Q := Exit.then _ Q) (e := env0) (vars := vars') (stk := []) (h := h') hc (hR.sub fun x hx => hx) ?_ st.rel wf0 s' ?_
      · cases hr : (cCode P L od x env0).run rec vars' [] h' with
        | fail n => rw [hr] at hn; exact absurd rfl (hn n)
        | _ => intro n hh; cases hh
      · cases hr : (cCode P L od x env0).run rec vars' [] h' with
        | ok v1 s1 h1 =>
          rw [hr] at hn g
          exact fun ρ2 w2 a2 st2 s2 => ⟨ρ2, v1, h1, st.trans st2, s2.env0 hwx [], hn, g⟩
        | ex i v1 h1 => rw [hr] at g; exact (show GoodR L N Q ρ h w env0 (.ex i v1 h1) from g).step st
        | ret v1 h1 => rw [hr] at g; exact (show GoodR L N Q ρ h w env0 (.ret v1 h1) from g).step st
        | pan v v1 h1 => rw [hr] at g; exact (show GoodR L N Q ρ h w env0 (.pan v v1 h1) from g).step st
        | fail n => trivial
  | .exit id, Q, e, vars, stk, h, ρ, w, a, _, _, _, r, hw, s, g => wp_exit (g ρ w a (Stp.refl r) (s.env0 hw []))
  | .ret, Q, e, vars, stk, h, ρ, w, a, _, _, _, r, hw, s, g => wp_ret (g ρ w a (Stp.refl r) (s.env0 hw []))
  | .scope x, Q, e, vars, stk, h, ρ, w, a, hc, hR, hn, r, hw, s, g => by
    refine wp_scope_straight (code_ok hrec hN hm x (Q := Exit.noGoto Q) hc (hR.sub fun x hx => hx) hn r hw s ?_)
    have g' : GoodR L N Q ρ h w env0 ((cCode P L od x e).run rec vars stk h) := g
    have := g'.env0 (wf_code x hc hw)
    cases hr : (cCode P L od x e).run rec vars stk h with
    | ok v1 s1 h1 => rw [hr] at this; exact this
    | ex i v1 h1 => rw [hr] at this; exact this
    | ret v1 h1 => rw [hr] at this; exact this
    | pan v v1 h1 => rw [hr] at this; exact this
    | fail n => trivial
  | .rangeFunc x ps as bd, Q, e, vars, stk, h, ρ, w, a, hc, hR, hn, r, hw, s, g => by
    unfold cCode at hn g
    split at hn
    · rename_i f gs i h1 h2
      rw [h1, h2] at g
      obtain ⟨r1, r2, r3⟩ := hR f gs h1
      exact range_ok hrec hN hc r2 h2 r1 (r3 (ps, as, bd) List.mem_cons_self) hn r hw s g
    · exact absurd rfl (hn 132)
  | .goto _, Q, e, vars, stk, h, ρ, w, a, _, _, hn, _, _, _, _ => absurd rfl (hn 133)
  | .refuse _, Q, e, vars, stk, h, ρ, w, a, _, _, hn, _, _, _, _ => absurd rfl (hn 134)
end
end Go.Ev
namespace Go.Ev
set_option autoImplicit false
variable [Rounds]
open Go

section
variable {P : Program} {ρ : Emb} {h : AH} {w : World} {k : K} {vars stk : List AV} {L : List Nat} {N : Nat} {Q : Exit → Act → World → Prop} {rec : Rec} {od : Nat → Option (List Nat)}
/-- the slots of results -/
def resIn (N : Nat) : ResultVar → Bool
  | .tmp t => Nat.blt t N
  | .cell a _ => Nat.blt a N
def resRun (tmps : Array Value) : ResultVar → Sem Value
  | .tmp t => pure (tmps.getD t undef)
  | .cell c t => do loadVar t (← asAddr (tmps.getD c undef))
theorem results_eq (fn : Func) (tmps : Array Value) : results fn tmps = (do let vs ← fn.results.mapM (resRun tmps); pure (if h : vs.size = 1 then vs[0] else .tuple vs)) := by
  unfold results
  congr 1
theorem tell_inv {r : R} {v : AV} (h : tell r = some v) : ∃ l stk h', r = .ok (v :: l) stk h' := by
  cases r with
  | ok vars stk h' =>
    cases vars with
    | nil => cases h
    | cons a l => cases h; exact ⟨l, stk, h', rfl⟩
  | _ => cases h
theorem kTell_ok {f : K → R} {v : AV} (h : tell (f kTell) = some v) : NF (f kTell) := by
  obtain ⟨l, s, h', he⟩ := tell_inv h
  rw [he]; intro n hh; cases hh
theorem run_loadAt {t : TypeId} {a : Addr} : (Instr.loadAt t (.pointer (some a))).run P w = (loadVar t a).run P w := by
  simp [Instr.loadAt, Instr.sureAddr]
theorem res_one {rv : ResultVar} (hr : resIn N rv = true) (r : Rel ρ h w) {a : Act} (he : EnvOk L N env0 ρ vars [] a) {v : AV} (hv : (cRes P L rv).ev vars h = some v) :
    ∃ y, (resRun a.tmps rv).run P w = .ok y w ∧ RV ρ v y := by
  cases rv with
  | tmp t =>
    cases hv
    exact ⟨_, rfl, he t (blt_iff.1 hr)⟩
  | cell c t =>
    have hx : RV ρ ((resT L env0 c).ev vars []) (a.tmps.getD c undef) := he c (blt_iff.1 hr)
    simp only [cRes] at hv
    have fin : ∀ {y : Value}, (Instr.loadAt t (a.tmps.getD c undef)).run P w = .ok y w → (∃ q, a.tmps.getD c undef = .pointer (some q)) → (do loadVar t (← asAddr (a.tmps.getD c undef)) : Sem Value).run P w = .ok y w := by
      rintro y hy ⟨q, hq⟩
      rw [hq] at hy ⊢
      rw [run_loadAt] at hy
      simp only [asAddr, Sem.run_bind, Sem.run_pure, Result.andThen_ok, hy]
    cases hk : kindT P t with
    | none =>
      rw [hk] at hv
      cases hv
    | some o =>
      rw [hk] at hv
      cases o with
      | none =>
        have hv' : tell (ldOne (resT L env0 c) kTell vars [] h) = some v := hv
        have hn := kTell_ok (f := fun k => ldOne (resT L env0 c) k vars [] h) hv'
        obtain ⟨v', y, h1, h2, h3⟩ := ldOne_same (k := kTell) r hx hn hk
        rw [h1] at hv'
        cases hv'
        refine ⟨y, fin h3 ?_, h2⟩
        obtain ⟨b, e, o, hp⟩ := onPtr_inv hn
        rw [hp] at hx
        generalize a.tmps.getD c undef = X at hx
        cases hx; exact ⟨_, rfl⟩
      | some n =>
        have hv' : tell (ldAgg n (resT L env0 c) kTell vars [] h) = some v := hv
        have hn := kTell_ok (f := fun k => ldAgg n (resT L env0 c) k vars [] h) hv'
        obtain ⟨v', y, h1, h2, h3⟩ := ldAgg_same (k := kTell) r hx hn hk
        rw [h1] at hv'
        cases hv'
        refine ⟨y, fin h3 ?_, h2⟩
        obtain ⟨b, e, o, hp⟩ := onPtr_inv hn
        rw [hp] at hx
        generalize a.tmps.getD c undef = X at hx
        cases hx; exact ⟨_, rfl⟩
theorem allRes_inv {r0 : CRes} {rs : List CRes} {l : List AV} (h1 : allRes vars h (r0 :: rs) = some l) : ∃ v l', l = v :: l' ∧ r0.ev vars h = some v ∧ allRes vars h rs = some l' := by
  change @Option.rec AV (fun _ => Option (List AV)) none (fun v => @Option.rec (List AV) (fun _ => Option (List AV)) none (fun l => some (v :: l)) (allRes vars h rs)) (r0.ev vars h) = some l at h1
  cases h2 : r0.ev vars h with
  | none => rw [h2] at h1; cases h1
  | some v =>
    rw [h2] at h1
    cases h3 : allRes vars h rs with
    | none => rw [h3] at h1; cases h1
    | some l' => rw [h3] at h1; cases h1; exact ⟨v, l', rfl, rfl, rfl⟩
theorem res_all (r : Rel ρ h w) {a : Act} (he : EnvOk L N env0 ρ vars [] a) : ∀ (rs : List ResultVar) (l : List AV), rs.all (resIn N) = true → allRes vars h (rs.map (cRes P L)) = some l →
    ∃ ys : List Value, (rs.mapM (resRun a.tmps)).run P w = .ok ys w ∧ ArgsRel ρ l ys.toArray
  | [], l, _, hl => by
    cases hl
    exact ⟨[], by simp, ⟨rfl, fun i x y hx => by simp at hx⟩⟩
  | rv :: rs, l, hall, hl => by
    rw [List.all_cons, Bool.and_eq_true] at hall
    obtain ⟨v, l', rfl, h1, h2⟩ := allRes_inv hl
    obtain ⟨y, y1, y2⟩ := res_one hall.1 r he h1
    obtain ⟨ys, z1, z2⟩ := res_all r he rs l' hall.2 h2
    refine ⟨y :: ys, ?_, ?_⟩
    · rw [List.mapM_cons]
      simp only [Sem.run_bind, y1, Result.andThen_ok, z1, Sem.run_pure]
    · have := (ArgsRel.one y2).append z2
      have e1 : (#[y] ++ ys.toArray) = (y :: ys).toArray := by apply Array.ext'; simp
      rw [e1] at this
      exact this
theorem results_ok {fn : Func} (hall : fn.results.toList.all (resIn N) = true) (r : Rel ρ h w) {a : Act} (he : EnvOk L N env0 ρ vars [] a) {v : AV} (hv : resultsOf (fn.results.toList.map (cRes P L)) vars h = some v) :
    ∃ y, (results fn a.tmps).run P w = .ok y w ∧ RV ρ v y := by
  unfold resultsOf at hv
  cases hl : allRes vars h (fn.results.toList.map (cRes P L)) with
  | none => rw [hl] at hv; cases hv
  | some l =>
    rw [hl] at hv
    cases hv
    obtain ⟨ys, z1, z2⟩ := res_all r he fn.results.toList l hall hl
    have e2 : (fn.results.mapM (resRun a.tmps)).run P w = .ok ys.toArray w := by
      rw [Array.mapM_eq_mapM_toList]
      simp only [Sem.run_map, z1, Result.andThen_ok]
    have e3 : (results fn a.tmps).run P w = .ok (if h : ys.toArray.size = 1 then ys.toArray[0] else .tuple ys.toArray) w := by
      rw [results_eq]
      simp only [Sem.run_bind, e2, Result.andThen_ok, Sem.run_pure]
    refine ⟨_, e3, ?_⟩
    match l, ys, z2 with
    | [], [], _ => exact .tup [] #[] rfl (by simp)
    | [x], [y], z2 => exact z2.rel 0 x y rfl rfl
    | x :: x' :: l, y :: y' :: ys, z2 =>
      have : ¬ ((y :: y' :: ys).toArray.size = 1) := by simp
      rw [dif_neg this]
      exact .tup _ _ z2.len z2.rel
    | [], y :: ys, z2 => exact absurd z2.len (by simp)
    | [x], [], z2 => exact absurd z2.len (by simp)
    | [x], y :: y' :: ys, z2 => exact absurd z2.len (by simp)
    | x :: x' :: l, [], z2 => exact absurd z2.len (by simp)
    | x :: x' :: l, [y], z2 => exact absurd z2.len (by simp)

/-! the beginning of a call -/
theorem leadOk_at {k : Nat} : ∀ {l : List Nat} {i : Nat}, leadOk k i l = true → ∀ (j s : Nat), l[j]? = some s → i + j < k → s = i + j
  | [], i, _, j, s, hj, _ => by simp at hj
  | s0 :: l, i, h, j, s, hj, hk => by
    have h2 := Bool.and_eq_true_iff.1 (show and (or (Nat.ble k i) (Nat.beq s0 i)) (leadOk k (i + 1) l) = true from h)
    cases j with
    | zero =>
      cases hj
      have h3 := (Bool.or_eq_true ..).mp h2.1
      rcases h3 with h3 | h3
      · have := ble_iff.1 h3; omega
      · rw [beq_iff.1 h3]; rfl
    | succ j =>
      have := leadOk_at h2.2 j s (by simpa using hj) (by omega)
      omega
theorem padTo_get : ∀ (n : Nat) (args : List AV) (i : Nat), (padTo n args).getD i .undef = if i < n then args.getD i .undef else .undef
  | 0, args, i => by rw [if_neg (by omega)]; rfl
  | n + 1, [], i => by
    show (AV.undef :: padTo n []).getD i .undef = _
    cases i with
    | zero => rfl
    | succ i =>
      have := padTo_get n [] i
      simp only [List.getD_cons_succ, this]
      simp
  | n + 1, a :: args, i => by
    show (a :: padTo n args).getD i .undef = _
    cases i with
    | zero => rfl
    | succ i =>
      have := padTo_get n args i
      simp only [List.getD_cons_succ, this]
      by_cases h : i < n
      · rw [if_pos h, if_pos (by omega)]
      · rw [if_neg h, if_neg (by omega)]
theorem padTo_len : ∀ (n : Nat) (args : List AV), (padTo n args).length = n
  | 0, _ => rfl
  | n + 1, [] => by show (AV.undef :: padTo n []).length = _; rw [List.length_cons, padTo_len]
  | n + 1, a :: args => by show (a :: padTo n args).length = _; rw [List.length_cons, padTo_len]
theorem enter_env {k n : Nat} (hl : leadOk k 0 L = true) {args : List AV} {vs : Array Value} (ha : ArgsRel ρ args vs) (hk : args.length ≤ k) (hkN : k ≤ N) (hn : n = L.length) :
    EnvOk L N env0 ρ (padTo n args) [] { tmps := vs ++ Array.replicate (N - vs.size) undef, defers := [] } ∧ (vs ++ Array.replicate (N - vs.size) undef).size = N := by
  have hs : vs.size ≤ N := by rw [← ha.len]; omega
  refine ⟨fun t ht => ?_, by simp; omega⟩
  unfold sig
  rw [resT_eq]
  show RV ρ ((resOf 0 (idxOf t L 0) none).ev (padTo n args) []) _
  cases hi : idxOf t L 0 with
  | none => exact .undef _
  | some i =>
    show RV ρ ((G.var i).ev (padTo n args) []) _
    rw [ev_var, padTo_get]
    have hg := (idxOf_ge hi).2
    rw [Nat.sub_zero] at hg
    split
    · by_cases hia : i < args.length
      · have hti := leadOk_at hl i t hg (by omega)
        rw [Nat.zero_add] at hti
        subst hti
        have hx : args[t]? = some (args.getD t .undef) := by simp [List.getD, List.getElem?_eq_getElem hia]
        have hv : t < vs.size := by rw [← ha.len]; exact hia
        have hy : vs[t]? = some vs[t] := Array.getElem?_eq_getElem hv
        have := ha.rel t _ _ hx hy
        show RV ρ _ ((vs ++ Array.replicate (N - vs.size) undef).getD t undef)
        rw [Array.getD_eq_getD_getElem?, Array.getElem?_append_left hv, hy]
        exact this
      · have : args.getD i .undef = .undef := by simp [List.getD, List.getElem?_eq_none (show args.length ≤ i by omega)]
        rw [this]; exact .undef _
    · exact .undef _

/-- what of a function is looked at once and for all -/
def fnChk (P : Program) (L : List Nat) (od : Nat → Option (List Nat)) (f : FuncId) : Bool :=
  match P.funcs[f]? with
  | some fn => match fn.body with
    | some c => and (codeOk fn.ntmps L od c) (and (Nat.ble fn.ntmps slotD) (and (fn.results.toList.all (resIn fn.ntmps)) (fn.name != "runtime.NumGoroutine")))
    | none => false
  | none => false
theorem callFunc_run {f : FuncId} {fn : Func} {c : Code} (hf : P.funcs[f]? = some fn) (hb : fn.body = some c) (hname : (fn.name != "runtime.NumGoroutine") = true) (vs : Array Value) : (callFunc f vs).run P w = .ok (.enter f vs) w := by
  have h1 : (fn.name == "runtime.NumGoroutine") = false := by simpa using hname
  simp only [callFunc, Sem.run_bind, run_program, Result.andThen_ok, hf, h1, hb, Bool.false_eq_true, if_false, Option.isNone_some, Sem.run_pure]
theorem giveBack_inv {rs : List CRes} (hn : ∀ n, giveBack rs vars h ≠ .fail n) : ∃ v, resultsOf rs vars h = some v ∧ giveBack rs vars h = .ret v h := by
  unfold giveBack at hn ⊢
  cases hr : resultsOf rs vars h with
  | none => rw [hr] at hn; exact absurd rfl (hn 141)
  | some v => exact ⟨v, rfl, rfl⟩

/-! a function with no deferred call, or with one -/
theorem cFn_inv {hint : FuncId → List Nat} {od : FuncId → Nat → Option (List Nat)} {f : FuncId} {c : CFn} (h : cFn P hint od f = some c) : ∃ fn code, P.funcs[f]? = some fn ∧ fn.body = some code ∧ leadOk (fn.params.size + fn.nfree) 0 (hint f) = true ∧
    fn.params.size + fn.nfree ≤ fn.ntmps ∧ c = ⟨(hint f).length, fn.params.size + fn.nfree, cCode P (hint f) (od f) code env0, fn.results.toList.map (cRes P (hint f)), idxOf slotD (hint f) 0⟩ := by
  unfold cFn at h
  split at h
  · rename_i fn hf
    split at h
    · rename_i code hb
      cases hc : and (leadOk (fn.params.size + fn.nfree) 0 (hint f)) (Nat.ble (fn.params.size + fn.nfree) fn.ntmps) with
      | false => rw [hc] at h; cases h
      | true =>
        rw [hc] at h
        have h2 := Bool.and_eq_true_iff.1 hc
        cases h
        exact ⟨fn, code, hf, hb, h2.1, ble_iff.1 h2.2, rfl⟩
    · cases h
  · cases h
theorem cFnD_inv {hint : FuncId → List Nat} {od : FuncId → Nat → Option (List Nat)} {f : FuncId} {x : Nat × Nat × Nat × CCode} (h : cFnD P hint od f = some x) : ∃ (fn : Func) (id : Nat) (ops : Array Oper) (code : Code) (o p : Oper) (r v i : Nat) (cl : Call),
    P.funcs[f]? = some fn ∧ fn.body = some (.seq (.region id ops false) code) ∧ ops.toList = [o, p] ∧ o.dst = some r ∧ o.op = .call cl ∧ o.guard = none ∧ p.dst = some v ∧ p.op = .assign (.tmp r) ∧ p.guard = none ∧ cl.callee = .builtin .recover ∧ cl.args.size = 0 ∧
    idxOf v (hint f) 0 = some i ∧ leadOk (fn.params.size + fn.nfree) 0 (hint f) = true ∧ fn.params.size + fn.nfree ≤ fn.ntmps ∧ fn.params.size + fn.nfree ≤ v ∧ fn.params.size + fn.nfree ≤ r ∧ fn.results.size = 0 ∧ idxOf slotD (hint f) 0 = none ∧
    x = ((hint f).length, fn.params.size + fn.nfree, i, cCode P (hint f) (od f) code env0) := by
  unfold cFnD at h
  split at h <;> first | (cases h; done) | skip
  rename_i fn hf
  split at h <;> first | (cases h; done) | skip
  rename_i id ops code hb
  split at h <;> first | (cases h; done) | skip
  rename_i o p hops
  split at h <;> first | (cases h; done) | skip
  rename_i r cl v r' h1 h2 h3 h4 h5 h6
  split at h <;> first | (cases h; done) | skip
  rename_i h7 h8
  split at h <;> first | (cases h; done) | skip
  rename_i i hi
  cases hc : and (Nat.beq r r') (and (leadOk (fn.params.size + fn.nfree) 0 (hint f)) (and (Nat.ble (fn.params.size + fn.nfree) fn.ntmps) (and (Nat.ble (fn.params.size + fn.nfree) v) (and (Nat.ble (fn.params.size + fn.nfree) r) (and (Nat.beq fn.results.size 0) (idxOf slotD (hint f) 0).isNone))))) with
  | false => rw [hc] at h; cases h
  | true =>
    rw [hc] at h
    cases h
    have c1 := Bool.and_eq_true_iff.1 hc
    have c2 := Bool.and_eq_true_iff.1 c1.2
    have c3 := Bool.and_eq_true_iff.1 c2.2
    have c4 := Bool.and_eq_true_iff.1 c3.2
    have c5 := Bool.and_eq_true_iff.1 c4.2
    have c6 := Bool.and_eq_true_iff.1 c5.2
    have hr := beq_iff.1 c1.1
    subst hr
    refine ⟨fn, id, ops, code, o, p, r, v, i, cl, hf, hb, hops, h1, h2, h3, h4, h5, h6, h7, h8, hi, c2.1, ble_iff.1 c3.1, ble_iff.1 c4.1, ble_iff.1 c5.1, beq_iff.1 c6.1, ?_, rfl⟩
    have := c6.2
    cases hs : idxOf slotD (hint f) 0 with
    | none => rfl
    | some _ => rw [hs] at this; cases this

def afterD (P : Program) (fn : Func) (tmps : Array Value) (R : Ending → World → Prop) : Ending → FrameMode → World → Prop
  | .returned _, u', w' => Leaves P fn tmps R [] (settle u') w'
  | .panicked chain, u', w' => Leaves P fn tmps R [] (raised u' chain) w'
  | .outgrown, _, w' => R .outgrown w'
/-- a deferred function that asks for the panic's value, in a frame of this mode -/
theorem deferred_ok {hint : FuncId → List Nat} {od : FuncId → Nat → Option (List Nat)} {codeD : FuncId → Option (Nat × Nat × Nat × CCode)} (hD : ∀ f x, codeD f = some x → cFnD P hint od f = some x ∧ fnChk P (hint f) (od f) f = true)
    (hRg : ∀ f fn c, P.funcs[f]? = some fn → fn.body = some c → RangesOk P (hint f) (od f) fn.ntmps c) (hrec : RecOk P rec) (hm : P.follows .mixedOrders = true) (r : Rel ρ h w) {g : FuncId} {fa c : List AV} {A C : Array Value} (h1 : ArgsRel ρ fa A) (h2 : ArgsRel ρ c C) {pv : AV} {y : Value} (hpv : RV ρ pv y) {u : FrameMode}
    (hu : (u = .returning ∧ y = .nilIface) ∨ u = .panicking [{ v := y, recovered := false }]) {h' : AH} (hrun : runD codeD (.fn (.func g) fa c) pv rec h = .ret h') {fn : Func} {tmps : Array Value} {R : Ending → World → Prop}
    (hR : ∀ ρ' w', Stp ρ h w ρ' h' w' → ∃ v, (results fn tmps).run P w' = .ok v w' ∧ R (.returned v) w') : Leaves P fn tmps R [{ target := .fn (.func g) C, args := A }] u w := by
  unfold runD at hrun
  simp only at hrun
  cases hg : codeD g with
  | none => rw [hg] at hrun; cases hrun
  | some x =>
    obtain ⟨x1, x2⟩ := hD g x hg
    obtain ⟨gf, id, ops, code, o, p, rr, v, i, cl, hf, hb, hops, o1, o2, o3, p1, p2, p3, c1, c2, hi, hl, hk, hv, hr, hres, hsl, rfl⟩ := cFnD_inv x1
    rw [hg] at hrun
    simp only at hrun
    cases hle : Nat.ble (len (app c fa)) (gf.params.size + gf.nfree) with
    | false => rw [hle] at hrun; cases hrun
    | true =>
      rw [hle] at hrun
      simp only [cond_true] at hrun
      have hle := ble_iff.1 hle
      rw [len_eq] at hle
      have hargs : ArgsRel ρ (app c fa) (A ++ C) := by rw [app_eq]; exact h1.append h2
      unfold fnChk at x2
      rw [hf] at x2
      simp only [hb] at x2
      have k1 := Bool.and_eq_true_iff.1 x2
      have k2 := Bool.and_eq_true_iff.1 k1.2
      have k3 := Bool.and_eq_true_iff.1 k2.2
      have hN : gf.ntmps ≤ slotD := ble_iff.1 k2.1
      have k4 := Bool.and_eq_true_iff.1 (show and (codeOk gf.ntmps (hint g) (od g) (.region id ops false)) (codeOk gf.ntmps (hint g) (od g) code) = true from k1.1)
      have hall := allIn (show ops.toList.all (opIn gf.ntmps) = true from k4.1)
      have ho : ops[0]? = some o := by rw [← Array.getElem?_toList, hops]; rfl
      have hp : ops[1]? = some p := by rw [← Array.getElem?_toList, hops]; rfl
      have hsz : ops.size = 2 := by rw [← Array.length_toList, hops]; rfl
      have hrN : rr < gf.ntmps := opIn_dst (hall 0 o ho) rr o1
      have hvN : v < gf.ntmps := opIn_dst (hall 1 p hp) v p1
      obtain ⟨e1, e2⟩ := enter_env (N := gf.ntmps) (n := (hint g).length) hl hargs hle hk rfl
      have hune : u ≠ .run := by rcases hu with ⟨rfl, _⟩ | rfl <;> simp
      refine leaves_cons hune (callFunc_run (w := w) hf hb k3.2 (A ++ C)) ?_
      refine CallsD.mono (R := afterD P fn tmps R) (callsD_of_wpS hf hb fun c₀ cs hc₀ => ?_) (fun e u' w' he => by cases e <;> exact he)
      refine wpS_seq (wpS_region ?_)
      rw [hsz]
      show wpOpsS P ops _ [0, 1] _ _ _
      have hrec0 : (execOp (Act.eval { tmps := A ++ C ++ Array.replicate (gf.ntmps - (A ++ C).size) undef, defers := [] }) o).run P w = .ok .recover w := by
        have hargs0 : cl.args = #[] := Array.eq_empty_of_size_eq_zero c2
        unfold execOp
        rw [o2]
        simp only [resolve, c1, Sem.run_bind, Sem.run_pure, Result.andThen_ok, invoke, builtin]
      have w0 : Region.wanted o (yielded ops (A ++ C ++ Array.replicate (gf.ntmps - (A ++ C).size) undef)) = true := by unfold Region.wanted; rw [o3]
      have w1 : ∀ tm, Region.wanted p (yielded ops tm) = true := by intro tm; unfold Region.wanted; rw [p3]
      have asg : ∀ a : Act, (execOp a.eval p).run P w = .ok (.value (a.eval (.tmp rr))) w := by intro a; unfold execOp; rw [p2]; rfl
      have mode' : ∃ u', (recoverD (c₀ :: cs) = some (y, { c₀ with mode := u' } :: cs) ∨ (recoverD (c₀ :: cs) = none ∧ y = .nilIface ∧ { c₀ with mode := u' } = c₀)) ∧ settle u' = .returning := by
        rcases hu with ⟨rfl, rfl⟩ | rfl
        · refine ⟨.returning, .inr ⟨?_, rfl, ?_⟩, rfl⟩
          · simp only [recoverD, hc₀]
          · cases c₀; simp only at hc₀; subst hc₀; rfl
        · refine ⟨.panicking [{ v := y, recovered := true }], .inl ?_, rfl⟩
          simp only [recoverD, hc₀]
      obtain ⟨u', hrd, hset⟩ := mode'
      -- what is behind the two operations
      have hod : ∀ u, o.dst = some u → u < (Act.mk (A ++ C ++ Array.replicate (gf.ntmps - (A ++ C).size) undef) []).tmps.size := fun u hu => by
        rw [o1] at hu; cases hu
        show rr < (A ++ C ++ Array.replicate (gf.ntmps - (A ++ C).size) undef).size
        rw [e2]; exact hrN
      have hpd : ∀ u, p.dst = some u → u < ((Act.mk (A ++ C ++ Array.replicate (gf.ntmps - (A ++ C).size) undef) []).put o.dst y).tmps.size := fun u hu => by
        rw [p1] at hu; cases hu
        rw [put_size]
        show v < (A ++ C ++ Array.replicate (gf.ntmps - (A ++ C).size) undef).size
        rw [e2]; exact hvN
      have hrr : (((Act.mk (A ++ C ++ Array.replicate (gf.ntmps - (A ++ C).size) undef) []).put o.dst y).eval (.tmp rr)) = y := put_here _ _ hod o1
      have env1 : EnvOk (hint g) gf.ntmps env0 ρ (upd pv i (padTo (hint g).length (app c fa))) [] (((Act.mk (A ++ C ++ Array.replicate (gf.ntmps - (A ++ C).size) undef) []).put o.dst y).put p.dst y) := by
        intro t ht
        have h0 := e1 t ht
        unfold sig at h0 ⊢
        rw [resT_eq] at h0 ⊢
        change RV ρ ((resOf 0 (idxOf t (hint g) 0) none).ev (padTo (hint g).length (app c fa)) []) _ at h0
        show RV ρ ((resOf 0 (idxOf t (hint g) 0) none).ev (upd pv i (padTo (hint g).length (app c fa))) []) _
        cases hj : idxOf t (hint g) 0 with
        | none => exact .undef _
        | some j =>
          rw [hj] at h0
          change RV ρ ((G.var j).ev (padTo (hint g).length (app c fa)) []) _ at h0
          show RV ρ ((G.var j).ev (upd pv i (padTo (hint g).length (app c fa))) []) _
          rw [ev_var] at h0 ⊢
          rw [upd_getD]
          by_cases htv : t = v
          · subst htv
            rw [put_here _ _ hpd p1]
            rw [hi] at hj
            cases hj
            by_cases hil : i < (padTo (hint g).length (app c fa)).length
            · rw [if_pos ⟨rfl, hil⟩]; exact hpv
            · rw [if_neg fun h => hil h.2]
              have : (padTo (hint g).length (app c fa)).getD i .undef = .undef := by simp [List.getD, List.getElem?_eq_none (show (padTo (hint g).length (app c fa)).length ≤ i by omega)]
              rw [this]; exact .undef _
          · have hij : ¬ (i = j ∧ i < (padTo (hint g).length (app c fa)).length) := by
              rintro ⟨rfl, _⟩
              exact htv (idxOf_inj hj hi)
            rw [if_neg hij, put_other _ _ hpd (by rw [p1]; intro hh; cases hh; exact htv rfl)]
            by_cases htr : t = rr
            · subst htr
              rw [padTo_get]
              split
              · by_cases hja : j < (app c fa).length
                · have hg2 := (idxOf_ge hj).2
                  rw [Nat.sub_zero] at hg2
                  have := leadOk_at hl j t hg2 (by omega)
                  omega
                · have : (app c fa).getD j .undef = .undef := by simp [List.getD, List.getElem?_eq_none (show (app c fa).length ≤ j by omega)]
                  rw [this]; exact .undef _
              · exact .undef _
            · rw [put_other _ _ hod (by rw [o1]; intro hh; cases hh; exact htr rfl)]
              exact h0
      have st1 : St (hint g) gf.ntmps ρ env0 (upd pv i (padTo (hint g).length (app c fa))) [] (((Act.mk (A ++ C ++ Array.replicate (gf.ntmps - (A ++ C).size) undef) []).put o.dst y).put p.dst y) := by
        refine ⟨env1, by rw [put_size, put_size]; exact e2, ?_⟩
        unfold DefOk
        rw [hsl]
        cases o.dst <;> cases p.dst <;> rfl
      have behind : ∀ cs', cs' = { c₀ with mode := u' } :: cs → code.wpS P (bodyPostS P gf c₀ cs (afterD P fn tmps R)) (((Act.mk (A ++ C ++ Array.replicate (gf.ntmps - (A ++ C).size) undef) []).put o.dst y).put p.dst y) cs' w := by
        intro cs' hcs
        refine wpS_of_wp ?_
        have fin : ∀ (ρ' : Emb) (w' : World) (a' : Act) {ex : SEnv} {vs' sk' : List AV}, Stp ρ h w ρ' h' w' → St (hint g) gf.ntmps ρ' ex vs' sk' a' → a'.defers = [] ∧ ∃ u', cs' = { c₀ with mode := u' } :: cs ∧ ∃ v, (results gf a'.tmps).run P w' = .ok v w' ∧ afterD P fn tmps R (.returned v) u' w' := by
          intro ρ' w' a' ex vs' sk' st s'
          have hd := s'.dfr
          unfold DefOk at hd
          rw [hsl] at hd
          refine ⟨hd, u', hcs, .tuple #[], ?_, ?_⟩
          · have : gf.results = #[] := Array.eq_empty_of_size_eq_zero hres
            simp [results, this]
          · show Leaves P fn tmps R [] (settle u') w'
            rw [hset]
            exact hR ρ' w' st
        refine code_ok (od := od g) (Q := fun e a' w' => bodyPostS P gf c₀ cs (afterD P fn tmps R) e a' cs' w') hrec hN hm code k4.2 ((hRg g gf _ hf hb).sub fun x hx => List.mem_append_right _ hx) ?_ r wf0 st1 ?_
        · intro n hh; rw [hh] at hrun; cases hrun
        · generalize (cCode P (hint g) (od g) code env0).run rec (upd pv i (padTo (hint g).length (app c fa))) [] h = r2 at hrun
          cases r2 with
          | ok v2 s2 h2 => cases hrun; exact fun ρ' w' a' st s' => fin ρ' w' a' st s'
          | ret v2 h2 => cases hrun; exact fun ρ' w' a' st s' => fin ρ' w' a' st s'
          | ex i v2 h2 => cases hrun
          | pan x v2 h2 => cases hrun
          | fail n => cases hrun
      have step1 : ∀ cs', cs' = { c₀ with mode := u' } :: cs → wpOpsS P ops (Exit.thenS (code.wpS P (bodyPostS P gf c₀ cs (afterD P fn tmps R))) (bodyPostS P gf c₀ cs (afterD P fn tmps R))) [1] ((Act.mk (A ++ C ++ Array.replicate (gf.ntmps - (A ++ C).size) undef) []).put o.dst y) cs' w := by
        intro cs' hcs
        rw [wpOpsS]
        simp only [hp, w1, if_true, asg, hrr, Oper.upon_value]
        exact behind cs' hcs
      rw [wpOpsS]
      simp only [ho, w0, if_true, hrec0]
      rcases hrd with hrd | ⟨hrd, rfl, hcm⟩
      · rw [hrd]
        exact step1 _ rfl
      · rw [hrd]
        exact step1 _ (by rw [hcm])
end
end Go.Ev
namespace Go.Ev
set_option autoImplicit false
variable [Rounds]
open Go

section
variable {P : Program} {ρ : Emb} {h : AH} {w : World} {k : K} {vars stk : List AV} {L : List Nat} {N : Nat} {Q : Exit → Act → World → Prop} {rec : Rec}
  {hint : FuncId → List Nat} {od : FuncId → Nat → Option (List Nat)} {codeD : FuncId → Option (Nat × Nat × Nat × CCode)}
theorem leaves_ret {fn : Func} {tmps : Array Value} {R : Ending → World → Prop} (h : ∃ v, (results fn tmps).run P w = .ok v w ∧ R (.returned v) w) : Leaves P fn tmps R [] .returning w := h
theorem fun_ok {f : FuncId} {c : CFn} (hc : cFn P hint od f = some c) (hk : fnChk P (hint f) (od f) f = true) (hD : ∀ f x, codeD f = some x → cFnD P hint od f = some x ∧ fnChk P (hint f) (od f) f = true) (hRg : ∀ f fn c, P.funcs[f]? = some fn → fn.body = some c → RangesOk P (hint f) (od f) fn.ntmps c) (hrec : RecOk P rec) (hm : P.follows .mixedOrders = true)
    (r : Rel ρ h w) {args : List AV} {vs : Array Value} (ha : ArgsRel ρ args vs) (hn : ∀ n, c.run codeD rec args h ≠ .fail n) : NextPost P ((callFunc f vs).run P w) (CPost ρ h w (c.run codeD rec args h)) := by
  obtain ⟨fn, code, hf, hb, hl, hkN, rfl⟩ := cFn_inv hc
  unfold fnChk at hk
  rw [hf] at hk
  simp only [hb] at hk
  have k1 := Bool.and_eq_true_iff.1 hk
  have k2 := Bool.and_eq_true_iff.1 k1.2
  have k3 := Bool.and_eq_true_iff.1 k2.2
  have hN : fn.ntmps ≤ slotD := ble_iff.1 k2.1
  rw [callFunc_run hf hb k3.2 vs]
  show Calls P f vs w _
  have results : ∀ {ρ' : Emb} {h' : AH} {w' : World} {a' : Act} {vs' : List AV} {v : AV}, Rel ρ' h' w' → EnvOk (hint f) fn.ntmps env0 ρ' vs' [] a' → resultsOf (fn.results.toList.map (cRes P (hint f))) vs' h' = some v → ∃ y, (results fn a'.tmps).run P w' = .ok y w' ∧ RV ρ' v y :=
    fun r' e' hv => results_ok k3.1 r' e' hv
  cases hd : idxOf slotD (hint f) 0 with
  | none =>
    rw [hd] at hn
    have hrunE : (⟨(hint f).length, fn.params.size + fn.nfree, cCode P (hint f) (od f) code env0, fn.results.toList.map (cRes P (hint f)), none⟩ : CFn).run codeD rec args h =
        ifC (Nat.ble (len args) (fn.params.size + fn.nfree)) (finish (fn.results.toList.map (cRes P (hint f))) ((cCode P (hint f) (od f) code env0).run rec (padTo (hint f).length args) [] h)) := rfl
    rw [hrunE] at hn ⊢
    cases hle : Nat.ble (len args) (fn.params.size + fn.nfree) with
    | false => rw [hle] at hn; exact absurd rfl (hn 149)
    | true =>
      rw [hle] at hn
      have hle' := ble_iff.1 hle
      rw [len_eq] at hle'
      change ∀ n, finish (fn.results.toList.map (cRes P (hint f))) ((cCode P (hint f) (od f) code env0).run rec (padTo (hint f).length args) [] h) ≠ .fail n at hn
      show Calls P f vs w (CPost ρ h w (finish (fn.results.toList.map (cRes P (hint f))) ((cCode P (hint f) (od f) code env0).run rec (padTo (hint f).length args) [] h)))
      obtain ⟨e1, e2⟩ := enter_env (N := fn.ntmps) (n := (hint f).length) hl ha hle' hkN rfl
      refine calls_of_wp_defers hf hb (code_ok (od := od f) hrec hN hm code k1.1 (hRg f fn code hf hb) ?_ r wf0 ⟨e1, e2, ?_⟩ ?_)
      · intro n hh; rw [hh] at hn; exact hn n rfl
      · unfold DefOk; rw [hd]
      · have hwf := wf_code (N := fn.ntmps) (L := hint f) (od := od f) code (e := env0) k1.1 wf0
        generalize (cCode P (hint f) (od f) code env0).run rec (padTo (hint f).length args) [] h = r2 at hn ⊢
        have dnil : ∀ {ρ' : Emb} {ex : SEnv} {v2 s2 : List AV} {a' : Act}, St (hint f) fn.ntmps ρ' ex v2 s2 a' → a'.defers = [] := fun s' => by
          have := s'.dfr
          unfold DefOk at this
          rw [hd] at this; exact this
        cases r2 with
        | ok v2 s2 h2 =>
          obtain ⟨v, hv, hg⟩ := giveBack_inv (show ∀ n, giveBack (fn.results.toList.map (cRes P (hint f))) v2 h2 ≠ .fail n from hn)
          intro ρ' w' a' st s'
          have hg' : finish (fn.results.toList.map (cRes P (hint f))) (.ok v2 s2 h2) = .ret v h2 := hg
          rw [hg']
          show Leaves P fn a'.tmps _ a'.defers .returning w'
          rw [dnil s']
          obtain ⟨y, y1, y2⟩ := results st.rel ((s'.env0 hwf []).env) hv
          exact ⟨y, y1, v, h2, ρ', rfl, st, y2⟩
        | ret v2 h2 =>
          obtain ⟨v, hv, hg⟩ := giveBack_inv (show ∀ n, giveBack (fn.results.toList.map (cRes P (hint f))) v2 h2 ≠ .fail n from hn)
          intro ρ' w' a' st s'
          have hg' : finish (fn.results.toList.map (cRes P (hint f))) (.ret v2 h2) = .ret v h2 := hg
          rw [hg']
          show Leaves P fn a'.tmps _ a'.defers .returning w'
          rw [dnil s']
          obtain ⟨y, y1, y2⟩ := results st.rel s'.env hv
          exact ⟨y, y1, v, h2, ρ', rfl, st, y2⟩
        | ex i v2 h2 => exact absurd rfl (hn 140)
        | pan v v2 h2 =>
          intro ρ' w' a' y st s' hv
          show Leaves P fn a'.tmps _ a'.defers (.panicking [{ v := y, recovered := false }]) w'
          have hdn : a'.defers = [] := by
            rcases s' with s' | s'
            · exact dnil s'
            · exact s'.2
          rw [hdn]
          exact ⟨v, h2, ρ', y, rfl, rfl, st, hv⟩
        | fail n => trivial
  | some i =>
    rw [hd] at hn
    have hrunE : (⟨(hint f).length, fn.params.size + fn.nfree, cCode P (hint f) (od f) code env0, fn.results.toList.map (cRes P (hint f)), some i⟩ : CFn).run codeD rec args h =
        ifC (Nat.ble (len args) (fn.params.size + fn.nfree)) (finishD codeD i (fn.results.toList.map (cRes P (hint f))) rec ((cCode P (hint f) (od f) code env0).run rec (padTo (hint f).length args) [] h)) := rfl
    rw [hrunE] at hn ⊢
    cases hle : Nat.ble (len args) (fn.params.size + fn.nfree) with
    | false => rw [hle] at hn; exact absurd rfl (hn 149)
    | true =>
      rw [hle] at hn
      have hle' := ble_iff.1 hle
      rw [len_eq] at hle'
      change ∀ n, finishD codeD i (fn.results.toList.map (cRes P (hint f))) rec ((cCode P (hint f) (od f) code env0).run rec (padTo (hint f).length args) [] h) ≠ .fail n at hn
      show Calls P f vs w (CPost ρ h w (finishD codeD i (fn.results.toList.map (cRes P (hint f))) rec ((cCode P (hint f) (od f) code env0).run rec (padTo (hint f).length args) [] h)))
      obtain ⟨e1, e2⟩ := enter_env (N := fn.ntmps) (n := (hint f).length) hl ha hle' hkN rfl
      have hig := (idxOf_ge hd).2
      rw [Nat.sub_zero] at hig
      have hil : i < (hint f).length := (List.getElem?_eq_some_iff.1 hig).1
      have hdef0 : DefOk (hint f) ρ (padTo (hint f).length args) { tmps := vs ++ Array.replicate (fn.ntmps - vs.size) undef, defers := [] } := by
        unfold DefOk
        rw [hd]
        refine ⟨by rw [padTo_len]; exact hil, .inl ⟨?_, rfl⟩⟩
        rw [padTo_get, if_pos hil]
        have hia : args.length ≤ i := by
          rcases Nat.lt_or_ge i args.length with h0 | h0
          · exfalso
            have h9 := leadOk_at hl i slotD hig (by omega)
            rw [Nat.zero_add] at h9
            have : i < slotD := by omega
            omega
          · exact h0
        simp [List.getD, List.getElem?_eq_none hia]
      have hwf := wf_code (N := fn.ntmps) (L := hint f) (od := od f) code (e := env0) k1.1 wf0
      have hcode := fun (Q : Exit → Act → World → Prop) => code_ok (od := od f) (Q := Q) hrec hN hm code k1.1 (hRg f fn code hf hb) (e := env0) (vars := padTo (hint f).length args) (stk := []) (h := h) (ρ := ρ) (w := w) (a := { tmps := vs ++ Array.replicate (fn.ntmps - vs.size) undef, defers := [] })
        (by intro n hh; rw [hh] at hn; exact hn n rfl) r wf0 ⟨e1, e2, hdef0⟩
      by_cases htok : ∃ v2 h2 b, ((∃ s2, (cCode P (hint f) (od f) code env0).run rec (padTo (hint f).length args) [] h = .ok v2 s2 h2) ∨ (cCode P (hint f) (od f) code env0).run rec (padTo (hint f).length args) [] h = .ret v2 h2) ∧ nth i v2 = .tok b
      · -- a loop over a function was gone through
        obtain ⟨v2, h2, b, h12, hb2⟩ := htok
        have hfin : finishD codeD i (fn.results.toList.map (cRes P (hint f))) rec ((cCode P (hint f) (od f) code env0).run rec (padTo (hint f).length args) [] h) = shutD b (fn.results.toList.map (cRes P (hint f))) v2 h2 := by
          rcases h12 with ⟨s2, h12⟩ | h12 <;> (rw [h12]; simp only [finishD, hb2])
        rw [hfin] at hn ⊢
        have fin : ∀ (ρ' : Emb) (w' : World) (a' : Act), Stp ρ h w ρ' h2 w' → St (hint f) fn.ntmps ρ' env0 v2 [] a' → LeavesInM Fence.wide 0 P fn a'.tmps (CPost ρ h w (shutD b (fn.results.toList.map (cRes P (hint f))) v2 h2)) a'.defers .returning w' := by
          intro ρ' w' a' st s'
          have hdf := s'.dfr
          unfold DefOk at hdf
          rw [hd] at hdf
          rw [nth_eq] at hb2
          rcases hdf.2 with ⟨u1, u2⟩ | ⟨g, fa, c, A, C, u1, u2, u3, u4⟩ | ⟨b', l, u1, u2, u3⟩
          · rw [hb2] at u1; cases u1
          · rw [hb2] at u1; cases u1
          · rw [hb2] at u1
            cases u1
            unfold shutD at hn ⊢
            split at hn
            case h_2 => exact absurd rfl (hn 162)
            rename_i hob
            obtain ⟨v, hv, hg⟩ := giveBack_inv hn
            rw [hg]
            cases st.rel.obj _ _ hob _ u2 with
            | dl hk =>
            have st2 := stp_del2 st.rel hob u2 (w'.putObj l.cb (.deferred none)) rfl rfl rfl World.putObj_size (fun k hk' => World.putObj_heap_other hk')
            rw [u3]
            refine ⟨by simp, .inl ⟨l.cb, _, rfl, run_takeDeferred hk, ?_⟩⟩
            obtain ⟨y, y1, y2⟩ := results st2.rel (s'.env.mono st2.le) hv
            exact ⟨y, y1, v, _, ρ', rfl, st.trans st2, y2⟩
        refine (callsIn_wide (n := 0)).1 (callsIn_of_wp_marks (F := Fence.wide) (n := 0) hf hb trivial ((wpIn_wide (n := 0)).2 (hcode _ ?_)))
        rcases h12 with ⟨s2, h12⟩ | h12
        · rw [h12]
          exact fun ρ' w' a' st s' => fin ρ' w' a' st (s'.env0 hwf [])
        · rw [h12]
          exact fun ρ' w' a' st s' => fin ρ' w' a' st s'
      refine calls_of_wp_defers hf hb (hcode _ ?_)
      · clear hcode
        generalize (cCode P (hint f) (od f) code env0).run rec (padTo (hint f).length args) [] h = r2 at hn htok ⊢
        -- the function comes to its end without a panic
        have normal : ∀ {v2 : List AV} {h2 : AH} {cr : CR}, (∀ b, nth i v2 ≠ .tok b) → (cr = match nth i v2 with | .undef => giveBack (fn.results.toList.map (cRes P (hint f))) v2 h2 | .tok b => shutD b (fn.results.toList.map (cRes P (hint f))) v2 h2 | g => leaveRet (fn.results.toList.map (cRes P (hint f))) v2 (runD codeD g .niliface rec h2)) → (∀ n, cr ≠ .fail n) →
            ∀ (ρ' : Emb) (w' : World) (a' : Act), Stp ρ h w ρ' h2 w' → St (hint f) fn.ntmps ρ' env0 v2 [] a' → Leaves P fn a'.tmps (CPost ρ h w cr) a'.defers .returning w' := by
          intro v2 h2 cr hnt hcr hn ρ' w' a' st s'
          have hdf := s'.dfr
          unfold DefOk at hdf
          rw [hd] at hdf
          rcases hdf.2 with ⟨u1, u2⟩ | ⟨g, fa, c, A, C, u1, u2, u3, u4⟩ | ⟨b', l', u1, _⟩
          rotate_left 2
          · rw [← nth_eq] at u1; exact absurd u1 (hnt b')
          · rw [nth_eq, u1] at hcr
            simp only at hcr
            subst hcr
            obtain ⟨v, hv, hg⟩ := giveBack_inv hn
            rw [u2, hg]
            obtain ⟨y, y1, y2⟩ := results st.rel s'.env hv
            exact ⟨y, y1, v, h2, ρ', rfl, st, y2⟩
          · rw [nth_eq, u1] at hcr
            simp only at hcr
            rw [u2]
            cases hr : runD codeD (.fn (.func g) fa c) .niliface rec h2 with
            | fail n => rw [hr] at hcr; exact absurd hcr (hn n)
            | ret h3 =>
              rw [hr] at hcr
              have hcr' : cr = giveBack (fn.results.toList.map (cRes P (hint f))) v2 h3 := hcr
              subst hcr'
              obtain ⟨v, hv, hg⟩ := giveBack_inv hn
              rw [hg]
              refine deferred_ok hD hRg hrec hm st.rel u3 u4 .niliface (.inl ⟨rfl, rfl⟩) hr fun ρ3 w3 st3 => ?_
              obtain ⟨y, y1, y2⟩ := results st3.rel (s'.env.mono st3.le) hv
              exact ⟨y, y1, v, h3, ρ3, rfl, st.trans st3, y2⟩
        cases r2 with
        | ok v2 s2 h2 => exact fun ρ' w' a' st s' => normal (fun b hb => htok ⟨v2, h2, b, .inl ⟨s2, rfl⟩, hb⟩) rfl hn ρ' w' a' st (s'.env0 hwf [])
        | ret v2 h2 => exact fun ρ' w' a' st s' => normal (fun b hb => htok ⟨v2, h2, b, .inr rfl, hb⟩) rfl hn ρ' w' a' st s'
        | ex j v2 h2 => exact absurd rfl (hn 140)
        | pan pv v2 h2 =>
          intro ρ' w' a' y st sp hpv
          have s' := sp.resolve_right fun h9 => by rw [hd] at h9; cases h9.1
          show Leaves P fn a'.tmps _ a'.defers (.panicking [{ v := y, recovered := false }]) w'
          have hcr : ∃ cr, cr = finishD codeD i (fn.results.toList.map (cRes P (hint f))) rec (.pan pv v2 h2) := ⟨_, rfl⟩
          obtain ⟨cr, hcr⟩ := hcr
          rw [← hcr] at hn ⊢
          have hcr : cr = match nth i v2 with | .undef => .pan pv h2 | .tok _ => .fail 161 | g => leaveRet (fn.results.toList.map (cRes P (hint f))) v2 (runD codeD g pv rec h2) := hcr
          have hdf := s'.dfr
          unfold DefOk at hdf
          rw [hd] at hdf
          rcases hdf.2 with ⟨u1, u2⟩ | ⟨g, fa, c, A, C, u1, u2, u3, u4⟩ | ⟨b', l', u1, _⟩
          rotate_left 2
          · rw [nth_eq, u1] at hcr
            simp only at hcr
            exact absurd hcr (hn 161)
          · rw [nth_eq, u1] at hcr
            simp only at hcr
            subst hcr
            rw [u2]
            exact ⟨pv, h2, ρ', y, rfl, rfl, st, hpv⟩
          · rw [nth_eq, u1] at hcr
            simp only at hcr
            rw [u2]
            cases hr : runD codeD (.fn (.func g) fa c) pv rec h2 with
            | fail n => rw [hr] at hcr; exact absurd hcr (hn n)
            | ret h3 =>
              rw [hr] at hcr
              have hcr' : cr = giveBack (fn.results.toList.map (cRes P (hint f))) v2 h3 := hcr
              subst hcr'
              obtain ⟨v, hv, hg⟩ := giveBack_inv hn
              rw [hg]
              refine deferred_ok hD hRg hrec hm st.rel u3 u4 hpv (.inr rfl) hr fun ρ3 w3 st3 => ?_
              obtain ⟨z, z1, z2⟩ := results st3.rel (s'.env.mono st3.le) hv
              exact ⟨z, z1, v, h3, ρ3, rfl, st.trans st3, z2⟩
        | fail n => trivial


theorem cRnd_inv {f : FuncId} {is : List Nat} {c1 c2 : CI} (hc : cRnd P hint f = some (is, c1, c2)) : ∃ fn c ps ia oa bid ib ob, P.funcs[f]? = some fn ∧ fn.body = some c ∧
    rangesOf c = [(ps, .region ia oa false, .block bid (.region ib ob false))] ∧ ps.toList.mapM (fun p => idxOf p (hint f) 0) = some is ∧ oa.toList.all noDefer = true ∧ ob.toList.all noDefer = true ∧ fn.ntmps ≤ slotD ∧
    (∀ p ∈ ps.toList, p < fn.ntmps) ∧ c1 = cOps P (hint f) oa oa.toList env0 ∧ c2 = cOps P (hint f) ob ob.toList env0 := by
  unfold cRnd at hc
  split at hc
  · rename_i fn hf
    split at hc
    · rename_i c hb
      split at hc
      · rename_i ps ia oa bid ib ob hr
        split at hc
        · rename_i is' hm
          cases hk : and (and (oa.toList.all noDefer) (ob.toList.all noDefer)) (and (Nat.ble fn.ntmps slotD) (ps.toList.all fun p => Nat.blt p fn.ntmps)) with
          | false => rw [hk] at hc; cases hc
          | true =>
            rw [hk] at hc
            cases hc
            have k1 := Bool.and_eq_true_iff.1 hk
            have k2 := Bool.and_eq_true_iff.1 k1.1
            have k3 := Bool.and_eq_true_iff.1 k1.2
            exact ⟨fn, c, ps, ia, oa, bid, ib, ob, hf, hb, hr, hm, k2.1, k2.2, ble_iff.1 k3.1, fun p hp => blt_iff.1 (List.all_eq_true.1 k3.2 p hp), rfl, rfl⟩
        · cases hc
      · cases hc
    · cases hc
  · cases hc

theorem setAll_ok (hN : N ≤ slotD) : ∀ (ps : List Nat) {is : List Nat} {xs : List AV} {ys : List Value} {vars : List AV} {a : Act}, ps.mapM (fun p => idxOf p L 0) = some is → xs.length = is.length → xs.length = ys.length →
    (∀ (i : Nat) (x : AV) (y : Value), xs[i]? = some x → ys[i]? = some y → RV ρ x y) → (∀ p ∈ ps, p < N) → St L N ρ env0 vars [] a →
    St L N ρ env0 (setAll is xs vars) [] { a with tmps := (ps.zip ys).foldl (fun t p => t.setIfInBounds p.1 p.2) a.tmps }
  | [], is, xs, ys, vars, a, hm, hl, _, _, _, s => by
    cases hm
    cases xs with
    | nil => exact s
    | cons x xs => cases hl
  | p :: ps, is, xs, ys, vars, a, hm, hl, hl2, hr, hp, s => by
    rw [List.mapM_cons] at hm
    cases hi : idxOf p L 0 with
    | none => rw [hi] at hm; cases hm
    | some i =>
      rw [hi] at hm
      cases hr2 : ps.mapM (fun p => idxOf p L 0) with
      | none => rw [hr2] at hm; cases hm
      | some is' =>
        rw [hr2] at hm
        cases hm
        cases xs with
        | nil => cases hl
        | cons x xs =>
          cases ys with
          | nil => cases hl2
          | cons y ys =>
            have hd : dstOf L (some p) = .var i := by simp only [dstOf, hi]
            have s1 : St L N ρ env0 (upd x i vars) [] (a.put (some p) y) := by
              have e1 := s.env.put wf0 (some p) (hr 0 x y rfl rfl) (fun t ht => by cases ht; rw [s.size]; exact hp p List.mem_cons_self)
              have e2 := s.dfr.put hN (some p) (fun t ht => by cases ht; exact hp p List.mem_cons_self) x y
              rw [hd] at e1 e2
              exact ⟨e1, by rw [put_size]; exact s.size, e2⟩
            have := setAll_ok hN ps (is := is') (xs := xs) (ys := ys) hr2 (by simpa using hl) (by simpa using hl2) (fun j x' y' h1 h2 => hr (j + 1) x' y' (by simpa using h1) (by simpa using h2)) (fun q hq => hp q (List.mem_cons_of_mem _ hq)) s1
            exact this

theorem round2_inv {b : Pos} {c : CI} {r1 : R} (hn : ∀ n, round2 b rec c r1 ≠ .fail n) : ∃ v1 s1 h1 f vs v3 s3 h3 f2 vs2, r1 = .ok v1 s1 h1 ∧ h1.obj b = some (.lp f vs false) ∧ c.run rec v1 [] (h1.put b (.lp f vs true)) = .ok v3 s3 h3 ∧ h3.obj b = some (.lp f2 vs2 true) ∧
    round2 b rec c r1 = .ret .tt (h3.put b (.lp f2 vs2 false)) := by
  cases r1 with
  | ok v1 s1 h1 =>
    unfold round2 at hn ⊢
    simp only at hn ⊢
    split at hn
    case h_2 => exact absurd rfl (hn 165)
    rename_i f vs hob
    cases hr : c.run rec v1 [] (h1.put b (.lp f vs true)) with
    | ok v3 s3 h3 =>
      rw [hr] at hn
      unfold round3 at hn ⊢
      simp only at hn ⊢
      split at hn
      case h_2 => exact absurd rfl (hn 163)
      rename_i f2 vs2 hob2
      exact ⟨v1, s1, h1, f, vs, v3, s3, h3, f2, vs2, rfl, hob, hr, hob2, rfl⟩
    | ex i v3 h3 => rw [hr] at hn; exact absurd rfl (hn 164)
    | ret v3 h3 => rw [hr] at hn; exact absurd rfl (hn 164)
    | pan x v3 h3 => rw [hr] at hn; exact absurd rfl (hn 164)
    | fail n => rw [hr] at hn; exact absurd rfl (hn n)
  | ex i v3 h3 => exact absurd rfl (hn 166)
  | ret v3 h3 => exact absurd rfl (hn 166)
  | pan x v3 h3 => exact absurd rfl (hn 166)
  | fail n => exact absurd rfl (hn n)

theorem mapM_len {f : Nat → Option Nat} : ∀ (ps : List Nat) {is : List Nat}, ps.mapM f = some is → is.length = ps.length
  | [], is, h => by cases h; rfl
  | p :: ps, is, h => by
    rw [List.mapM_cons] at h
    cases h1 : f p with
    | none => rw [h1] at h; cases h
    | some x =>
      rw [h1] at h
      cases h2 : ps.mapM f with
      | none => rw [h2] at h; cases h
      | some l => rw [h2] at h; cases h; simp [mapM_len ps h2]

/-- a round of a loop over a function -/
theorem round_ok {codeR : FuncId → Option (List Nat × CI × CI)} (hCR : ∀ f x, codeR f = some x → cRnd P hint f = some x) (hOp : ∀ f fn c, P.funcs[f]? = some fn → fn.body = some c → codeR f ≠ none → ∀ x ∈ rangesOf c, ∀ ops, (opsOf x.2.1 = some ops ∨ opsOf x.2.2 = some ops) → ops.toList.all (opIn fn.ntmps) = true)
    (hH : Rounds.hint = hint) (hRd : ∀ f ps as bd sz, Rounds.rc f ps as bd sz → ∃ fn c, P.funcs[f]? = some fn ∧ fn.body = some c ∧ (ps, as, bd) ∈ rangesOf c ∧ sz = fn.ntmps) (hrec : RecOk P rec)
    (r : Rel ρ h w) {args : List AV} {vs : Array Value} (ha : ArgsRel ρ args vs) (hn : ∀ n, roundC codeR rec args h ≠ .fail n) : YPost P vs w (CPost ρ h w (roundC codeR rec args h)) := by
  unfold roundC at hn
  split at hn
  case h_2 => exact absurd rfl (hn 169)
  rename_i b xs
  split at hn
  case h_2 => exact absurd rfl (hn 168)
  rename_i f vars hob
  split at hn
  case h_2 => exact absurd rfl (hn 167)
  rename_i is c1 c2 hcr
  have hE : roundC codeR rec (.yld b :: xs) h = ifC (Nat.beq (len xs) (len is)) (round2 b rec c2 (c1.run rec (setAll is xs vars) [] h)) := by
    unfold roundC; simp only [hob, hcr]
  rw [hE]
  cases hle : Nat.beq (len xs) (len is) with
  | false => rw [hle] at hn; exact absurd rfl (hn 149)
  | true =>
  rw [hle] at hn
  have hlen := beq_iff.1 hle
  rw [len_eq, len_eq] at hlen
  change ∀ n, round2 b rec c2 (c1.run rec (setAll is xs vars) [] h) ≠ .fail n at hn
  show YPost P vs w (CPost ρ h w (round2 b rec c2 (c1.run rec (setAll is xs vars) [] h)))
  obtain ⟨v1, s1, h1, f1, vs1, v3, s3, h3, f2, vs2, q1, q2, q3, q4, q5⟩ := round2_inv hn
  rw [q5]
  -- the arguments
  have hl0 := ha.len
  obtain ⟨ys, hys⟩ : ∃ ys : List Value, vs.toList = ys := ⟨_, rfl⟩
  cases ys with
  | nil => have := congrArg List.length hys; simp at this; rw [this] at hl0; simp at hl0
  | cons y0 ys =>
  have hget : ∀ i : Nat, vs[i]? = (y0 :: ys)[i]? := fun i => by rw [← hys, Array.getElem?_toList]
  have hy0 := ha.rel 0 (.yld b) y0 rfl (by rw [hget]; rfl)
  cases hy0 with
  | yld _ l hb =>
  have hvs : vs = #[.func (.yield l.cb) #[] #[]] ++ ys.toArray := Array.ext' (by rw [hys]; simp)
  have hlx : xs.length = ys.length := by
    have := congrArg List.length hys
    rw [Array.length_toList] at this
    simp only [List.length_cons] at this hl0
    omega
  have harg : ∀ (i : Nat) (x : AV) (y : Value), xs[i]? = some x → ys[i]? = some y → RV ρ x y := fun i x y hx hy => ha.rel (i + 1) x y (by simpa using hx) (by rw [hget]; simpa using hy)
  cases r.obj _ _ hob _ hb with
  | lp _ _ _ rc hw0 hs0 hp0 hrc hv0 hd0 =>
  obtain ⟨fn, c, ps, ia, oa, bid, ib, ob, hf, hbd, hrng, hmap, hda, hdb, hN, hpN, rfl, rfl⟩ := cRnd_inv (hCR f _ hcr)
  obtain ⟨fn', c', hf', hbd', hmem, hsz⟩ := hRd f _ _ _ _ hrc
  rw [hf] at hf'
  cases hf'
  rw [hbd] at hbd'
  cases hbd'
  rw [hrng] at hmem
  obtain ⟨hp1, hp2, hp3⟩ : rc.params = ps ∧ rc.assign = .region ia oa false ∧ rc.body = .block bid (.region ib ob false) := by
    have := List.mem_singleton.1 hmem
    simp only [Prod.mk.injEq] at this
    exact this
  have hops := fun x hx => hOp f fn c hf hbd (by rw [hcr]; simp) x (by rw [hrng]; exact hx)
  have ha1 : oa.toList.all (opIn fn.ntmps) = true := hops _ List.mem_cons_self _ (.inl rfl)
  have hb1 : ob.toList.all (opIn fn.ntmps) = true := hops _ List.mem_cons_self _ (.inr rfl)
  rw [hH] at hv0 hd0
  have hpl : is.length = ps.size := by rw [mapM_len _ hmap, Array.length_toList]
  have hy := run_yield (P := P) (args := ys.toArray) hw0 (by rw [hp1, ← hpl]; simp; omega)
  refine ⟨l.cb, ys.toArray, rc.fn, _, rc.assign, rc.body, hvs, hy, ?_⟩
  have sA : St (hint f) fn.ntmps ρ env0 vars [] { tmps := rc.tmps, defers := [] } := by
    refine ⟨fun t ht => hv0 t (by rw [hsz]; exact ht), hsz, ?_⟩
    unfold DefOk
    split
    · rfl
    · rename_i i hi
      obtain ⟨d1, d2⟩ := hd0 i hi
      exact ⟨d1, .inl ⟨by rw [← nth_eq]; exact d2, rfl⟩⟩
  have sB := setAll_ok hN ps.toList hmap hlen hlx harg hpN sA
  have htm : (Array.foldl (fun tmps (x : Tmp × Value) => tmps.setIfInBounds x.1 x.2) rc.tmps (rc.params.zip ys.toArray)) = (ps.toList.zip ys).foldl (fun t p => t.setIfInBounds p.1 p.2) rc.tmps := by
    rw [hp1, ← Array.foldl_toList, Array.toList_zip]
  refine roundIn_of_wpIn trivial ?_
  show rc.assign.wpIn (wideR (some l.cb)) 0 P _ { tmps := Array.foldl (fun tmps (x : Tmp × Value) => tmps.setIfInBounds x.1 x.2) rc.tmps (rc.params.zip ys.toArray), defers := [] } w
  rw [htm, hp2]
  have all_of : ∀ {ops : Array Oper}, ops.toList.all (opIn fn.ntmps) = true → ∀ (j : Nat) (o : Oper), ops[j]? = some o → opIn fn.ntmps o = true := fun h => allIn h
  refine wpIn_region ?_
  rw [List.range_eq_range', show oa.size = oa.toList.length by simp]
  refine plain_ok (ro := some l.cb) hrec hN (all_of ha1) oa.toList 0 (fun j o hj => by rw [Nat.zero_add]; simpa using hj) (.inr hda) (by rw [q1]; intro n hh; cases hh) r wf0 sB ?_
  rw [q1]
  intro ρ1 w1 a1 st1 sC
  show ∃ w₂, (Instr.beginRound l.cb).run P w1 = .ok () w₂ ∧ rc.body.wpIn (wideR (some l.cb)) 0 P _ a1 w₂
  have hb2 := st1.le _ _ hb
  cases st1.rel.obj _ _ q2 _ hb2 with
  | lp _ _ _ r1 hw1 hs1 hp1' hrc1 hv1 hd1 =>
  refine ⟨_, run_beginRound hw1 hs1, ?_⟩
  have hlt1 : l.cb < w1.heap.size := (Array.getElem?_eq_some_iff.1 hw1).1
  have st2 := stp_put st1.rel q2 hb2 (.lp f1 vs1 true) (w1.putObj l.cb (.loop { r1 with state := .busy })) rfl rfl rfl World.putObj_size (fun k hk => World.putObj_heap_other hk)
    (.lp f1 vs1 true { r1 with state := .busy } (World.putObj_heap_same hlt1) rfl hp1' hrc1 hv1 hd1)
  rw [hp3]
  refine wpIn_block (wpIn_region ?_)
  rw [List.range_eq_range', show ob.size = ob.toList.length by simp]
  have sD := (sC.mono st2.le).env0 (wf_ops wf0 oa.toList fun o ho => List.all_eq_true.1 ha1 o ho) []
  refine plain_ok (ro := some l.cb) hrec hN (all_of hb1) ob.toList 0 (fun j o hj => by rw [Nat.zero_add]; simpa using hj) (.inr hdb) (by rw [q3]; intro n hh; cases hh) st2.rel wf0 sD ?_
  rw [q3]
  intro ρ3 w3 a3 st3 sE
  show ∃ v w', (Instr.endRound l.cb none).run P w3 = .ok v w' ∧ CPost ρ h w _ (.returned v) w'
  have hb3 := st3.le _ _ (st2.le _ _ hb2)
  cases st3.rel.obj _ _ q4 _ hb3 with
  | lp _ _ _ r3 hw3 hs3 hp3' hrc3 hv3 hd3 =>
  have hlt3 : l.cb < w3.heap.size := (Array.getElem?_eq_some_iff.1 hw3).1
  have st4 := stp_put st3.rel q4 hb3 (.lp f2 vs2 false) (w3.putObj l.cb (.loop { r3 with state := .ready, pending := none })) rfl rfl rfl World.putObj_size (fun k hk => World.putObj_heap_other hk)
    (.lp f2 vs2 false { r3 with state := .ready, pending := none } (World.putObj_heap_same hlt3) rfl rfl hrc3 hv3 hd3)
  exact ⟨_, _, run_endRound none hw3, .tt, _, ρ3, rfl, ((st1.trans st2).trans st3).trans st4, .tt⟩

/-- what a function that is known by its answers must do -/
def PrimOk (P : Program) (f : FuncId) (p : Rec → List AV → AH → CR) : Prop :=
  ∀ (rec : Rec), RecOk P rec → ∀ (args : List AV) (h : AH), (∀ n, p rec args h ≠ .fail n) → ∀ (ρ : Emb) (w : World) (vs : Array Value), Rel ρ h w → ArgsRel ρ args vs → NextPost P ((callFunc f vs).run P w) (CPost ρ h w (p rec args h))
/-- THE EVALUATOR'S ANSWER HOLDS OF EVERY RUN -/
theorem runN_ok {code : FuncId → Option CFn} {codeR : FuncId → Option (List Nat × CI × CI)} {prim : FuncId → Option (Rec → List AV → AH → CR)} (hC : ∀ f c, code f = some c → cFn P hint od f = some c ∧ fnChk P (hint f) (od f) f = true)
    (hD : ∀ f x, codeD f = some x → cFnD P hint od f = some x ∧ fnChk P (hint f) (od f) f = true) (hRg : ∀ f fn c, P.funcs[f]? = some fn → fn.body = some c → RangesOk P (hint f) (od f) fn.ntmps c)
    (hCR : ∀ f x, codeR f = some x → cRnd P hint f = some x) (hOp : ∀ f fn c, P.funcs[f]? = some fn → fn.body = some c → codeR f ≠ none → ∀ x ∈ rangesOf c, ∀ ops, (opsOf x.2.1 = some ops ∨ opsOf x.2.2 = some ops) → ops.toList.all (opIn fn.ntmps) = true)
    (hH : Rounds.hint = hint) (hRd : ∀ f ps as bd sz, Rounds.rc f ps as bd sz → ∃ fn c, P.funcs[f]? = some fn ∧ fn.body = some c ∧ (ps, as, bd) ∈ rangesOf c ∧ sz = fn.ntmps)
    (hP : ∀ f p, prim f = some p → PrimOk P f p) (hm : P.follows .mixedOrders = true) : ∀ n, RecOk P (runN code codeD codeR prim n) := by
  intro n
  induction n with
  | zero => intro f args h hn; exact absurd rfl (hn 143)
  | succ n ih =>
    intro f args h hn ρ w vs r ha
    have e : runN code codeD codeR prim (n + 1) f args h = @Bool.rec (fun _ => CR) ((cFun code prim f).run codeD (runN code codeD codeR prim n) args h) (roundC codeR (runN code codeD codeR prim n) args h) (Nat.beq f baseY) := rfl
    rw [e] at hn ⊢
    cases hb : Nat.beq f baseY with
    | true =>
      rw [hb] at hn
      exact ⟨fun hne => absurd (beq_iff.1 hb) hne, fun _ => round_ok hCR hOp hH hRd ih r ha hn⟩
    | false =>
      rw [hb] at hn
      refine ⟨fun _ => ?_, fun he => (by rw [he] at hb; cases hb)⟩
      change ∀ n_1, (cFun code prim f).run codeD (runN code codeD codeR prim n) args h ≠ .fail n_1 at hn
      show NextPost P ((callFunc f vs).run P w) (CPost ρ h w ((cFun code prim f).run codeD (runN code codeD codeR prim n) args h))
      unfold cFun at hn ⊢
      cases hp : prim f with
      | some p =>
        rw [hp] at hn
        exact hP f p hp _ ih args h hn ρ w vs r ha
      | none =>
        rw [hp] at hn
        simp only at hn ⊢
        cases hc : code f with
        | none => rw [hc] at hn; exact absurd rfl (hn 142)
        | some c =>
          rw [hc] at hn
          obtain ⟨c1, c2⟩ := hC f c hc
          exact fun_ok c1 c2 hD hRg ih hm r ha hn
end
end Go.Ev
namespace Go.Ev
set_option autoImplicit false
variable [Rounds]
open Go

/-! the two functions that have no body -/
noncomputable def pCmp (rec : Rec) (args : List AV) (h : AH) : CR :=
  match args with
  | [.str a la, .str b lb] => .ret (cond (sLt a la b lb) (.neg 0) (cond (sLt b lb a la) (.nat 1) (.nat 0))) h
  | _ => .fail 208
noncomputable def idxV : Option Nat → AV
  | some i => .nat i
  | none => .neg 0
noncomputable def pIdxB (rec : Rec) (args : List AV) (h : AH) : CR :=
  match args with
  | [.str a la, .byte c] => .ret (idxV (sFind c (la + 1) a la 0)) h
  | _ => .fail 209

theorem compareBytes_less : ∀ (a b : List UInt8), Go.Lib.compareBytes a b = if Op.bytesLess a b then -1 else if Op.bytesLess b a then 1 else 0
  | [], [] => by simp [Go.Lib.compareBytes, Op.bytesLess]
  | [], _ :: _ => by simp [Go.Lib.compareBytes, Op.bytesLess]
  | _ :: _, [] => by simp [Go.Lib.compareBytes, Op.bytesLess]
  | x :: a, y :: b => by
    unfold Go.Lib.compareBytes Op.bytesLess
    by_cases h1 : x < y
    · simp [h1]
    · by_cases h2 : y < x
      · have h3 : ¬ x = y := fun e => by subst e; exact h1 h2
        simp [h1, h2, h3]
      · have : x = y := UInt8.le_antisymm (UInt8.not_lt.1 h2) (UInt8.not_lt.1 h1)
        subst this
        simp [h1, compareBytes_less a b]

section
variable {P : Program} {ρ : Emb} {h : AH} {w : World}
theorem call_extern {f : FuncId} {fn : Func} {e : Array Value → Sem Value} (hf : P.funcs[f]? = some fn) (hname : (fn.name == "runtime.NumGoroutine") = false) (hb : fn.body = none) (h1 : Extern.findNext fn = none) (h2 : Extern.find fn = some e) {vs : Array Value} {v : Value}
    (he : (e vs).run P w = .ok v w) : (callFunc f vs).run P w = .ok (.value v) w := by
  have hm : ∀ m, (mark m).run P w = .ok () w := fun m => rfl
  simp only [callFunc, Sem.run_bind, run_program, Result.andThen_ok, hf, hname, hb, Bool.false_eq_true, if_false, Option.isNone_none, if_true, hm, h1, h2, he, Sem.run_pure]
theorem args2 {args : List AV} {vs : Array Value} {x y : AV} (ha : ArgsRel ρ [x, y] vs) : ∃ X Y, vs = #[X, Y] ∧ RV ρ x X ∧ RV ρ y Y := by
  have hl0 := ha.len
  obtain ⟨V0, V1, rfl⟩ : ∃ V0 V1, vs = #[V0, V1] := by
    have : vs.toList.length = 2 := by rw [Array.length_toList]; exact hl0.symm
    match hvl : vs.toList with
    | [a, b] => exact ⟨a, b, Array.ext' hvl⟩
    | [] => rw [hvl] at this; simp at this
    | [_] => rw [hvl] at this; simp at this
    | _ :: _ :: _ :: _ => rw [hvl] at this; simp at this
  exact ⟨V0, V1, rfl, ha.rel 0 _ V0 rfl rfl, ha.rel 1 _ V1 rfl rfl⟩
theorem cmp_prim {f : FuncId} {fn : Func} (hf : P.funcs[f]? = some fn) (hname : (fn.name == "runtime.NumGoroutine") = false) (hb : fn.body = none) (h1 : Extern.findNext fn = none) (h2 : Extern.find fn = some Extern.BytealgCompare.compare) : PrimOk P f pCmp := by
  intro rec hrec args h hn ρ w vs r ha
  unfold pCmp at hn ⊢
  split at hn
  case h_2 => exact absurd rfl (hn 208)
  rename_i a la b lb
  obtain ⟨X, Y, rfl, hx, hy⟩ := args2 (args := []) ha
  obtain ⟨s, rfl, s1, _, s3, s4⟩ := str_inv hx
  obtain ⟨t, rfl, t1, _, t3, t4⟩ := str_inv hy
  rw [call_extern hf hname hb h1 h2 (Go.Lib.run_compareString s t w)]
  refine ⟨_, h, ρ, rfl, Stp.refl r, ?_⟩
  have e1 : s.data.toList = strB a la := by cases hx with | str _ _ _ _ _ hs => exact hs
  have e2 : t.data.toList = strB b lb := by cases hy with | str _ _ _ _ _ hs => exact hs
  rw [e1, e2, compareBytes_less, ← sLt_eq, ← sLt_eq]
  cases sLt a la b lb with
  | true => exact .neg 0 (by unfold big; omega)
  | false =>
    cases sLt b lb a la with
    | true => exact .nat 1 (by unfold big; omega)
    | false => exact .nat 0 (by unfold big; omega)
theorem sFind_ok (c : Nat) (hc : c < 256) : ∀ (f a la i : Nat), la < f → (match sFind c f a la i with | some j => i ≤ j ∧ j < i + la ∧ Go.Lib.indexByte (strB a la) (UInt8.ofNat c) = (j - i : Nat) | none => Go.Lib.indexByte (strB a la) (UInt8.ofNat c) = -1)
  | 0, _, la, _, h => absurd h (Nat.not_lt_zero _)
  | f + 1, a, 0, i, _ => by simp [sFind, strB, Go.Lib.indexByte]
  | f + 1, a, la + 1, i, h => by
    have ih := sFind_ok c hc f (a / 256) la (i + 1) (by omega)
    unfold sFind
    rw [if_neg (Nat.succ_ne_zero la)]
    by_cases e : a % 256 = c
    · rw [if_pos e]
      refine ⟨Nat.le_refl _, by omega, ?_⟩
      show Go.Lib.indexByte (UInt8.ofNat (a % 256) :: _) _ = _
      rw [e]
      simp [Go.Lib.indexByte]
    · rw [if_neg e]
      have hne : (UInt8.ofNat (a % 256) == UInt8.ofNat c) = false := by
        rw [beq_eq_false_iff_ne]
        intro hh
        have := congrArg UInt8.toNat hh
        simp only [UInt8.toNat_ofNat'] at this
        omega
      have hs : Go.Lib.indexByte (strB a (la + 1)) (UInt8.ofNat c) = if Go.Lib.indexByte (strB (a / 256) la) (UInt8.ofNat c) == -1 then -1 else Go.Lib.indexByte (strB (a / 256) la) (UInt8.ofNat c) + 1 := by
        show Go.Lib.indexByte (UInt8.ofNat (a % 256) :: _) _ = _
        simp only [Go.Lib.indexByte, hne]
        rfl
      rw [show la + 1 - 1 = la by omega]
      rw [hs]
      cases hf : sFind c f (a / 256) la (i + 1) with
      | none => rw [hf] at ih; simp only at ih ⊢; rw [ih]; rfl
      | some j =>
        rw [hf] at ih
        simp only at ih ⊢
        obtain ⟨i1, i2, i3⟩ := ih
        refine ⟨by omega, by omega, ?_⟩
        rw [i3]
        have : ((((j - (i + 1) : Nat) : Int)) == -1) = false := by rw [beq_eq_false_iff_ne]; omega
        rw [this]
        simp only [Bool.false_eq_true, if_false]
        omega
theorem idx_prim {f : FuncId} {fn : Func} (hf : P.funcs[f]? = some fn) (hname : (fn.name == "runtime.NumGoroutine") = false) (hb : fn.body = none) (h1 : Extern.findNext fn = none) (h2 : Extern.find fn = some Extern.BytealgIndexByte.indexByte) : PrimOk P f pIdxB := by
  intro rec hrec args h hn ρ w vs r ha
  unfold pIdxB at hn ⊢
  split at hn
  case h_2 => exact absurd rfl (hn 209)
  rename_i a la c
  obtain ⟨X, Y, rfl, hx, hy⟩ := args2 (args := []) ha
  obtain ⟨s, rfl, s1, _, s3, s4⟩ := str_inv hx
  cases hy with
  | byte _ hc =>
  rw [call_extern hf hname hb h1 h2 (Go.Lib.run_indexByteString s c w)]
  refine ⟨_, h, ρ, rfl, Stp.refl r, ?_⟩
  have e1 : s.data.toList = strB a la := by cases hx with | str _ _ _ _ _ hs => exact hs
  rw [e1]
  have e2 : (c : Int).toNat.toUInt8 = UInt8.ofNat c := rfl
  rw [e2]
  have := sFind_ok c hc (la + 1) a la 0 (Nat.lt_succ_self _)
  cases hf : sFind c (la + 1) a la 0 with
  | none => rw [hf] at this; simp only at this; rw [this]; exact .neg 0 (by unfold big; omega)
  | some j =>
    rw [hf] at this
    simp only at this
    obtain ⟨_, h2, h3⟩ := this
    rw [h3, Nat.sub_zero]
    exact .nat j (by omega)
end
end Go.Ev
namespace Go.Ev
set_option autoImplicit false
variable [Rounds]
open Go

/-! ### plain facts of the evaluator's sorting -/
theorem pickJ_get (l : List AV) : ∀ (js : List Nat) (c : Nat), (pickJ l js)[c]? = (js[c]?).map fun j => nth j l
  | [], c => by simp [pickJ]
  | j :: js, 0 => rfl
  | j :: js, c + 1 => by simpa [pickJ] using pickJ_get l js c
theorem pickJ_len (l : List AV) : ∀ js : List Nat, (pickJ l js).length = js.length
  | [] => rfl
  | j :: js => by simp [pickJ, pickJ_len l js]
theorem rowsJ_get (js : List Nat) : ∀ (es : List (AV × AV)) (i : Nat), (rowsJ js es)[i]? = (es[i]?).map fun p => pickJ (avCells p.1 ++ avCells p.2) js
  | [], i => by simp [rowsJ]
  | (k, v) :: es, 0 => by simp [rowsJ, app_eq]
  | (k, v) :: es, i + 1 => by simpa [rowsJ] using rowsJ_get js es i
theorem rowsJ_len (js : List Nat) : ∀ es : List (AV × AV), (rowsJ js es).length = es.length
  | [] => rfl
  | (k, v) :: es => by simp [rowsJ, rowsJ_len js es]
theorem eqSyms_inv {q g : Pos} : ∀ {js : List Nat} {l : List AV}, eqSyms q g js l = true → l.length = js.length ∧ ∀ (c j : Nat), js[c]? = some j → l[c]? = some (.sym q g j)
  | [], [], _ => ⟨rfl, fun c j h => by simp at h⟩
  | [], a :: l, h => by simp [eqSyms] at h
  | j :: js, [], h => by simp [eqSyms] at h
  | j :: js, a :: l, h => by
    cases a with
    | sym q' g' j' =>
      simp only [eqSyms, Bool.and_eq_true, beq_iff] at h
      obtain ⟨⟨h1, h2⟩, h3, h4⟩ := h
      have h1 := posEq_eq' h1
      have h2 := posEq_eq' h2
      subst h1 h2 h3
      obtain ⟨i1, i2⟩ := eqSyms_inv h4
      refine ⟨by simp [i1], fun c j' hc => ?_⟩
      cases c with
      | zero => simp at hc; simp [hc]
      | succ c => simpa using i2 c j' (by simpa using hc)
    | _ => simp [eqSyms] at h
theorem rowSyms_inv {q : Pos} {js : List Nat} : ∀ {gs : List Pos} {cs : List (List AV)}, rowSyms q js gs cs = true → cs.length = gs.length ∧ ∀ (i : Nat) (g : Pos) (c : List AV), gs[i]? = some g → cs[i]? = some c → eqSyms q g js c = true
  | [], [], _ => ⟨rfl, fun i g c h => by simp at h⟩
  | [], a :: l, h => by simp [rowSyms] at h
  | g :: gs, [], h => by simp [rowSyms] at h
  | g :: gs, a :: l, h => by
    simp only [rowSyms, Bool.and_eq_true] at h
    obtain ⟨i1, i2⟩ := rowSyms_inv h.2
    refine ⟨by simp [i1], fun i g' c hg hc => ?_⟩
    cases i with
    | zero => simp at hg hc; subst hg hc; exact h.1
    | succ i => exact i2 i g' c (by simpa using hg) (by simpa using hc)
theorem ltRow_inv {rec : Rec} {g : FuncId} {nx : Pos} {a : List AV} : ∀ {l : List (List AV)} {bs : List Bool}, ltRow rec g nx a l = some bs → bs.length = l.length ∧ ∀ (i : Nat) (b : List AV), l[i]? = some b → ∃ z, cmpAV rec g nx a b = some z ∧ bs[i]? = some (decide (z < 0))
  | [], bs, h => by cases h; exact ⟨rfl, fun i b h => by simp at h⟩
  | b :: r, bs, h => by
    unfold ltRow at h
    cases hc : cmpAV rec g nx a b with
    | none => rw [hc] at h; cases h
    | some z =>
      rw [hc] at h
      have key : ∃ l, ltRow rec g nx a r = some l ∧ bs = decide (z < 0) :: l := by
        cases z with
        | ofNat n =>
          simp only at h
          cases hr : ltRow rec g nx a r with
          | none => rw [hr] at h; cases h
          | some l => rw [hr] at h; cases h; exact ⟨l, rfl, by simp⟩
        | negSucc n =>
          simp only at h
          cases hr : ltRow rec g nx a r with
          | none => rw [hr] at h; cases h
          | some l => rw [hr] at h; cases h; exact ⟨l, rfl, by simp⟩
      obtain ⟨l, hl, rfl⟩ := key
      obtain ⟨i1, i2⟩ := ltRow_inv hl
      refine ⟨by simp [i1], fun i b' hb => ?_⟩
      cases i with
      | zero => simp at hb; subst hb; exact ⟨z, hc, rfl⟩
      | succ i => obtain ⟨z', z1, z2⟩ := i2 i b' (by simpa using hb); exact ⟨z', z1, by simpa using z2⟩
theorem ltRows_inv {rec : Rec} {g : FuncId} {nx : Pos} {all : List (List AV)} : ∀ {l : List (List AV)} {m : List (List Bool)}, ltRows rec g nx all l = some m → m.length = l.length ∧ ∀ (i : Nat) (a : List AV), l[i]? = some a → ∃ bs, m[i]? = some bs ∧ ltRow rec g nx a all = some bs
  | [], m, h => by cases h; exact ⟨rfl, fun i b h => by simp at h⟩
  | a :: r, m, h => by
    unfold ltRows at h
    cases hc : ltRow rec g nx a all with
    | none => rw [hc] at h; cases h
    | some bs =>
      rw [hc] at h
      simp only at h
      cases hr : ltRows rec g nx all r with
      | none => rw [hr] at h; cases h
      | some m' =>
        rw [hr] at h
        cases h
        obtain ⟨i1, i2⟩ := ltRows_inv hr
        refine ⟨by simp [i1], fun i b' hb => ?_⟩
        cases i with
        | zero => simp at hb; subst hb; exact ⟨bs, rfl, hc⟩
        | succ i => obtain ⟨z', z1, z2⟩ := i2 i b' (by simpa using hb); exact ⟨z', by simpa using z1, z2⟩
theorem chkRow_inv {k : Nat} : ∀ {l : List Bool} {ns : List Nat}, chkRow k l ns = true → l.length = ns.length ∧ ∀ (i n : Nat) (b : Bool), l[i]? = some b → ns[i]? = some n → b = decide (n < k)
  | [], [], _ => ⟨rfl, fun i n b h => by simp at h⟩
  | [], a :: l, h => by simp [chkRow] at h
  | b :: l, [], h => by simp [chkRow] at h
  | b :: l, n :: ns, h => by
    simp only [chkRow, Bool.and_eq_true] at h
    obtain ⟨i1, i2⟩ := chkRow_inv h.2
    refine ⟨by simp [i1], fun i n' b' hb hn => ?_⟩
    cases i with
    | zero =>
      simp at hb hn
      subst hb hn
      have h1 := h.1
      cases hle : Nat.ble (Nat.succ n) k with
      | true =>
        rw [hle] at h1
        have : n < k := ble_iff.1 hle
        simp [this]; exact h1
      | false =>
        rw [hle] at h1
        have : ¬ n < k := fun h => by rw [ble_iff.2 h] at hle; cases hle
        simp [this]
        have h1 : (!b) = true := h1
        simpa using h1
    | succ i => exact i2 i n' b' (by simpa using hb) (by simpa using hn)
theorem chkRows_inv {ns : List Nat} : ∀ {m : List (List Bool)} {ks : List Nat}, chkRows ns m ks = true → m.length = ks.length ∧ ∀ (i k : Nat) (l : List Bool), m[i]? = some l → ks[i]? = some k → chkRow k l ns = true
  | [], [], _ => ⟨rfl, fun i k b h => by simp at h⟩
  | [], a :: l, h => by simp [chkRows] at h
  | b :: l, [], h => by simp [chkRows] at h
  | b :: l, k :: ks, h => by
    simp only [chkRows, Bool.and_eq_true] at h
    obtain ⟨i1, i2⟩ := chkRows_inv h.2
    refine ⟨by simp [i1], fun i n' b' hb hn => ?_⟩
    cases i with
    | zero => simp at hb hn; subst hb hn; exact h.1
    | succ i => exact i2 i n' b' (by simpa using hb) (by simpa using hn)
theorem idxN_inv {x : Nat} : ∀ {l : List Nat} {i r : Nat}, idxN x l i = some r → i ≤ r ∧ l[r - i]? = some x
  | [], i, r, h => by cases h
  | y :: l, i, r, h => by
    unfold idxN at h
    cases hb : Nat.beq x y with
    | true =>
      rw [hb] at h
      cases h
      rw [beq_iff.1 hb]
      exact ⟨Nat.le_refl _, by simp⟩
    | false =>
      rw [hb] at h
      obtain ⟨i1, i2⟩ := idxN_inv (l := l) (i := i + 1) (r := r) h
      refine ⟨by omega, ?_⟩
      rw [show r - i = (r - (i + 1)) + 1 by omega, List.getElem?_cons_succ]; exact i2
theorem ordN_inv {ks : List Nat} : ∀ {n : Nat} {o : List Nat}, ordN ks n = some o → o.length = n ∧ ∀ p, p < n → ∃ i, o[p]? = some i ∧ ks[i]? = some (n - 1 - p)
  | 0, o, h => by cases h; exact ⟨rfl, fun p h => absurd h (Nat.not_lt_zero _)⟩
  | n + 1, o, h => by
    unfold ordN at h
    cases hi : idxN n ks 0 with
    | none => rw [hi] at h; cases h
    | some i =>
      rw [hi] at h
      simp only at h
      cases hr : ordN ks n with
      | none => rw [hr] at h; cases h
      | some l =>
        rw [hr] at h
        cases h
        obtain ⟨i1, i2⟩ := ordN_inv hr
        refine ⟨by simp [i1], fun p hp => ?_⟩
        cases p with
        | zero => exact ⟨i, rfl, by have := (idxN_inv hi).2; simpa using this⟩
        | succ p =>
          obtain ⟨j, j1, j2⟩ := i2 p (by omega)
          exact ⟨j, by simpa using j1, by rw [j2]; congr 1; omega⟩
theorem nthL_eq : ∀ (i : Nat) (l : List (List AV)), nthL i l = l.getD i []
  | i, [] => by cases i <;> simp [nthL]
  | 0, a :: l => rfl
  | i + 1, a :: l => by simpa [nthL] using nthL_eq i l
theorem rowsAt_get (rows : List (List AV)) : ∀ (o : List Nat) (p : Nat), (rowsAt rows o)[p]? = (o[p]?).map fun i => rows.getD i []
  | [], p => by simp [rowsAt]
  | i :: o, 0 => by simp [rowsAt, nthL_eq]
  | i :: o, p + 1 => by simpa [rowsAt] using rowsAt_get rows o p
theorem rowsAt_len (rows : List (List AV)) : ∀ (o : List Nat), (rowsAt rows o).length = o.length
  | [] => rfl
  | i :: o => by simp [rowsAt, rowsAt_len rows o]
theorem allOneA_inv : ∀ {l : List AV}, allOneA l = true → ∀ x ∈ l, avOne x = true
  | [], _ => fun x hx => by cases hx
  | a :: l, h => by
    simp only [allOneA, Bool.and_eq_true] at h
    intro x hx
    rcases List.mem_cons.1 hx with rfl | hx
    · exact h.1
    · exact allOneA_inv h.2 x hx
theorem allOneR_inv : ∀ {l : List (List AV)}, allOneR l = true → ∀ r ∈ l, ∀ x ∈ r, avOne x = true
  | [], _ => fun x hx => by cases hx
  | a :: l, h => by
    simp only [allOneR, Bool.and_eq_true] at h
    intro x hx
    rcases List.mem_cons.1 hx with rfl | hx
    · exact allOneA_inv h.1
    · exact allOneR_inv h.2 x hx
theorem cntsB_len : ∀ m : List (List Bool), (cntsB m).length = m.length
  | [] => rfl
  | l :: m => by simp [cntsB, cntsB_len m]
theorem perm_of_nodup : ∀ {s t : List Nat}, s.Nodup → t.Nodup → (∀ x, x ∈ s ↔ x ∈ t) → s.Perm t
  | [], t, _, _, h => by
    cases t with
    | nil => exact .refl _
    | cons a t => exact absurd ((h a).2 List.mem_cons_self) (by simp)
  | a :: s, t, hs, ht, h => by
    have ha : a ∈ t := (h a).1 List.mem_cons_self
    have hs' := List.nodup_cons.1 hs
    refine (List.Perm.cons a ?_).trans (List.perm_cons_erase ha).symm
    refine perm_of_nodup hs'.2 (ht.erase a) fun x => ?_
    rw [ht.mem_erase_iff]
    constructor
    · intro hx
      exact ⟨fun e => hs'.1 (e ▸ hx), (h x).1 (List.mem_cons_of_mem _ hx)⟩
    · rintro ⟨hx, ht⟩
      rcases List.mem_cons.1 ((h x).2 ht) with e | e
      · exact absurd e hx
      · exact e
/-- the one sorted order -/
theorem sorted_is {ks o d d' : List Nat} {n : Nat} (hks : ks.length = n) (ho : ordN ks n = some o) (hd : d.Nodup) (hdl : d.length = n) (hdn : ∀ x ∈ d, x < n) (hp : d'.Perm d) (hs : d'.Pairwise fun a b => ks.getD b 0 ≤ ks.getD a 0) :
    d' = o ∧ o.length = n ∧ ∀ x ∈ o, x < n := by
  obtain ⟨o1, o2⟩ := ordN_inv ho
  have oget : ∀ (p : Nat) (x : Nat), o[p]? = some x → p < n ∧ x < n ∧ ks.getD x 0 = n - 1 - p := by
    intro p x hx
    have hp : p < n := by rw [← o1]; exact (List.getElem?_eq_some_iff.1 hx).1
    obtain ⟨i, i1, i2⟩ := o2 p hp
    rw [hx] at i1
    cases i1
    refine ⟨hp, by rw [← hks]; exact (List.getElem?_eq_some_iff.1 i2).1, by simp [List.getD, i2]⟩
  have on : o.Pairwise fun a b => ks.getD b 0 < ks.getD a 0 := by
    rw [List.pairwise_iff_getElem]
    intro i j hi hj hij
    obtain ⟨a1, a2, a3⟩ := oget i _ (List.getElem?_eq_getElem hi)
    obtain ⟨b1, b2, b3⟩ := oget j _ (List.getElem?_eq_getElem hj)
    rw [a3, b3]; omega
  have onod : o.Nodup := on.imp fun {a b} h e => by rw [e] at h; omega
  have olt : ∀ x ∈ o, x < n := fun x hx => by
    obtain ⟨p, hp⟩ := List.mem_iff_getElem?.1 hx
    exact (oget p x hp).2.1
  have hr : ∀ (s : List Nat), s.Nodup → s.length = n → (∀ x ∈ s, x < n) → ∀ x, x ∈ s ↔ x < n := fun s h1 h2 h3 x =>
    ⟨h3 x, fun hx => nodup_cover s (List.range n) h1 (fun y hy => List.mem_range.2 (h3 y hy)) (by simp [h2]) x (List.mem_range.2 hx)⟩
  have hod : d.Perm o := perm_of_nodup hd onod fun x => by rw [hr d hd hdl hdn, hr o onod o1 olt]
  refine ⟨List.Perm.eq_of_pairwise (le := fun a b => ks.getD b 0 ≤ ks.getD a 0) ?_ hs (on.imp fun h => Nat.le_of_lt h) (hp.trans hod), o1, olt⟩
  intro a b ha hb h1 h2
  have ha' : a ∈ o := hod.mem_iff.1 (hp.mem_iff.1 ha)
  obtain ⟨pa, hpa⟩ := List.mem_iff_getElem?.1 ha'
  obtain ⟨pb, hpb⟩ := List.mem_iff_getElem?.1 hb
  obtain ⟨a1, a2, a3⟩ := oget pa _ hpa
  obtain ⟨b1, b2, b3⟩ := oget pb _ hpb
  have : pa = pb := by omega
  subst this
  rw [hpa] at hpb; exact Option.some.inj hpb
theorem exList {Q : Nat → Nat → Prop} : ∀ (n : Nat), (∀ i, i < n → ∃ a, Q i a) → ∃ l : List Nat, l.length = n ∧ ∀ (i a : Nat), l[i]? = some a → Q i a
  | 0, _ => ⟨[], rfl, fun i a h => by simp at h⟩
  | n + 1, h => by
    obtain ⟨l, l1, l2⟩ := exList n fun i hi => h i (by omega)
    obtain ⟨a, ha⟩ := h n (by omega)
    refine ⟨l ++ [a], by simp [l1], fun i b hb => ?_⟩
    rcases Nat.lt_or_ge i n with hi | hi
    · rw [List.getElem?_append_left (by omega)] at hb; exact l2 i b hb
    · rw [List.getElem?_append_right (by omega)] at hb
      have h0 : i = n := by
        have := (List.getElem?_eq_some_iff.1 hb).1
        simp at this; omega
      subst h0
      rw [l1, Nat.sub_self] at hb
      cases hb; exact ha
end Go.Ev
namespace Go.Ev
set_option autoImplicit false
variable [Rounds]
open Go

section
variable {P : Program} {ρ : Emb} {h : AH} {w : World}
theorem sh_ok {a b : AV} (h : sameSh a b = true) : ∃ n, avOk n b = true := by
  cases a with
  | agg n l =>
    cases b with
    | agg m l' => exact ⟨m, beq_iff.2 rfl⟩
    | _ => simp [sameSh] at h
  | _ =>
    cases b with
    | agg m l' => simp [sameSh] at h
    | _ =>
      simp only [sameSh, Bool.and_eq_true] at h
      exact ⟨1, (avOne_ok h.2).1⟩
/-- nothing of what was is turned, and blocks are laid -/
theorem stp_grow (r : Rel ρ h w) (os : Array Go.Obj) : Stp ρ h w ρ h (Go.Sort.grow w os) := by
  have old : ∀ k, k < w.heap.size → (Go.Sort.grow w os).heap[k]? = w.heap[k]? := fun k hk => by
    show (w.heap ++ os)[k]? = _
    rw [Array.getElem?_append_left hk]
  refine ⟨fun _ _ e => e, ⟨fun p o hp l hl => ?_, r.inj, r.fresh1, r.fresh2⟩, Nat.le_refl _, rfl, rfl, rfl, ?_, fun k hk _ => old k hk, fun p l hp hl => .inr ⟨p, l, hp, hl, rfl⟩, fun _ _ e => ⟨e, rfl⟩, Nat.le_refl _⟩
  · have := r.obj p o hp l hl
    exact this.world (old _ this.inb)
  · show _ ≤ (w.heap ++ os).size
    simp
/-- from no abstract heap: only new blocks, and draws -/
theorem stp_bare {nx : Pos} {h' : AH} {ρ' : Emb} {w' : World} (s : Stp ρ (.mk nx .e) w ρ' h' w') : ∃ q os', w' = Go.Sort.grow (w.drewN q) os' := by
  refine ⟨w'.drawn - w.drawn, w'.heap.extract w.heap.size, ?_⟩
  have hh : w'.heap = w.heap ++ w'.heap.extract w.heap.size := by
    apply Array.ext_getElem?
    intro k
    rcases Nat.lt_or_ge k w.heap.size with hk | hk
    · rw [Array.getElem?_append_left hk]
      refine s.frame k hk fun p l hp hl => ?_
      exact absurd (PT.get_e p) hp
    · rw [Array.getElem?_append_right hk, Array.getElem?_extract]
      have := s.size
      split
      · congr 1; omega
      · rw [Array.getElem?_eq_none (by omega)]
  have h1 := s.os
  have h2 := s.tape
  have h3 := s.output
  have h4 := s.drawn
  have hdn : (w.drewN (w'.drawn - w.drawn)) = { w with drawn := w.drawn + (w'.drawn - w.drawn) } := by
    first | rfl | exact drewN_eq _ _
  rw [hdn]
  cases w with
  | mk heap tape drawn os output =>
  cases w' with
  | mk heap' tape' drawn' os' output' =>
  simp only at h1 h2 h3 h4 hh
  subst h1 h2 h3
  simp only [Go.Sort.grow]
  rw [show drawn + (drawn' - drawn) = drawn' by omega]
  congr 1
theorem rel_bare (r : Rel ρ h w) (W : World) : Rel ρ (.mk h.nx .e) W :=
  ⟨fun p o hp => absurd ((PT.get_e p).symm.trans hp) (by simp), fun p q l m hp => absurd (PT.get_e p) hp, r.fresh1, fun p hp => absurd (PT.get_e p) hp⟩

/-- an entry's cells -/
def cellsE (m : MapEntry) : List Value := m.key.cells.toList ++ m.val.cells.toList
theorem entry_cells {k v k0 v0 : AV} {m : MapEntry} (h1 : sameSh k0 k = true) (h2 : sameSh v0 v = true) (r1 : RV ρ k m.key) (r2 : RV ρ v m.val) (j : Nat) (ho : avOne (nth j (avCells k ++ avCells v)) = true) :
    ∃ y, (cellsE m)[j]? = some y ∧ y.oneCell' = true ∧ RV ρ (nth j (avCells k ++ avCells v)) y := by
  obtain ⟨n1, a1⟩ := sh_ok h1
  obtain ⟨n2, a2⟩ := sh_ok h2
  obtain ⟨_, l1, c1⟩ := avOk_cells r1 a1
  obtain ⟨_, l2, c2⟩ := avOk_cells r2 a2
  have hj : j < (avCells k ++ avCells v).length := by
    rcases Nat.lt_or_ge j (avCells k ++ avCells v).length with h | h
    · exact h
    · rw [nth_eq, List.getD, List.getElem?_eq_none h] at ho
      simp [avOne] at ho
  have hx : (avCells k ++ avCells v)[j]? = some (nth j (avCells k ++ avCells v)) := by
    rw [nth_eq, List.getD, List.getElem?_eq_getElem hj]; rfl
  generalize nth j (avCells k ++ avCells v) = x at hx ho
  rcases Nat.lt_or_ge j (avCells k).length with h | h
  · rw [List.getElem?_append_left h] at hx
    have hy : m.key.cells[j]? = some (m.key.cells[j]'(by omega)) := Array.getElem?_eq_getElem _
    obtain ⟨a, b⟩ := c1 j x _ hx hy
    refine ⟨_, ?_, b, a⟩
    unfold cellsE
    rw [List.getElem?_append_left (by simpa using (by omega : j < m.key.cells.size)), Array.getElem?_toList]; exact hy
  · rw [List.getElem?_append_right h] at hx
    have hlt := (List.getElem?_eq_some_iff.1 hx).1
    have hy : m.val.cells[j - (avCells k).length]? = some (m.val.cells[j - (avCells k).length]'(by omega)) := Array.getElem?_eq_getElem _
    obtain ⟨a, b⟩ := c2 _ x _ hx hy
    refine ⟨_, ?_, b, a⟩
    unfold cellsE
    rw [List.getElem?_append_right (by simp; omega), Array.length_toList, ← l1, Array.getElem?_toList]; exact hy

/-- what an entry puts into the row -/
noncomputable def encE (σ : List MapEntry) (js : List Nat) (n : Nat) (a : Nat) : List Value := js.map fun j => (((σ[min a (n - 1)]?).map cellsE).getD [])[j]?.getD undef
noncomputable def cfE (rec : Rec) (g : FuncId) (nx : Pos) (rows : List (List AV)) (n : Nat) (x y : Nat) : Int := (cmpAV rec g nx (rows.getD (min x (n - 1)) []) (rows.getD (min y (n - 1)) [])).getD 0

theorem ifC_inv {c : Bool} {t : CR} (hn : ∀ n, ifC c t ≠ .fail n) : c = true ∧ ifC c t = t := by
  cases c with
  | false => exact absurd rfl (hn 149)
  | true => exact ⟨rfl, rfl⟩
theorem pSort3_inv {b : Pos} {e sz n : Nat} {t : PM (List AV)} {rows : List (List AV)} {m : List (List Bool)} (hn : ∀ k, pSort3 b e sz n t rows h m ≠ .fail k) : ∃ o, chkRows (cntsB m) m (cntsB m) = true ∧ ordN (cntsB m) m.length = some o ∧
    pSort3 b e sz n t rows h m = .ret (.tup []) (h.put b (.dat sz n (putChunks (rowsAt rows o) e t))) := by
  unfold pSort3 at hn ⊢
  obtain ⟨h1, h2⟩ := ifC_inv hn
  rw [h2] at hn ⊢
  rw [len_eq] at hn ⊢
  cases ho : ordN (cntsB m) m.length with
  | none => rw [ho] at hn; exact absurd rfl (hn 171)
  | some o => exact ⟨o, h1, rfl, rfl⟩
end
end Go.Ev
namespace Go.Ev
set_option autoImplicit false
variable [Rounds]
open Go

section
variable {P : Program} {ρ : Emb} {h : AH} {w : World}
set_option maxHeartbeats 4000000 in
/-- the sort of a row of symbols -/
theorem sort_row {ren : Go.Shelf.Ren} (L : Go.Proofs.SlLaysF0.n6 P ren) {sz : Nat} {cmp : FuncId} (aE : ∀ w, (isAgg (ren.t 24)).run P w = .ok true w) (zE : ∀ w, (Go.sizeOf (ren.t 24)).run P w = .ok sz w)
    (eg : ∀ args w, (callFunc cmp args).run P w = .ok (.enter cmp args) w) (hcb : cmp ≠ baseY) {rec : Rec} (hrec : RecOk P rec) (r : Rel ρ h w)
    {b : Pos} {e ln n : Nat} {t : PM (List AV)} {l : Loc} (hob : h.obj b = some (.dat sz n t)) (hb : ρ b = some l) (hen : e + ln ≤ n) (hln : 0 < ln) (hsmall : e + ln ≤ 100000000) (cap : Nat)
    {q : Pos} {js : List Nat} {chunks : List (List AV)} (hch : rdChunks t ln e = some chunks) {m : Pos} {es : List (AV × AV)} {gs : List Pos} (hoq : h.obj q = some (.ms m es gs 0)) (hrs : rowSyms q js gs chunks = true) (hjs : js.length = sz) (hjp : 0 < sz)
    (hone : allOneR (rowsJ js es) = true) {M : List (List Bool)} (hM : ltRows rec cmp h.nx (rowsJ js es) (rowsJ js es) = some M) {o : List Nat} (hck : chkRows (cntsB M) M (cntsB M) = true) (ho : ordN (cntsB M) M.length = some o) :
    Calls P (ren.f 6) #[.slice (some ⟨l.cb, l.sh + e * l.sz, none⟩) ln cap, .func (.func cmp) #[] #[]] w (CPost ρ h w (.ret (.tup []) (h.put b (.dat sz n (putChunks (rowsAt (rowsJ js es) o) e t))))) := by
  obtain ⟨c1, c2⟩ := rdChunks_inv hch
  obtain ⟨g1, g2⟩ := rowSyms_inv hrs
  have od := r.obj b _ hob l hb
  cases od with
  | dat _ _ _ c el fr hw hsz hlim hfr hin hnn hc =>
  subst hfr
  -- the chunks are symbols
  have sym : ∀ (i : Nat) (g : Pos) (cc j : Nat), gs[i]? = some g → js[cc]? = some j → ∃ y, c[l.sh + (e + i) * sz + cc]? = some y ∧ y.oneCell' = true ∧ RV ρ (.sym q g j) y := by
    intro i g cc j hg hj
    have hi : i < chunks.length := by rw [g1]; exact (List.getElem?_eq_some_iff.1 hg).1
    have hci := List.getElem?_eq_getElem hi
    have he := g2 i g _ hg hci
    obtain ⟨_, e2⟩ := eqSyms_inv he
    obtain ⟨_, _, h3⟩ := hc (e + i) _ (c2 i _ hci)
    exact h3 cc _ (e2 cc j hj)
  have hgl : gs.length = ln := by rw [← g1, c1]
  -- the iterator
  obtain ⟨lq, hq⟩ : ∃ lq, ρ q = some lq := by
    have h0 : gs[0]? = some (gs[0]'(by omega)) := List.getElem?_eq_getElem _
    have h1 : js[0]? = some (js[0]'(by omega)) := List.getElem?_eq_getElem _
    obtain ⟨y, _, _, hr⟩ := sym 0 _ 0 _ h0 h1
    cases hr with
    | sym _ _ _ lq hq => exact ⟨lq, hq⟩
  have oq := r.obj q _ hoq lq hq
  cases oq with
  | ms _ lb _ _ _ seen hwq hlb hi =>
  have hel : es.length = ln := by have := hi.len; omega
  have hce : lq.ces.size = ln := by rw [hi.size, hel]
  obtain ⟨σ, s1, s2, s3⟩ := hi.perm
  rw [hel] at s2
  obtain ⟨k0, v0, es0, hes0⟩ : ∃ k0 v0 es0, es = (k0, v0) :: es0 := by
    cases es with
    | nil => simp at hel; omega
    | cons p es => exact ⟨p.1, p.2, es, rfl⟩
  have hlike : ∀ k v, (k, v) ∈ es → sameSh k0 k = true ∧ sameSh v0 v = true := fun k v hm => by
    rw [hes0] at hm
    exact shapes_at (by rw [← hes0]; exact hi.shape) hm
  obtain ⟨rows, hrows⟩ : ∃ rows, rowsJ js es = rows := ⟨_, rfl⟩
  have hrl : rows.length = ln := by rw [← hrows, rowsJ_len, hel]
  rw [hrows] at hone hM ⊢
  -- rows and entries
  have row : ∀ a, a < ln → ∃ m, σ[a]? = some m ∧ ∃ ls, rows[a]? = some ls ∧ ls.length = sz ∧ ∀ (cc : Nat) (x : AV), ls[cc]? = some x → ∃ j y, js[cc]? = some j ∧ (cellsE m)[j]? = some y ∧ y.oneCell' = true ∧ RV ρ x y := by
    intro a ha
    have h1 := List.getElem?_eq_getElem (show a < es.length by omega)
    have h2 := List.getElem?_eq_getElem (show a < σ.length by omega)
    obtain ⟨r1, r2⟩ := s3 a _ _ _ h1 h2
    obtain ⟨q1, q2⟩ := hlike _ _ (List.mem_of_getElem? h1)
    have h3 : rows[a]? = some (pickJ (avCells es[a].1 ++ avCells es[a].2) js) := by
      have h9 := rowsJ_get js es a
      rw [hrows, h1] at h9
      exact h9
    refine ⟨_, h2, _, h3, by rw [pickJ_len, hjs], fun cc x hx => ?_⟩
    have hx1 := allOneR_inv hone _ (List.mem_of_getElem? h3) x (List.mem_of_getElem? hx)
    rw [pickJ_get] at hx
    cases hj : js[cc]? with
    | none => rw [hj] at hx; cases hx
    | some j =>
      rw [hj] at hx
      simp only [Option.map_some, Option.some.injEq] at hx
      subst hx
      obtain ⟨y, y1, y2, y3⟩ := entry_cells q1 q2 r1 r2 j hx1
      exact ⟨j, y, rfl, y1, y2, y3⟩
  have encl : ∀ x, (encE σ js ln x).length = sz := fun x => by simp [encE, hjs]
  have encg : ∀ (a : Nat) (m : MapEntry) (cc j : Nat) (y : Value), a < ln → σ[a]? = some m → js[cc]? = some j → (cellsE m)[j]? = some y → (encE σ js ln a)[cc]? = some y := by
    intro a m cc j y ha hm hj hy
    unfold encE
    rw [List.getElem?_map, hj]
    have : min a (ln - 1) = a := by omega
    simp only [Option.map_some, this, hm, Option.getD_some, hy]
  have clt : ∀ x, min x (ln - 1) < ln := fun x => by omega
  have encc : ∀ x, encE σ js ln x = encE σ js ln (min x (ln - 1)) := fun x => by
    unfold encE
    rw [show min (min x (ln - 1)) (ln - 1) = min x (ln - 1) by omega]
  have rowd : ∀ a ls, a < ln → rows[a]? = some ls → rows.getD a [] = ls := fun a ls _ h => by simp [List.getD, h]
  have rowRel : ∀ x, ∃ ls, rows[min x (ln - 1)]? = some ls ∧ ls.length = sz ∧ ∀ (cc : Nat) (a : AV), ls[cc]? = some a → ∃ y, (encE σ js ln x)[cc]? = some y ∧ y.oneCell' = true ∧ RV ρ a y := by
    intro x
    obtain ⟨m, m1, ls, l1, l2, l3⟩ := row _ (clt x)
    refine ⟨ls, l1, l2, fun cc a ha => ?_⟩
    obtain ⟨j, y, y1, y2, y3, y4⟩ := l3 cc a ha
    exact ⟨y, by rw [encc]; exact encg _ m cc j y (clt x) m1 y1 y2, y3, y4⟩
  have enc1 : ∀ x, ∀ v ∈ encE σ js ln x, v.oneCell' = true := by
    intro x v hv
    obtain ⟨cc, hcc⟩ := List.mem_iff_getElem?.1 hv
    have hlt : cc < sz := by rw [← encl x]; exact (List.getElem?_eq_some_iff.1 hcc).1
    obtain ⟨ls, l1, l2, l3⟩ := rowRel x
    obtain ⟨y, y1, y2, _⟩ := l3 cc _ (List.getElem?_eq_getElem (by omega))
    rw [hcc] at y1
    cases y1; exact y2
  -- the order
  obtain ⟨m1, m2⟩ := ltRows_inv hM
  have hMl : M.length = ln := by rw [m1, hrl]
  rw [hMl] at ho
  have hkl : (cntsB M).length = ln := by rw [cntsB_len, hMl]
  obtain ⟨K, hK⟩ : ∃ K : Nat → Nat, K = fun a => (cntsB M).getD a 0 := ⟨_, rfl⟩
  have kget : ∀ a, a < ln → (cntsB M)[a]? = some (K a) := fun a ha => by
    rw [hK]
    simp only [List.getD, List.getElem?_eq_getElem (show a < (cntsB M).length by omega), Option.getD_some]
  have cfz : ∀ x y, ∃ z, cmpAV rec cmp h.nx (rows.getD (min x (ln - 1)) []) (rows.getD (min y (ln - 1)) []) = some z ∧ decide (z < 0) = decide (K (min y (ln - 1)) < K (min x (ln - 1))) := by
    intro x y
    obtain ⟨lx, x1, _⟩ := rowRel x
    obtain ⟨ly, y1, _⟩ := rowRel y
    obtain ⟨bs, b1, b2⟩ := m2 _ _ x1
    obtain ⟨z, z1, z2⟩ := (ltRow_inv b2).2 _ _ y1
    rw [rowd _ _ (clt x) x1, rowd _ _ (clt y) y1]
    refine ⟨z, z1, ?_⟩
    have := (chkRows_inv hck).2 _ _ _ b1 (kget _ (clt x))
    exact (chkRow_inv this).2 _ _ _ z2 (kget _ (clt y))
  obtain ⟨cf, hcf⟩ : ∃ cf, cfE rec cmp h.nx rows ln = cf := ⟨_, rfl⟩
  have cfv : ∀ x y, cmpAV rec cmp h.nx (rows.getD (min x (ln - 1)) []) (rows.getD (min y (ln - 1)) []) = some (cf x y) := fun x y => by
    obtain ⟨z, z1, _⟩ := cfz x y
    rw [← hcf]; unfold cfE; rw [z1]; rfl
  have lto : ∀ x y, Go.Proofs.ltOf cf x y = decide (K (min y (ln - 1)) < K (min x (ln - 1))) := fun x y => by
    obtain ⟨z, z1, z2⟩ := cfz x y
    have := cfv x y
    rw [z1] at this
    cases this
    exact z2
  have hO : Go.Sort.SWO (Go.Proofs.ltOf cf) := by
    refine ⟨fun x => by rw [lto]; simp, fun x y z => ?_, fun x y z => ?_⟩
    · rw [lto, lto, lto]; simp only [decide_eq_true_eq]; omega
    · rw [lto, lto, lto]; simp only [decide_eq_false_iff_not]; omega
  have hcmp : ∀ W : World, ∀ x y : Nat, Calls P cmp (#[.agg (encE σ js ln x).toArray, .agg (encE σ js ln y).toArray] ++ #[]) W fun e w' => e = .returned (.int .i64 (cf x y)) ∧ ∃ q os', w' = Go.Sort.grow (W.drewN q) os' := by
    intro W x y
    have agg : ∀ x, RV ρ (.agg (len (rows.getD (min x (ln - 1)) [])) (rows.getD (min x (ln - 1)) [])) (.agg (encE σ js ln x).toArray) := by
      intro x
      obtain ⟨lx, x1, x2, x3⟩ := rowRel x
      rw [rowd _ _ (clt x) x1, len_eq]
      refine .agg lx _ (by simp [encl, x2]) (fun i v hv => enc1 x v (List.mem_of_getElem? (by simpa using hv))) fun i a v ha hv => ?_
      obtain ⟨v', v1, _, v3⟩ := x3 i a ha
      rw [List.getElem?_toArray] at hv
      rw [v1] at hv
      cases hv; exact v3
    have hz := cfv x y
    unfold cmpAV at hz
    have hcall := fun hn => (hrec cmp [.agg (len (rows.getD (min x (ln - 1)) [])) (rows.getD (min x (ln - 1)) []), .agg (len (rows.getD (min y (ln - 1)) [])) (rows.getD (min y (ln - 1)) [])] (.mk h.nx .e) hn ρ W
      #[.agg (encE σ js ln x).toArray, .agg (encE σ js ln y).toArray] (rel_bare r W) ⟨rfl, fun i a v ha hv => by
        match i with
        | 0 => cases ha; cases hv; exact agg x
        | 1 => cases ha; cases hv; exact agg y
        | i + 2 => simp at ha⟩).1 hcb
    rw [eg] at hcall
    show Calls P cmp (#[.agg (encE σ js ln x).toArray, .agg (encE σ js ln y).toArray] ++ #[]) W _
    rw [Array.append_empty]
    generalize rec cmp [.agg (len (rows.getD (min x (ln - 1)) [])) (rows.getD (min x (ln - 1)) []), .agg (len (rows.getD (min y (ln - 1)) [])) (rows.getD (min y (ln - 1)) [])] (.mk h.nx .e) = res at hz hcall
    have fin : ∀ (v : AV) (h' : AH) (z : Int), res = .ret v h' → cf x y = z → (∀ ρ' V, RV ρ' v V → V = .int .i64 z) → Calls P cmp #[.agg (encE σ js ln x).toArray, .agg (encE σ js ln y).toArray] W fun e w' => e = .returned (.int .i64 (cf x y)) ∧ ∃ q os', w' = Go.Sort.grow (W.drewN q) os' := by
      intro v h' z hres hcfz hv
      have := hcall (by rw [hres]; intro n hh; cases hh)
      refine Calls.mono this ?_
      intro e w' hp
      cases e with
      | returned Y =>
        obtain ⟨v', h'', ρ', e1, st, rv⟩ := hp
        rw [hres] at e1
        cases e1
        rw [hv ρ' Y rv, hcfz]
        exact ⟨rfl, stp_bare st⟩
      | panicked chain =>
        obtain ⟨v', h'', ρ', y', e1, _⟩ := hp
        rw [hres] at e1; cases e1
      | outgrown => exact hp.elim
    split at hz
    · rename_i n h'
      exact fin (.nat n) h' _ rfl (Option.some.inj hz).symm fun ρ' V hV => by cases hV; rfl
    · rename_i n h'
      exact fin (.neg n) h' _ rfl (Option.some.inj hz).symm fun ρ' V hV => by cases hV; rfl
    · cases hz
  -- the row as it lies
  obtain ⟨dl, d1, d2⟩ := exList (Q := fun i a => a < ln ∧ ∃ g lg m, gs[i]? = some g ∧ ρ g = some lg ∧ σ[a]? = some m ∧ seen[i]? = some m.born ∧ lg.vals = cellsE m) ln (by
    intro i hi'
    have hg := List.getElem?_eq_getElem (show i < gs.length by omega)
    obtain ⟨lg, m, a1, a2, a3, a4⟩ := hi.grp i _ hg
    obtain ⟨a, ha⟩ := List.mem_iff_getElem?.1 (s1.mem_iff.2 a2)
    exact ⟨a, by rw [← s2]; exact (List.getElem?_eq_some_iff.1 ha).1, _, lg, m, hg, a1, ha, a3, a4⟩)
  have dnod : dl.Nodup := by
    rw [List.nodup_iff_pairwise_ne, List.pairwise_iff_getElem]
    intro i j hi' hj' hij heq
    obtain ⟨_, _, _, m1, _, _, a3, a4, _⟩ := d2 i _ (List.getElem?_eq_getElem hi')
    obtain ⟨_, _, _, m2, _, _, b3, b4, _⟩ := d2 j _ (List.getElem?_eq_getElem hj')
    rw [heq, b3] at a3
    cases a3
    obtain ⟨h1, h2⟩ := Array.getElem?_eq_some_iff.1 a4
    obtain ⟨h3, h4⟩ := Array.getElem?_eq_some_iff.1 b4
    have hp := List.pairwise_iff_getElem.1 (List.nodup_iff_pairwise_ne.1 hi.nodup) i j (by simpa using h1) (by simpa using h3) hij
    exact hp (by rw [Array.getElem_toList, Array.getElem_toList, h2, h4])
  have dlt : ∀ x ∈ dl, x < ln := fun x hx => by
    obtain ⟨i, hi'⟩ := List.mem_iff_getElem?.1 hx
    exact (d2 i x hi').1
  have hds : dl.toArray.size = ln := by simp [d1]
  have lsz : l.sz = sz := hsz
  have hH : Go.Sort.HoldsK (encE σ js ln) sz w l.cb (l.sh + e * l.sz) dl.toArray := by
    intro tt htt
    rw [Go.Sort.size_flatK, hds] at htt
    have hi' : tt / sz < ln := Nat.div_lt_of_lt_mul (by rw [Nat.mul_comm]; exact htt)
    have hcc : tt % sz < sz := Nat.mod_lt _ hjp
    have hdi := List.getElem?_eq_getElem (show tt / sz < dl.length by omega)
    obtain ⟨a1, g, lg, m, a2, a3, a4, a5, a6⟩ := d2 _ _ hdi
    have hjc := List.getElem?_eq_getElem (show tt % sz < js.length by omega)
    obtain ⟨y, y1, y2, y3⟩ := sym _ g _ _ a2 hjc
    have hy : (cellsE m)[js[tt % sz]'(by omega)]? = some y := by
      cases y3 with
      | sym _ _ _ _ _ l' hb' _ hj' _ =>
        rw [a3] at hb'
        cases hb'
        rw [← a6]; exact hj'
    have henc := encg _ m _ _ y a1 a4 hjc hy
    have hoff : l.sh + e * l.sz + tt = l.sh + (e + tt / sz) * sz + tt % sz := by
      rw [lsz, Nat.add_mul]
      have := Nat.div_add_mod tt sz
      rw [Nat.mul_comm] at this
      omega
    rw [hoff]
    refine ⟨?_, by simp [World.frozen?, hw]⟩
    rw [cell_of hw y1, Go.Sort.get_flatK _ _ _ _ (by rw [hds]; exact htt)]
    have e1 : dl.toArray[tt / sz]! = dl[tt / sz]'(by omega) := by
      rw [getElem!_pos _ _ (by rw [hds]; exact hi')]; simp
    rw [e1]
    have e2 : (encE σ js ln (dl[tt / sz]'(by omega)))[tt % sz]! = y := by
      rw [List.getElem!_eq_getElem?_getD, henc]; rfl
    simp [e2]
  have hblk : l.cb < w.heap.size := (Array.getElem?_eq_some_iff.1 hw).1
  have main := Go.Proofs.AnyQ.slices_SortFunc L sz aE zE (encE σ js ln) encl enc1 cf hO cmp #[] l.cb (l.sh + e * l.sz) cap dl.toArray w eg (fun mm os dk _ x y => hcmp _ x y) hH hblk (by rw [hds]; omega)
  rw [hds] at main
  refine Calls.mono main ?_
  rintro e' w' ⟨rfl, d', n', os', hperm, hsort, rfl⟩
  obtain ⟨p1, p2, p3⟩ := hperm
  rw [hds] at p1
  have hd' : d'.toList = o := by
    have hpm : d'.toList.Perm dl := by
      have q1 : d'.extract 0 ln = d' := by rw [← p1]; exact Array.extract_size
      have q2 : dl.toArray.extract 0 ln = dl.toArray := by
        have h9 : dl.toArray.extract 0 dl.toArray.size = dl.toArray := Array.extract_size
        rwa [hds] at h9
      rw [q1, q2] at p3
      simpa using p3
    refine (sorted_is hkl ho dnod d1 dlt hpm ?_).1
    rw [List.pairwise_iff_getElem]
    intro i j hi' hj' hij
    rw [Array.length_toList, p1] at hi' hj'
    have := hsort i j (Nat.zero_le _) hij hj'
    rw [lto] at this
    rw [getElem!_pos d' j (by omega), getElem!_pos d' i (by omega)] at this
    have b1 : d'[i]'(by omega) < ln := dlt _ (hpm.mem_iff.1 (by simp))
    have b2 : d'[j]'(by omega) < ln := dlt _ (hpm.mem_iff.1 (by simp))
    rw [show min (d'[i]'(by omega)) (ln - 1) = d'[i]'(by omega) by omega, show min (d'[j]'(by omega)) (ln - 1) = d'[j]'(by omega) by omega] at this
    simp only [decide_eq_false_iff_not, Nat.not_lt] at this
    rw [hK] at this
    simpa using this
  obtain ⟨o1, o2⟩ := ordN_inv ho
  have olt : ∀ x ∈ o, x < ln := fun x hx => by
    obtain ⟨p, hp⟩ := List.mem_iff_getElem?.1 hx
    have hpl : p < ln := by rw [← o1]; exact (List.getElem?_eq_some_iff.1 hp).1
    obtain ⟨i, i1, i2⟩ := o2 p hpl
    rw [hp] at i1
    cases i1
    rw [← hkl]; exact (List.getElem?_eq_some_iff.1 i2).1
  -- the world behind
  obtain ⟨W1, hW1⟩ : ∃ W1, Go.Sort.putRowK (encE σ js ln) sz (Go.Sort.ahead w n') l.cb (l.sh + e * l.sz) d' = W1 := ⟨_, rfl⟩
  have hsw : Go.Proofs.sortWorldK (encE σ js ln) sz w l.cb (l.sh + e * l.sz) n' d' os' = Go.Sort.grow W1 os' := by rw [← hW1]; rfl
  rw [hsw]
  have hW1h : W1.heap = w.heap.modify l.cb (Go.Sort.onCells (Go.Sort.putCells id (l.sh + e * l.sz) (Go.Sort.flatK (encE σ js ln) sz d'))) := by rw [← hW1]; rfl
  have hat : W1.heap[l.cb]? = some (.cells (Go.Sort.putCells id (l.sh + e * l.sz) (Go.Sort.flatK (encE σ js ln) sz d') c) el (0, 0)) := by
    rw [hW1h, Array.getElem?_modify, if_pos rfl, hw]; rfl
  have hother : ∀ k, k ≠ l.cb → W1.heap[k]? = w.heap[k]? := fun k hk => by
    rw [hW1h, Array.getElem?_modify, if_neg (Ne.symm hk)]
  have cget : ∀ (i : Nat), (Go.Sort.putCells id (l.sh + e * l.sz) (Go.Sort.flatK (encE σ js ln) sz d') c)[i]? = (c[i]?).map fun x => if l.sh + e * l.sz ≤ i ∧ i < l.sh + e * l.sz + ln * sz then (Go.Sort.flatK (encE σ js ln) sz d')[i - (l.sh + e * l.sz)]! else x := by
    intro i
    unfold Go.Sort.putCells
    rw [Array.getElem?_mapIdx, Go.Sort.size_flatK, p1]
    rfl
  have hrl2 : (rowsAt rows o).length = ln := by rw [rowsAt_len, o1]
  have hrel : ObjRel ρ W1 l (.dat sz n (putChunks (rowsAt rows o) e t)) := by
    refine .dat sz n _ _ el (0, 0) hat hsz ?_ rfl hin hnn ?_
    · rw [← hlim]; unfold Go.Sort.putCells; simp
    · intro e' ls hg
      rw [getN_putChunks _ _ _ _ (by rw [hrl2]; omega), hrl2] at hg
      by_cases hr : e ≤ e' ∧ e' < e + ln
      · rw [if_pos hr, rowsAt_get] at hg
        have hp : e' - e < ln := by omega
        have hop := List.getElem?_eq_getElem (show e' - e < o.length by omega)
        rw [hop] at hg
        simp only [Option.map_some, Option.some.injEq] at hg
        have halt : o[e' - e]'(by omega) < ln := olt _ (by simp)
        obtain ⟨m, m1, ls', l1, l2, l3⟩ := row _ halt
        rw [rowd _ _ halt l1] at hg
        subst hg
        refine ⟨by omega, l2, fun cc x hx => ?_⟩
        obtain ⟨j, y, y1, y2, y3, y4⟩ := l3 cc x hx
        have hcc : cc < sz := by rw [← l2]; exact (List.getElem?_eq_some_iff.1 hx).1
        refine ⟨y, ?_, y3, y4⟩
        rw [cget]
        have hpos : l.sh + e' * sz + cc = l.sh + e * l.sz + ((e' - e) * sz + cc) := by
          rw [lsz]
          have : e' * sz = e * sz + (e' - e) * sz := by rw [← Nat.add_mul]; congr 1; omega
          omega
        have hlt : (e' - e) * sz + cc < ln * sz := row_lt hp hcc
        have hcin : l.sh + e' * sz + cc < c.size := by
          have h1 : e' * sz + cc < n * sz := row_lt (by omega) hcc
          omega
        rw [Array.getElem?_eq_getElem hcin, Option.map_some, if_pos ⟨by omega, by omega⟩, hpos, Nat.add_sub_cancel_left, Go.Sort.get_flatK _ _ _ _ (by rw [p1]; exact hlt)]
        have q1 : ((e' - e) * sz + cc) / sz = e' - e := by
          rw [Nat.add_comm, Nat.add_mul_div_right _ _ hjp, Nat.div_eq_of_lt hcc, Nat.zero_add]
        have q2 : ((e' - e) * sz + cc) % sz = cc := by
          rw [Nat.add_comm, Nat.add_mul_mod_self_right, Nat.mod_eq_of_lt hcc]
        rw [q1, q2]
        have q3 : d'[e' - e]! = o[e' - e]'(by omega) := by
          rw [getElem!_pos d' _ (by omega)]
          have : d'.toList[e' - e]? = o[e' - e]? := by rw [hd']
          rw [hop, Array.getElem?_toList, Array.getElem?_eq_getElem (by omega)] at this
          exact Option.some.inj this
        rw [q3, List.getElem!_eq_getElem?_getD, encg _ m cc j y halt m1 y1 y2]
        rfl
      · rw [if_neg hr] at hg
        obtain ⟨a1, a2, a3⟩ := hc e' ls hg
        refine ⟨a1, a2, fun cc x hx => ?_⟩
        obtain ⟨y, y1, y2, y3⟩ := a3 cc x hx
        have hcc : cc < sz := by rw [← a2]; exact (List.getElem?_eq_some_iff.1 hx).1
        refine ⟨y, ?_, y2, y3⟩
        rw [cget, y1, Option.map_some, if_neg]
        rw [lsz]
        rintro ⟨b1, b2⟩
        rcases Nat.lt_or_ge e' e with hlt | hge
        · have : e' * sz + cc < e * sz := row_lt hlt hcc
          omega
        · have h2 : e + ln ≤ e' := by omega
          have h3 : (e + ln) * sz ≤ e' * sz := Nat.mul_le_mul_right _ h2
          rw [Nat.add_mul] at h3
          omega
  have st1 := stp_put r hob hb (.dat sz n (putChunks (rowsAt rows o) e t)) W1 (by rw [← hW1]; rfl) (by rw [← hW1]; rfl) (by rw [← hW1]; rfl) (by rw [hW1h]; simp) hother hrel (by rw [← hW1]; exact Nat.le_add_right _ _)
  exact ⟨_, _, ρ, rfl, st1.trans (stp_grow st1.rel os'), .tup [] #[] rfl fun i x y hx _ => by simp at hx⟩

/-- slices.SortFunc of structs, as the evaluator answers it -/
theorem sort_ok {ren : Go.Shelf.Ren} (L : Go.Proofs.SlLaysF0.n6 P ren) {sz : Nat} {cmp : FuncId} (aE : ∀ w, (isAgg (ren.t 24)).run P w = .ok true w) (zE : ∀ w, (Go.sizeOf (ren.t 24)).run P w = .ok sz w)
    (ef : ∀ args w, (callFunc (ren.f 6) args).run P w = .ok (.enter (ren.f 6) args) w) (eg : ∀ args w, (callFunc cmp args).run P w = .ok (.enter cmp args) w) (hcb : cmp ≠ baseY) : PrimOk P (ren.f 6) (pSort sz cmp) := by
  intro rec hrec args h hn ρ w vs r ha
  rw [ef]
  show Calls P (ren.f 6) vs w _
  unfold pSort at hn ⊢
  split at hn
  case h_2 => exact absurd rfl (hn 177)
  rename_i b e ln cap ex z g
  split at hn
  case h_2 => exact absurd rfl (hn 176)
  rename_i sz' n t hob
  obtain ⟨h1, h2⟩ := ifC_inv hn
  rw [h2] at hn
  first | rw [h2] | simp only [hob, h2]
  simp only [Bool.and_eq_true, beq_iff] at h1
  obtain ⟨⟨rfl, rfl⟩, rfl⟩ := h1
  split at hn
  case h_2 => exact absurd rfl (hn 175)
  rename_i chunks hch
  try simp only [hch]
  unfold pSort2 at hn ⊢
  split at hn
  case h_2 => exact absurd rfl (hn 174)
  rename_i q p j r0 rest
  split at hn
  case h_2 => exact absurd rfl (hn 173)
  rename_i m es gs hoq
  obtain ⟨h3, h4⟩ := ifC_inv hn
  rw [h4] at hn
  first | rw [h4] | simp only [hoq, h4]
  simp only [Bool.and_eq_true, beq_iff, ble_iff] at h3
  obtain ⟨k1, ⟨k2, k3⟩, k4, k5⟩ := h3
  split at hn
  case h_2 => exact absurd rfl (hn 172)
  rename_i M hM
  try simp only [hM]
  obtain ⟨o, o1, o2, o3⟩ := pSort3_inv hn
  rw [o3]
  -- the arguments
  have hl0 := ha.len
  obtain ⟨V0, V1, rfl⟩ : ∃ V0 V1, vs = #[V0, V1] := by
    have : vs.toList.length = 2 := by rw [Array.length_toList]; exact hl0.symm
    match hvl : vs.toList with
    | [a, b] => exact ⟨a, b, Array.ext' hvl⟩
    | [] => rw [hvl] at this; simp at this
    | [_] => rw [hvl] at this; simp at this
    | _ :: _ :: _ :: _ => rw [hvl] at this; simp at this
  have v0 := ha.rel 0 _ V0 rfl rfl
  have v1 := ha.rel 1 _ V1 rfl rfl
  cases v0 with
  | slice _ _ _ _ _ _ l hb hsz kb off cap' g1 g2 g3 g4 g5 g6 =>
  cases v1 with
  | fn _ _ _ a' c' fa fc _ _ =>
  have ha0 : a' = #[] := Array.eq_empty_of_size_eq_zero fa.symm
  have hc0 : c' = #[] := Array.eq_empty_of_size_eq_zero fc.symm
  subst ha0 hc0
  obtain ⟨c1, _⟩ := rdChunks_inv hch
  have hln : 0 < ln := by rw [← c1]; simp
  obtain ⟨rfl, rfl⟩ := g4 (by omega)
  rw [len_eq] at k2
  exact sort_row L aE zE eg hcb hrec r hob hb k3 hln k5 cap' hch hoq k1 (by rw [← k2]; simp) (by rw [← k2]; simp) k4 hM o1 o2
/-- one element at most: its own code -/
noncomputable def pSortOr (c : CFn) (codeD : FuncId → Option (Nat × Nat × Nat × CCode)) (sz : Nat) (cmp : FuncId) (rec : Rec) (args : List AV) (h : AH) : CR :=
  match args with
  | [.slice b e ln cap ex z, g] => cond (Nat.ble ln 1) (c.run codeD rec [.slice b e ln cap ex z, g] h) (pSort sz cmp rec [.slice b e ln cap ex z, g] h)
  | args => c.run codeD rec args h
theorem sort_or_ok {hint : FuncId → List Nat} {od : FuncId → Nat → Option (List Nat)} {codeD : FuncId → Option (Nat × Nat × Nat × CCode)} {f : FuncId} {c : CFn} (hc : cFn P hint od f = some c) (hk : fnChk P (hint f) (od f) f = true) (hD : ∀ f x, codeD f = some x → cFnD P hint od f = some x ∧ fnChk P (hint f) (od f) f = true)
    (hRg : ∀ f fn c, P.funcs[f]? = some fn → fn.body = some c → RangesOk P (hint f) (od f) fn.ntmps c) (hm : P.follows .mixedOrders = true) {sz : Nat} {cmp : FuncId} (hs : PrimOk P f (pSort sz cmp)) : PrimOk P f (pSortOr c codeD sz cmp) := by
  intro rec hrec args h hn ρ w vs r ha
  unfold pSortOr at hn ⊢
  split at hn
  · rename_i b e ln cap ex z g
    cases hl : Nat.ble ln 1 with
    | true =>
      rw [hl] at hn
      simp only [hl, cond_true] at hn ⊢
      exact fun_ok hc hk hD hRg hrec hm r ha hn
    | false =>
      rw [hl] at hn
      simp only [hl, cond_false] at hn ⊢
      exact hs rec hrec _ h hn ρ w vs r ha
  · exact fun_ok hc hk hD hRg hrec hm r ha hn
end
end Go.Ev
