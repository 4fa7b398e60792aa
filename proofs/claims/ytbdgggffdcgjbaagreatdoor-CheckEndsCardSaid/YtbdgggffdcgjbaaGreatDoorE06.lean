/- A part of the proof that CheckEnds returns true at every number: EvAlloc EvDraw1 EvDraw2 EvDraw3 EvDraw4. Conditions: none. -/
import Derived.Test.YtbdgggffdcgjbaaGreatDoorE05
import Derived.Orders
set_option linter.all false
set_option linter.unusedVariables false
set_option linter.unusedSectionVars false
set_option linter.unusedSimpArgs false
namespace Go.Ev
set_option autoImplicit false
variable [Rounds]
open Go

section
variable {P : Program} {ρ : Emb} {h : AH} {w : World} {k : K} {vars stk : List AV} {L : List Nat} {N : Nat}
theorem alloc_abs {c : COp} (ha : allocC c = true) {rec : Rec} (hn : NF (runOp c rec k vars stk h)) : ∃ v ob, ∀ (rec' : Rec) (k' : K), runOp c rec' k' vars stk h = k' v vars stk (h.new ob) := by
  cases c <;> first | (cases ha; done) | skip
  case boxO x =>
    change NF (boxO x k vars stk h) at hn
    unfold boxO at hn
    obtain ⟨c1, _⟩ := ifR_inv hn
    exact ⟨_, _, fun rec' k' => by show boxO x k' vars stk h = _; unfold boxO; rw [c1]; rfl⟩
  case boxA n x =>
    change NF (boxA n x k vars stk h) at hn
    unfold boxA at hn
    obtain ⟨m, l, hv⟩ := onAgg_inv hn
    rw [hv] at hn
    obtain ⟨c1, _⟩ := ifR_inv (show NF (ifR (Nat.beq m n) _) from hn)
    refine ⟨.ptr h.nx 0 0, dat1 n l, fun rec' k' => ?_⟩
    show boxA n x k' vars stk h = _
    unfold boxA
    rw [hv]
    show ifR (Nat.beq m n) _ = _
    rw [c1]; rfl
  case buildSlice sz n ps =>
    change NF (buildSliceC sz n ps k vars stk h) at hn
    unfold buildSliceC at hn
    obtain ⟨c1, _⟩ := ifR_inv hn
    exact ⟨_, _, fun rec' k' => by show buildSliceC sz n ps k' vars stk h = _; unfold buildSliceC; rw [c1]; rfl⟩
  case makeMap => exact ⟨_, _, fun rec' k' => rfl⟩
  case makeSlice sz z l c =>
    change NF (makeSliceC sz z l c k vars stk h) at hn
    unfold makeSliceC at hn
    obtain ⟨m, hm⟩ := onNat_inv hn
    rw [hm] at hn
    obtain ⟨n, hl⟩ := onNat_inv (show NF (onNat (l.ev vars stk) (makeSlice2 sz z m) k vars stk h) from hn)
    change NF (onNat (l.ev vars stk) (makeSlice2 sz z m) k vars stk h) at hn
    rw [hl] at hn
    obtain ⟨c1, _⟩ := ifR_inv (show NF (ifR (and (Nat.ble n m) (Nat.ble m 100000)) _) from hn)
    refine ⟨.slice h.nx 0 n m true sz, .dat sz m (zeroChunks z m 0 .e), fun rec' k' => ?_⟩
    show makeSliceC sz z l c k' vars stk h = _
    unfold makeSliceC
    rw [hm]
    show onNat (l.ev vars stk) (makeSlice2 sz z m) k' vars stk h = _
    rw [hl]
    show ifR (and (Nat.ble n m) (Nat.ble m 100000)) _ = _
    rw [c1]; rfl
def AllocN (ρ : Emb) (h : AH) (w : World) (k : K) (vars stk : List AV) (r : R) (run : Result Next) : Prop :=
  ∃ o v co l y, r = k v vars stk (h.new o) ∧ run = .ok (.value y) (w.alloc co) ∧ l.cb = w.heap.size ∧ ∀ ρ' : Emb, ρ.le ρ' → ρ' h.nx = some l → ObjRel ρ' (w.alloc co) l o ∧ RV ρ' v y
theorem next_a {r : R} {s : Sem Value} (a : AllocR ρ h w k vars stk r (s.run P w)) : AllocN ρ h w k vars stk r ((do pure (.value (← s)) : Sem Next).run P w) := by
  obtain ⟨o, v, co, l, y, h1, h2, h3, h4⟩ := a
  exact ⟨o, v, co, l, y, h1, by simp only [Sem.run_bind, h2, Result.andThen_ok, Sem.run_pure], h3, h4⟩
theorem cOp_alloc (L : List Nat) (e : SEnv) (o : Oper) (ev : Operand → Value) (hev : EvOk P L e ρ vars stk ev o.op) {c : COp} (hc : cOp P L e o.op = c) (ha : allocC c = true) {rec : Rec}
    (hn : NF (runOp c rec k vars stk h)) : AllocN ρ h w k vars stk (runOp c rec k vars stk h) ((execOp ev o).run P w) := by
  obtain ⟨dst, op, type, pos, after, guard⟩ := o
  unfold EvOk at hev
  cases op <;> simp only [cOp, cBin, cTuple] at hc
  case alloc t =>
    split at hc <;> first | (subst hc; cases ha; done) | skip
    · rename_i z n hz hk
      subst hc
      obtain ⟨i, Z, hi, hZ, _, hzr⟩ := zero_cells (ρ := ρ) hz
      exact next_a (boxA_al (x := .cst z) hzr hn t (run_alloc hi hZ _))
    · rename_i z hz hk
      subst hc
      obtain ⟨i, Z, hi, hZ, _, hzr⟩ := zero_cells (ρ := ρ) hz
      exact next_a (boxO_al (x := .cst z) hzr hn t (run_alloc hi hZ _))
  case box t x =>
    have hx := hev x (by simp [Op.operands])
    split at hc <;> first | (subst hc; cases ha; done) | skip
    · subst hc; exact next_a (boxA_al hx hn t (run_box t _))
    · subst hc; exact next_a (boxO_al hx hn t (run_box t _))
  case buildSlice t n ps =>
    have hg := grel_of (ρ := ρ) (vars := vars) (stk := stk) (L := L) (e := e) (ev := ev) ps.toList (fun p hp => hev p.2 (by simp only [Op.operands]; exact List.mem_toArray.2 (List.mem_map.2 ⟨p, hp, rfl⟩)))
    have hg' : GRel ρ vars stk (ps.toList.map fun p => (p.1, res L e p.2)) (ps.map fun p => (p.1, ev p.2)).toList := by rw [Array.toList_map]; exact hg
    split at hc <;> first | (subst hc; cases ha; done) | skip
    rename_i el hel
    split at hc <;> first | (subst hc; cases ha; done) | skip
    rename_i z i hz hi
    split at hc <;> first | (subst hc; cases ha; done) | skip
    rename_i hk
    subst hc
    exact next_a (buildSlice_al (elemT_inv hel) hz hi hg' hk hn)
  case makeMap t rs =>
    cases rs with
    | none => subst hc; exact next_a (makeMap_al t)
    | some x => subst hc; cases ha
  case makeSlice t l c =>
    have hl := hev l (by simp [Op.operands])
    have hcc := hev c (by simp [Op.operands])
    split at hc <;> first | (subst hc; cases ha; done) | skip
    rename_i el hel
    split at hc <;> first | (subst hc; cases ha; done) | skip
    rename_i z i hz hi
    split at hc <;> first | (subst hc; cases ha; done) | skip
    rename_i hk
    subst hc
    exact next_a (makeSlice_al hl hcc (elemT_inv hel) hz hi hk.1 hk.2 hn)
  case next it s => cases s <;> simp only [cond_true, cond_false] at hc <;> (subst hc; cases ha)
  case call cl =>
    split at hc
    · rename_i f hf
      rcases mkCallS_or f (cl.args.toList.map (res L e)) with h1 | ⟨_, h1⟩ <;> (rw [h1] at hc; subst hc; cases ha)
    · subst hc; cases ha
    · subst hc; cases ha
    · split at hc
      · rename_i b hb _
        generalize cl.args.toList.map (res L e) = args at hc
        match args with
        | [] => cases b <;> simp only [cBuiltin] at hc <;> (subst hc; cases ha)
        | [x] =>
          cases b <;> simp only [cBuiltin] at hc
          all_goals (repeat' split at hc)
          all_goals (subst hc; cases ha)
        | [x, y] =>
          cases b <;> simp only [cBuiltin] at hc
          all_goals (repeat' split at hc)
          all_goals (subst hc; cases ha)
        | x :: y :: z :: l => cases b <;> simp only [cBuiltin] at hc <;> (subst hc; cases ha)
      · subst hc; cases ha
  all_goals (repeat' split at hc)
  all_goals (subst hc; cases ha)
theorem float_plain {c : COp} (h : floatC c = true) : plainC c = true := by cases c <;> first | rfl | cases h

/-! the static check -/
def predsOf (ops : Array Oper) (i : Nat) : List Nat := match ops[i]? with
  | some o => (o.after.toList.filter (Region.binds .any ·)).map (·.on)
  | none => []
def dstIs (ops : Array Oper) (j t : Nat) : Bool := match ops[j]? with
  | some o => match o.dst with
    | some u => Nat.beq u t
    | none => false
  | none => false
def readsIt (ops : Array Oper) (j t : Nat) : Bool := match ops[j]? with
  | some o => (o.looksAt ops).any (Nat.beq t)
  | none => false
def varDst (L : List Nat) (ops : Array Oper) (j : Nat) : Bool := match ops[j]? with
  | some o => match o.dst with
    | some u => (idxOf u L 0).isSome
    | none => false
  | none => false
def memL (l : List Nat) (i : Nat) : Bool := l.any (Nat.beq i)
def regGo (L : List Nat) (ops : Array Oper) (an : Array Nat) : List Nat → List Nat → Bool
  | _, [] => true
  | pre, i :: post => match ops[i]? with
    | none => false
    | some o =>
      and ((predsOf ops i).all (memL pre)) <|
      and (or (isFloat o.op) (post.all fun j => (predsOf ops j).any fun p => not (memL pre p))) <|
      and (match o.dst with
        | none => true
        | some t => cond (isFloat o.op) (and (not (readsIt ops i t)) (pre.all fun j => and (not (dstIs ops j t)) (not (readsIt ops j t))))
            (pre.all fun j => or ((an.getD i 0).testBit j) (and (not (dstIs ops j t)) (not (readsIt ops j t))))) <|
      and ((o.looksAt ops).all fun t => pre.all fun j => or (not (dstIs ops j t)) ((an.getD i 0).testBit j)) <|
      and (or (isFloat o.op) (or (idxOf slotD L 0).isNone (pre.all fun j => or ((an.getD i 0).testBit j) (not (varDst L ops j))))) <|
      regGo L ops an (i :: pre) post
def nodupL : List Nat → Bool
  | [] => true
  | i :: l => and (not (memL l i)) (nodupL l)
def regOk (L : List Nat) (ops : Array Oper) (order : List Nat) : Bool :=
  and (Nat.beq order.length ops.size) <| and (nodupL order) <| and ((List.range ops.size).all (memL order)) (regGo L ops (Region.before ops) [] order)
theorem memL_iff {l : List Nat} {i : Nat} : memL l i = true ↔ i ∈ l := by
  unfold memL
  rw [List.any_eq_true]
  constructor
  · rintro ⟨x, h1, h2⟩; rw [beq_iff.1 h2]; exact h1
  · intro h; exact ⟨i, h, Nat.beq_refl i⟩
theorem nodupL_iff : ∀ {l : List Nat}, nodupL l = true → l.Nodup
  | [], _ => List.nodup_nil
  | i :: l, h => by
    have a := Bool.and_eq_true_iff.1 h
    rw [List.nodup_cons]
    refine ⟨fun hm => ?_, nodupL_iff a.2⟩
    rw [memL_iff.2 hm] at a; exact absurd a.1 (by simp)

/-- what stands ahead: a set that is closed has it -/
def Closed (ops : Array Oper) (D : Nat → Prop) : Prop := ∀ i o, ops[i]? = some o → D i → ∀ e ∈ o.after, Region.binds .any e = true → D e.on
theorem before_ok (ops : Array Oper) (D : Nat → Prop) (hD : Closed ops D) {i j : Nat} (hb : ((Region.before ops).getD i 0).testBit j = true) (hi : D i) : D j := by
  have key : ∀ (os : List Oper) (acc : Array Nat), (∀ (k : Nat) (o : Oper), os[k]? = some o → ops[acc.size + k]? = some o) → (∀ (i m : Nat), acc[i]? = some m → ∀ j, m.testBit j = true → D i → D j) →
      ∀ (i m : Nat), (os.foldl (fun acc o => acc.push (o.after.foldl (fun s e => if Region.binds .any e then s ||| 2 ^ e.on ||| acc.getD e.on 0 else s) 0)) acc)[i]? = some m → ∀ j, m.testBit j = true → D i → D j := by
    intro os
    induction os with
    | nil => intro acc _ hg; exact hg
    | cons o os ih =>
      intro acc hos hg
      rw [List.foldl_cons]
      refine ih _ (fun k o' hk => ?_) ?_
      · have := hos (k + 1) o' (by simpa using hk)
        rw [Array.size_push, show acc.size + 1 + k = acc.size + (k + 1) by omega]; exact this
      · intro i m hm j hj hi
        rw [Array.getElem?_push] at hm
        split at hm
        · rename_i hii
          subst hii
          have ho := hos 0 o rfl
          have in1 : ∀ (es : List Edge) (s : Nat), (∀ e ∈ es, e ∈ o.after) → (∀ j, s.testBit j = true → D j) → ∀ j, (es.foldl (fun s e => if Region.binds .any e then s ||| 2 ^ e.on ||| acc.getD e.on 0 else s) s).testBit j = true → D j := by
            intro es
            induction es with
            | nil => intro s _ hs; exact hs
            | cons e es ih2 =>
              intro s hes hs
              rw [List.foldl_cons]
              refine ih2 _ (fun e' he' => hes e' (List.mem_cons_of_mem _ he')) ?_
              intro j hj
              split at hj
              · rename_i hbd
                have hon : D e.on := hD acc.size o (by simpa using ho) hi e (hes e List.mem_cons_self) hbd
                rw [Nat.testBit_or, Nat.testBit_or, Bool.or_eq_true, Bool.or_eq_true] at hj
                rcases hj with (hj | hj) | hj
                · exact hs j hj
                · rw [Nat.testBit_two_pow] at hj
                  have : e.on = j := by simpa using hj
                  rw [← this]; exact hon
                · rw [Array.getD_eq_getD_getElem?] at hj
                  cases hq : acc[e.on]? with
                  | none => rw [hq] at hj; simp at hj
                  | some q => rw [hq] at hj; exact hg e.on q hq j hj hon
              · exact hs j hj
          cases hm
          rw [← Array.foldl_toList] at hj
          exact in1 o.after.toList 0 (fun e he => Array.mem_toList_iff.1 he) (fun j hj => by simp at hj) j hj
        · exact hg i m hm j hj hi
  have hfold : Region.before ops = ops.toList.foldl (fun acc o => acc.push (o.after.foldl (fun s e => if Region.binds .any e then s ||| 2 ^ e.on ||| acc.getD e.on 0 else s) 0)) #[] := by
    unfold Region.before
    rw [← Array.foldl_toList]
  rw [Array.getD_eq_getD_getElem?] at hb
  cases hq : (Region.before ops)[i]? with
  | none => rw [hq] at hb; simp at hb
  | some q =>
    rw [hq] at hb
    rw [hfold] at hq
    exact key ops.toList #[] (fun k o hk => by rw [← Array.getElem?_toList]; simpa using hk) (fun i m hm => by simp at hm) i q hq j hb hi
end
end Go.Ev
namespace Go.Ev
set_option autoImplicit false
variable [Rounds]
open Go

/-- an operation that the evaluator has carried out, and the model's run has not yet -/
structure Ms where
  j : Nat
  o : Oper
  val : AV
  snap : Nat → AV
  pos : Option Pos

section
variable {P : Program} {ρ : Emb} {h : AH} {w : World} {k : K} {vars stk : List AV} {L : List Nat} {N : Nat} {ops : Array Oper}
theorem all2_eq {f : AV → AV → Bool} (hf : ∀ a b, f a b = true → a = b) : ∀ {x y : List AV}, all2 f x y = true → x = y
  | [], [], _ => rfl
  | a :: x, b :: y, h => by
    have := Bool.and_eq_true_iff.1 (show (f a b && all2 f x y) = true from h)
    rw [hf a b this.1, all2_eq hf this.2]
  | [], _ :: _, h => by cases h
  | _ :: _, [], h => by cases h
theorem posEq_eq {a b : Pos} (h : posEq a b = true) : a = b := by simpa [posEq] using h
theorem sameF_eq : ∀ (n : Nat) (a b : AV), sameF n a b = true → a = b := by
  intro n
  induction n with
  | zero => intro a b h; cases h
  | succ n ih =>
    intro a b h
    cases a <;> cases b <;> first | rfl | (change false = true at h; cases h; done) | skip
    case nat.nat n m => rw [show n = m from beq_iff.1 h]
    case neg.neg n m => rw [show n = m from beq_iff.1 h]
    case byte.byte n m => rw [show n = m from beq_iff.1 h]
    case int.int i n j m =>
      have := of_decide_eq_true (show decide (i = j ∧ n = m) = true from h)
      rw [this.1, this.2]
    case str.str n l m r =>
      have := Bool.and_eq_true_iff.1 (show (Nat.beq l r && Nat.beq n m) = true from h)
      rw [show l = r from beq_iff.1 this.1, show n = m from beq_iff.1 this.2]
    case ptr.ptr b e o b' e' o' =>
      have h1 := Bool.and_eq_true_iff.1 (show (posEq b b' && (Nat.beq e e' && Nat.beq o o')) = true from h)
      have h2 := Bool.and_eq_true_iff.1 h1.2
      rw [posEq_eq h1.1, show e = e' from beq_iff.1 h2.1, show o = o' from beq_iff.1 h2.2]
    case slice.slice b e l c x z b' e' l' c' x' z' =>
      have h1 := Bool.and_eq_true_iff.1 (show (posEq b b' && (Nat.beq e e' && (Nat.beq l l' && (Nat.beq c c' && (Nat.beq z z' && x == x'))))) = true from h)
      have h2 := Bool.and_eq_true_iff.1 h1.2
      have h3 := Bool.and_eq_true_iff.1 h2.2
      have h4 := Bool.and_eq_true_iff.1 h3.2
      have h5 := Bool.and_eq_true_iff.1 h4.2
      rw [posEq_eq h1.1, show e = e' from beq_iff.1 h2.1, show l = l' from beq_iff.1 h3.1, show c = c' from beq_iff.1 h4.1, show z = z' from beq_iff.1 h5.1, beq_iff_eq.1 h5.2]
    case map.map b b' => rw [posEq_eq (show posEq b b' = true from h)]
    case fn.fn f x y f' x' y' =>
      have h1 := Bool.and_eq_true_iff.1 (show (sameFn f f' && (all2 (sameF n) x x' && all2 (sameF n) y y')) = true from h)
      have h2 := Bool.and_eq_true_iff.1 h1.2
      have h3 : f = f' := by
        have := h1.1
        cases f <;> cases f' <;> first | (cases this; done) | skip
        rename_i a b
        rw [show a = b from beq_iff.1 this]
      rw [h3, all2_eq ih h2.1, all2_eq ih h2.2]
    case iface.iface t v t' v' =>
      have h1 := Bool.and_eq_true_iff.1 (show (Nat.beq t t' && sameF n v v') = true from h)
      rw [show t = t' from beq_iff.1 h1.1, ih _ _ h1.2]
    case agg.agg m l m' l' =>
      have h1 := Bool.and_eq_true_iff.1 (show (Nat.beq m m' && all2 (sameF n) l l') = true from h)
      rw [show m = m' from beq_iff.1 h1.1, all2_eq ih h1.2]
    case tup.tup l l' => rw [all2_eq ih (show all2 (sameF n) l l' = true from h)]

/-- what a guard's slot says -/
def GSays (ops : Array Oper) (o : Oper) (f : Nat → AV) (b : Bool) : Prop :=
  match o.guard with
  | none => b = true
  | some (g, want) => ∃ t, gslot ops g = some t ∧ ((b = true ∧ f t = @Bool.rec (fun _ => AV) .ff .tt want) ∨ (b = false ∧ (f t = @Bool.rec (fun _ => AV) .tt .ff want ∨ ∃ l, f t = .tup l)))
theorem guard_looks {o : Oper} {g : Nat} {want : Bool} {t : Nat} (hg : o.guard = some (g, want)) (ht : gslot ops g = some t) : t ∈ o.looksAt ops := by
  unfold Oper.looksAt
  rw [hg]
  refine List.mem_append.2 (.inr ?_)
  have : (ops[g]?).bind (·.dst) = some t := ht
  simp only [this]; simp
theorem operand_looks {o : Oper} {t : Nat} (h : Operand.tmp t ∈ o.op.operands) : t ∈ o.looksAt ops := by
  unfold Oper.looksAt
  refine List.mem_append.2 (.inl (List.mem_filterMap.2 ⟨.tmp t, Array.mem_toList_iff.2 h, rfl⟩))
theorem looks_lt (hall : ∀ (j : Nat) (o : Oper), ops[j]? = some o → opIn N o = true) {j : Nat} {o : Oper} (hj : ops[j]? = some o) {t : Nat} (ht : t ∈ o.looksAt ops) : t < N := by
  unfold Oper.looksAt at ht
  rcases List.mem_append.1 ht with h | h
  · obtain ⟨x, hx, he⟩ := List.mem_filterMap.1 h
    have := opIn_ops (hall j o hj) x (Array.mem_toList_iff.1 hx)
    cases x with
    | tmp s => cases he; exact blt_iff.1 this
    | _ => cases he
  · cases hg : o.guard with
    | none => rw [hg] at h; simp at h
    | some gw =>
      obtain ⟨g, want⟩ := gw
      rw [hg] at h
      simp only [Option.mem_toList] at h
      cases hog : ops[g]? with
      | none => rw [hog] at h; cases h
      | some og => rw [hog] at h; exact opIn_dst (hall g og hog) t h
theorem GSays.wanted {o : Oper} {f : Nat → AV} {b : Bool} (hg : GSays ops o f b) {a : Act} (hs : ∀ t ∈ o.looksAt ops, RV ρ (f t) (a.eval (.tmp t))) (hlt : ∀ t ∈ o.looksAt ops, t < a.tmps.size) :
    Region.wanted o (yielded ops a.tmps) = b := by
  unfold GSays at hg
  cases hgo : o.guard with
  | none =>
    rw [hgo] at hg
    unfold Region.wanted
    rw [hgo]; exact hg.symm
  | some gw =>
    obtain ⟨g, want⟩ := gw
    rw [hgo] at hg
    obtain ⟨t, ht, h1⟩ := hg
    have hm := guard_looks hgo ht
    obtain ⟨w1, w2⟩ := wanted_of (ops := ops) (o := o) hgo ht (hlt t hm) (hs t hm)
    rcases h1 with ⟨rfl, h2⟩ | ⟨rfl, h2⟩
    · exact w1 h2
    · exact w2 h2

/-- why the value of a waiting operation will be right -/
inductive Fact (P : Program) (L : List Nat) (ops : Array Oper) (H : AH) (o : Oper) (snap : Nat → AV) : AV → Option Pos → Prop
  | skip (hg : GSays ops o snap false) : Fact P L ops H o snap (.tup []) none
  | run (hg : GSays ops o snap true) (e : SEnv) (vars stk : List AV) (v : AV) (hs : ∀ t ∈ o.looksAt ops, sig L e vars stk t = snap t ∨ sig L e vars stk t = .undef) (hf : floatC (cOp P L e o.op) = true)
      (hr : ∀ (rec : Rec) (k : K), runOp (cOp P L e o.op) rec k vars stk H = k v vars stk H) : Fact P L ops H o snap v none
  | alloc (hg : GSays ops o snap true) (e : SEnv) (vars stk : List AV) (v : AV) (h1 : AH) (ob : Obj) (hs : ∀ t ∈ o.looksAt ops, sig L e vars stk t = snap t ∨ sig L e vars stk t = .undef) (ha : allocC (cOp P L e o.op) = true)
      (hr : ∀ (rec : Rec) (k : K), runOp (cOp P L e o.op) rec k vars stk h1 = k v vars stk (h1.new ob)) (hobj : H.obj h1.nx = some ob) : Fact P L ops H o snap v (some h1.nx)
def LateR (p : Option Pos) (ρ : Emb) (H : AH) (w : World) (ρ' : Emb) (w' : World) : Prop :=
  match p with
  | none => Stp ρ H w ρ' H w'
  | some q => ∃ l co ob, ρ' = ρ.set q l ∧ w' = w.alloc co ∧ l.cb = w.heap.size ∧ H.obj q = some ob ∧ ObjRel ρ' w' l ob

theorem obj_new_inj {h : AH} {o o' : Obj} (e : h.new o = h.new o') : o = o' := by
  have h1 : (h.new o).obj h.nx = some o := by rw [AH.obj_new, if_pos rfl]
  have h2 : (h.new o').obj h.nx = some o' := by rw [AH.obj_new, if_pos rfl]
  rw [e, h2] at h1; cases h1; rfl
/-- the continuation that tells all -/
def kAll : K := fun v vars stk h => .ok (v :: vars) stk h
theorem operand_of {H : AH} {o : Oper} {snap : Nat → AV} {e : SEnv} {vars stk : List AV} (hs : ∀ t ∈ o.looksAt ops, sig L e vars stk t = snap t ∨ sig L e vars stk t = .undef) {a : Act}
    (hv : ∀ t ∈ o.looksAt ops, RV ρ (snap t) (a.eval (.tmp t))) : ∀ x ∈ o.op.operands, RV ρ ((res L e x).ev vars stk) (a.eval x) := by
  intro x hx
  cases x with
  | tmp t =>
    have hm := operand_looks (ops := ops) hx
    show RV ρ (sig L e vars stk t) _
    rcases hs t hm with h | h <;> rw [h]
    · exact hv t hm
    · exact .undef _
  | const v => exact conv_rv v
  | global g => exact .undef _
  | func f => exact .fn (.func f) [] [] #[] #[] rfl rfl (by simp) (by simp)
theorem Fact.exec {H : AH} {o : Oper} {snap : Nat → AV} {v : AV} {p : Option Pos} (f : Fact P L ops H o snap v p) {j : Nat} (hj : ops[j]? = some o) (r : Rel ρ H w) {a : Act} (hv : ∀ t ∈ o.looksAt ops, RV ρ (snap t) (a.eval (.tmp t)))
    (hlt : ∀ t ∈ o.looksAt ops, t < a.tmps.size) (hp : ∀ q, p = some q → ρ q = none) {K : Act → World → Prop} {Q : Exit → Act → World → Prop}
    (hk : ∀ ρ' w' y, LateR p ρ H w ρ' w' → RV ρ' v y → K (a.put o.dst y) w') : wpOp P ops Q j K a w := by
  unfold wpOp
  simp only [hj]
  cases f with
  | skip hg =>
    rw [if_neg (by rw [hg.wanted hv hlt]; simp)]
    exact hk ρ w undef (Stp.refl r) (.tup [] #[] rfl (by simp))
  | run hg e vars stk _ hs hf hr =>
    rw [if_pos (hg.wanted hv hlt)]
    left
    have hn : NF (runOp (cOp P L e o.op) (fun _ _ _ => .fail 0) kAll vars stk H) := by rw [hr]; intro n hh; cases hh
    obtain ⟨v', h', ρ', w', n, h1, h2, h3, h4⟩ := cOp_ok (k := kAll) L e r o a.eval (operand_of (H := H) hs hv) rfl (float_plain hf) hn
    rw [hr] at h1
    have h5 : v = v' ∧ H = h' := by unfold kAll at h1; cases h1; exact ⟨rfl, rfl⟩
    obtain ⟨rfl, rfl⟩ := h5
    unfold Oper.wp
    rw [h3]
    rcases h4 with ⟨y, rfl, hy⟩ | ⟨rfl, rfl⟩
    · exact hk ρ' w' y h2 hy
    · exact hk ρ' w' undef h2 (.undef _)
  | alloc hg e vars stk _ h1 ob hs ha hr hobj =>
    rw [if_pos (hg.wanted hv hlt)]
    left
    have hn : NF (runOp (cOp P L e o.op) (fun _ _ _ => .fail 0) kAll vars stk h1) := by rw [hr]; intro n hh; cases hh
    obtain ⟨o2, v', co, l, y, a1, a2, a3, a4⟩ := cOp_alloc (w := w) (k := kAll) L e o a.eval (operand_of (H := H) hs hv) rfl ha hn
    rw [hr] at a1
    have h5 : v = v' ∧ h1.new ob = h1.new o2 := by unfold kAll at a1; injection a1 with b1 b2 b3; injection b1 with b4 _; exact ⟨b4, b3⟩
    obtain ⟨rfl, h6⟩ := h5
    have := obj_new_inj h6
    subst this
    unfold Oper.wp
    rw [a2, Oper.upon_value]
    have hq := hp h1.nx rfl
    obtain ⟨b1, b2⟩ := a4 (ρ.set h1.nx l) (Emb.le_set l hq) (Emb.set_same _ _ _)
    exact hk _ _ y ⟨l, co, ob, rfl, rfl, a3, hobj, b1⟩ b2
theorem Fact.ext {H H' : AH} {o : Oper} {snap : Nat → AV} {v : AV} {p : Option Pos} (f : Fact P L ops H o snap v p) (hx : Ext H H') : Fact P L ops H' o snap v p := by
  cases f with
  | skip hg => exact .skip hg
  | run hg e vars stk _ hs hf hr =>
    have hn : NF (runOp (cOp P L e o.op) (fun _ _ _ => .fail 0) kAll vars stk H) := by rw [hr]; intro n hh; cases hh
    obtain ⟨v', hv'⟩ := float_ok hf hn
    have : v = v' := by
      have h1 := hv' H (fun _ _ _ h => h) (fun _ _ _ => .fail 0) kAll
      rw [hr] at h1
      unfold kAll at h1; cases h1; rfl
    subst this
    exact .run hg e vars stk v hs hf fun rec k => hv' H' (fun _ => hx) rec k
  | alloc hg e vars stk _ h1 ob hs ha hr hobj => exact .alloc hg e vars stk v h1 ob hs ha hr (hx _ _ hobj)

theorem late_stp {ρ₀ : Emb} {h₀ : AH} {w₀ : World} {H : AH} (s : Stp ρ₀ h₀ w₀ ρ H w) {p : Option Pos} (hp : ∀ q, p = some q → ρ q = none ∧ h₀.nx.num ≤ q.num ∧ q.num < H.nx.num) {ρ' : Emb} {w' : World} (l : LateR p ρ H w ρ' w') :
    Stp ρ₀ h₀ w₀ ρ' H w' ∧ ρ.le ρ' ∧ ∀ q, p ≠ some q → q.num < H.nx.num → ρ q = none → ρ' q = none := by
  cases p with
  | none =>
    have l' : Stp ρ H w ρ' H w' := l
    exact ⟨s.trans l', l'.le, fun q _ h1 h2 => (l'.unr q h1 h2).1⟩
  | some q =>
    obtain ⟨lo, co, ob, rfl, rfl, h3, h4, h5⟩ := l
    obtain ⟨p1, p2, p3⟩ := hp q rfl
    have r := s.rel
    have hle := Emb.le_set lo p1
    have old : ∀ k, k < w.heap.size → (w.alloc co).heap[k]? = w.heap[k]? := fun k hk => by
      show (w.heap.push co)[k]? = _
      rw [Array.getElem?_push, if_neg (by omega)]
    have off : ∀ {p m}, p ≠ q → (ρ.set q lo) p = some m → ρ p = some m := fun e hm => by simpa [Emb.set, e] using hm
    refine ⟨⟨fun p m e => hle p m (s.le p m e), ⟨?_, ?_, ?_, ?_⟩, s.nx, s.os, s.tape, s.output, ?_, ?_, ?_, ?_, s.drawn⟩, hle, ?_⟩
    · intro p o' hp' m hm
      by_cases e : p = q
      · subst e
        rw [Emb.set_same] at hm
        cases hm
        rw [h4] at hp'; cases hp'
        exact h5
      · have hm' := off e hm
        have ob' := r.obj p o' hp' m hm'
        exact (ob'.world (old _ ob'.inb)).mono hle
    · intro a b m n ha hb hm hn e
      by_cases ea : a = q
      · by_cases eb : b = q
        · exact ea.trans eb.symm
        · exfalso
          have := r.live_lt hb (off eb hn)
          rw [ea, Emb.set_same] at hm; cases hm; omega
      · by_cases eb : b = q
        · exfalso
          have := r.live_lt ha (off ea hm)
          rw [eb, Emb.set_same] at hn; cases hn; omega
        · exact r.inj a b m n ha hb (off ea hm) (off eb hn) e
    · intro p m hm
      by_cases e : p = q
      · subst e; exact p3
      · exact r.fresh1 p m (off e hm)
    · exact r.fresh2
    · have := s.size
      show w₀.heap.size ≤ (w.heap.push co).size
      rw [Array.size_push]; omega
    · intro k hk hn
      rw [old k (Nat.lt_of_lt_of_le hk s.size)]
      exact s.frame k hk hn
    · intro p l' hp' hl'
      by_cases e : p = q
      · subst e; rw [Emb.set_same] at hl'; cases hl'; left; rw [h3]; exact s.size
      · exact s.cov p l' hp' (off e hl')
    · intro p hlt e0
      have ne : p ≠ q := fun e => by subst e; omega
      obtain ⟨u1, u2⟩ := s.unr p hlt e0
      exact ⟨by simp [Emb.set, ne, u1], u2⟩
    · intro p' hne hlt hn
      have ne : p' ≠ q := fun e => hne (by rw [e])
      simp [Emb.set, ne, hn]
theorem early_stp {ρ₀ : Emb} {h₀ : AH} {w₀ : World} {H : AH} (s : Stp ρ₀ h₀ w₀ ρ H w) (ob : Obj) : Stp ρ₀ h₀ w₀ ρ (H.new ob) w ∧ ρ H.nx = none ∧ Ext H (H.new ob) := by
  have r := s.rel
  have hn := r.nx_none
  have old : ∀ {p o}, (H.new ob).obj p = some o → ρ p ≠ none → H.obj p = some o := fun {p o} hp hne => by
    rw [AH.obj_new] at hp
    by_cases e : p = H.nx
    · subst e; exact absurd hn hne
    · rwa [if_neg e] at hp
  refine ⟨⟨s.le, ⟨?_, ?_, ?_, ?_⟩, ?_, s.os, s.tape, s.output, s.size, s.frame, ?_, ?_, s.drawn⟩, hn, ?_⟩
  · intro p o hp l hl
    exact r.obj p o (old hp (by simp [hl])) l hl
  · intro a b m n ha hb hm hn' e
    have f : ∀ {a m}, (H.new ob).obj a ≠ none → ρ a = some m → H.obj a ≠ none := fun {a m} ha hm => by
      cases ho : (H.new ob).obj a with
      | none => exact absurd ho ha
      | some o => rw [old ho (by simp [hm])]; simp
    exact r.inj a b m n (f ha hm) (f hb hn') hm hn' e
  · intro p m hm
    rw [AH.nx_new, Pos.num_succ]
    have := r.fresh1 p m hm; omega
  · intro p hp
    rw [AH.nx_new, Pos.num_succ]
    rw [AH.obj_new] at hp
    by_cases e : p = H.nx
    · subst e; omega
    · rw [if_neg e] at hp; have := r.fresh2 p hp; omega
  · rw [AH.nx_new, Pos.num_succ]; have := s.nx; omega
  · intro p l' hp hl'
    cases ho : (H.new ob).obj p with
    | none => exact absurd ho hp
    | some o => exact s.cov p l' (by rw [old ho (by simp [hl'])]; simp) hl'
  · intro p hlt e
    obtain ⟨u1, u2⟩ := s.unr p hlt e
    refine ⟨u1, ?_⟩
    have ne : p ≠ H.nx := fun e => by subst e; have := s.nx; omega
    rw [AH.obj_new, if_neg ne]; exact u2
  · intro p o hp
    rw [AH.obj_new, if_neg]
    · exact hp
    · rintro rfl; rw [r.nx_free] at hp; cases hp
end
end Go.Ev
namespace Go.Ev
set_option autoImplicit false
variable [Rounds]
open Go

/-- a slot: either an operation that waits will give it this value, or the value is there -/
def SI (M : List Ms) (ρ : Emb) (a : Act) (x : AV) (t : Nat) : Prop :=
  (∀ m ∈ M, m.o.dst = some t → m.val = x ∨ x = .undef) ∧ ((∀ m ∈ M, m.o.dst ≠ some t) → RV ρ x (a.eval (.tmp t)))

structure Inv (P : Program) (rec : Rec) (ops : Array Oper) (L : List Nat) (N : Nat) (Q : Exit → Act → World → Prop) (ρ₀ : Emb) (h₀ : AH) (w₀ : World) (ex : SEnv) (fuel : Nat) (pre post : List Nat) (M : List Ms) (listed : Array Bool)
    (e : SEnv) (vars stk : List AV) (H : AH) (pend : List Nat) (ρ : Emb) (a : Act) (w : World) : Prop where
  wf : WF L N e
  stp : Stp ρ₀ h₀ w₀ ρ H w
  go : regGo L ops (Region.before ops) pre post = true
  cover : ∀ i, i < ops.size → i ∈ pre ∨ i ∈ post
  disj : ∀ i ∈ pre, i ∉ post
  pnd : post.Nodup
  lst : ∀ i ∈ pre, listed.getD i false = true ∨ ∃ m ∈ M, m.j = i
  lst2 : ∀ i, listed.getD i false = true → i ∈ pre ∧ ∀ m ∈ M, m.j ≠ i
  lsz : listed.size = ops.size
  cl : Closed ops (fun i => listed.getD i false = true)
  mem : ∀ m ∈ M, m.j ∈ pre ∧ ops[m.j]? = some m.o
  mnd : (M.map (·.j)).Nodup
  dep : ∀ m ∈ M, ∀ m' ∈ M, ∀ t ∈ m.o.looksAt ops, m'.o.dst = some t → ((Region.before ops).getD m.j 0).testBit m'.j = true
  own : ∀ m ∈ M, ∀ t ∈ m.o.looksAt ops, m.o.dst ≠ some t
  fact : ∀ m ∈ M, Fact P L ops H m.o m.snap m.val m.pos
  pers : ∀ m ∈ M, m.j ∈ pend ∨ ∀ H' : AH, (∀ q, m.pos = some q → H'.obj q = H.obj q) → Fact P L ops H' m.o m.snap m.val m.pos
  snaps : ∀ m ∈ M, ∀ t ∈ m.o.looksAt ops, SI M ρ a (m.snap t) t
  cur : ∀ t, t < N → SI M ρ a (sig L e vars stk t) t
  now : ∀ m ∈ M, ∀ t ∈ m.o.looksAt ops, sig L e vars stk t = m.snap t ∨ sig L e vars stk t = .undef
  posn : ∀ m ∈ M, ∀ q, m.pos = some q → ρ q = none ∧ h₀.nx.num ≤ q.num ∧ q.num < H.nx.num
  posd : ∀ m ∈ M, ∀ m' ∈ M, ∀ q, m.pos = some q → m'.pos = some q → m.j = m'.j
  size : a.tmps.size = N
  dfr : DefOk L ρ vars a
  nf : NF ((cOpsD P L ops (Region.before ops) post pend e).run rec vars stk H)
  env : opsED L ops post e = ex
  good : GoodR L N Q ρ₀ h₀ w₀ ex ((cOpsD P L ops (Region.before ops) post pend e).run rec vars stk H)
  fuel : fuel = post.length + M.length

section
variable {P : Program} {ρ : Emb} {h : AH} {w : World} {k : K} {vars stk : List AV} {L : List Nat} {N : Nat} {ops : Array Oper} {Q : Exit → Act → World → Prop} {rec : Rec}
  {ρ₀ : Emb} {h₀ : AH} {w₀ : World} {ex e : SEnv} {fuel : Nat} {pre post pend : List Nat} {M : List Ms} {listed : Array Bool} {H : AH} {a : Act}
theorem put_other (a : Act) {d : Option Tmp} {t : Nat} (y : Value) (hd : ∀ u, d = some u → u < a.tmps.size) (hne : d ≠ some t) : (a.put d y).eval (.tmp t) = a.eval (.tmp t) := by
  cases d with
  | none => rfl
  | some u => rw [put_eval a u y (hd u rfl), if_neg fun e => hne (by rw [e])]
theorem put_here (a : Act) {d : Option Tmp} {t : Nat} (y : Value) (hd : ∀ u, d = some u → u < a.tmps.size) (he : d = some t) : (a.put d y).eval (.tmp t) = y := by
  subst he; rw [put_eval a t y (hd t rfl), if_pos rfl]
theorem SI.late {A B : List Ms} {m : Ms} {ρ' : Emb} (hle : ρ.le ρ') {y : Value} (hv : RV ρ' m.val y) (hd : ∀ u, m.o.dst = some u → u < a.tmps.size) {x : AV} {t : Nat} (s : SI (A ++ m :: B) ρ a x t) : SI (A ++ B) ρ' (a.put m.o.dst y) x t := by
  obtain ⟨s1, s2⟩ := s
  have sub : ∀ m' ∈ A ++ B, m' ∈ A ++ m :: B := fun m' h => by
    rcases List.mem_append.1 h with h | h
    · exact List.mem_append.2 (.inl h)
    · exact List.mem_append.2 (.inr (List.mem_cons_of_mem _ h))
  refine ⟨fun m' hm' hd' => s1 m' (sub m' hm') hd', fun hno => ?_⟩
  by_cases hmt : m.o.dst = some t
  · rw [put_here a y hd hmt]
    rcases s1 m (List.mem_append.2 (.inr List.mem_cons_self)) hmt with h | h
    · rw [← h]; exact hv
    · rw [h]; exact .undef _
  · rw [put_other a y hd hmt]
    refine (s2 fun m' hm' => ?_).mono hle
    rcases List.mem_append.1 hm' with h | h
    · exact hno m' (List.mem_append.2 (.inl h))
    · rcases List.mem_cons.1 h with rfl | h
      · exact hmt
      · exact hno m' (List.mem_append.2 (.inr h))
theorem GSays.trans {o : Oper} {f g : Nat → AV} {b : Bool} (hg : GSays ops o f b) (h : ∀ t ∈ o.looksAt ops, f t = g t ∨ f t = .undef) : GSays ops o g b := by
  unfold GSays at hg ⊢
  cases ho : o.guard with
  | none => rw [ho] at hg; exact hg
  | some gw =>
    obtain ⟨j, want⟩ := gw
    rw [ho] at hg
    obtain ⟨t, ht, h1⟩ := hg
    refine ⟨t, ht, ?_⟩
    rcases h t (guard_looks ho ht) with h2 | h2
    · rw [← h2]; exact h1
    · rw [h2] at h1
      rcases h1 with ⟨_, h1⟩ | ⟨_, h1 | ⟨l, h1⟩⟩
      · cases want <;> cases h1
      · cases want <;> cases h1
      · cases h1
theorem GSays.both {o : Oper} {f : Nat → AV} (h1 : GSays ops o f true) (h2 : GSays ops o f false) : False := by
  unfold GSays at h1 h2
  cases ho : o.guard with
  | none => rw [ho] at h2; cases h2
  | some gw =>
    obtain ⟨j, want⟩ := gw
    rw [ho] at h1 h2
    obtain ⟨t, ht, a1⟩ := h1
    obtain ⟨u, hu, a2⟩ := h2
    rw [ht] at hu; cases hu
    rcases a1 with ⟨_, a1⟩ | ⟨c, _⟩
    · rcases a2 with ⟨c, _⟩ | ⟨_, a2⟩
      · cases c
      · rw [a1] at a2
        rcases a2 with a2 | ⟨l, a2⟩ <;> cases want <;> cases a2
    · cases c

theorem dstIs_false {j t : Nat} {oj : Oper} (h : dstIs ops j t = false) (hj : ops[j]? = some oj) : oj.dst ≠ some t := by
  intro hd
  unfold dstIs at h
  rw [hj] at h
  simp only [hd, Nat.beq_refl] at h
  cases h
theorem readsIt_false {j t : Nat} {oj : Oper} (h : readsIt ops j t = false) (hj : ops[j]? = some oj) : t ∉ oj.looksAt ops := by
  intro hm
  unfold readsIt at h
  rw [hj] at h
  have : (oj.looksAt ops).any (Nat.beq t) = true := List.any_eq_true.2 ⟨t, hm, Nat.beq_refl t⟩
  simp only at h
  rw [h] at this; cases this
theorem mem_preds {i : Nat} {o : Oper} (ho : ops[i]? = some o) {p : Nat} : p ∈ predsOf ops i ↔ ∃ e ∈ o.after, Region.binds .any e = true ∧ e.on = p := by
  unfold predsOf
  rw [ho]
  simp only [List.mem_map, List.mem_filter, Array.mem_toList_iff]
  constructor
  · rintro ⟨e, ⟨h1, h2⟩, h3⟩; exact ⟨e, h1, h2, h3⟩
  · rintro ⟨e, h1, h2, h3⟩; exact ⟨e, ⟨h1, h2⟩, h3⟩
theorem regGo_inv {i : Nat} {an : Array Nat} (hg : regGo L ops an pre (i :: post) = true) : ∃ o, ops[i]? = some o ∧ (∀ e ∈ o.after, Region.binds .any e = true → e.on ∈ pre) ∧
    (isFloat o.op = false → ∀ j ∈ post, ∃ oj, ops[j]? = some oj ∧ ∃ e ∈ oj.after, Region.binds .any e = true ∧ e.on ∉ pre) ∧
    (isFloat o.op = true → ∀ t, o.dst = some t → t ∉ o.looksAt ops ∧ ∀ j ∈ pre, ∀ oj, ops[j]? = some oj → oj.dst ≠ some t ∧ t ∉ oj.looksAt ops) ∧
    (isFloat o.op = false → ∀ t, o.dst = some t → ∀ j ∈ pre, (an.getD i 0).testBit j = true ∨ ∀ oj, ops[j]? = some oj → oj.dst ≠ some t ∧ t ∉ oj.looksAt ops) ∧
    (∀ t ∈ o.looksAt ops, ∀ j ∈ pre, ∀ oj, ops[j]? = some oj → oj.dst = some t → (an.getD i 0).testBit j = true) ∧
    (isFloat o.op = false → idxOf slotD L 0 ≠ none → ∀ j ∈ pre, (an.getD i 0).testBit j = true ∨ ∀ oj t, ops[j]? = some oj → oj.dst = some t → idxOf t L 0 = none) ∧
    regGo L ops an (i :: pre) post = true := by
  unfold regGo at hg
  cases ho : ops[i]? with
  | none => rw [ho] at hg; cases hg
  | some o =>
    rw [ho] at hg
    simp only [Bool.and_eq_true] at hg
    obtain ⟨g1, g2, g3, g4, g5, g6⟩ := hg
    refine ⟨o, rfl, fun e he hb => ?_, fun hf j hj => ?_, fun hf t ht => ?_, fun hf t ht j hj => ?_, fun t ht j hj oj hoj hd => ?_, fun hf hsl j hj => ?_, g6⟩
    · rw [List.all_eq_true] at g1
      exact memL_iff.1 (g1 e.on ((mem_preds ho).2 ⟨e, he, hb, rfl⟩))
    · rw [hf, Bool.false_or, List.all_eq_true] at g2
      have := g2 j hj
      rw [List.any_eq_true] at this
      obtain ⟨p, hp, hq⟩ := this
      cases hoj : ops[j]? with
      | none => unfold predsOf at hp; rw [hoj] at hp; cases hp
      | some oj =>
        obtain ⟨e, h1, h2, h3⟩ := (mem_preds hoj).1 hp
        refine ⟨oj, rfl, e, h1, h2, fun hm => ?_⟩
        rw [h3] at hm
        rw [memL_iff.2 hm] at hq; cases hq
    · rw [ht] at g3
      simp only [hf, cond_true, Bool.and_eq_true, Bool.not_eq_true'] at g3
      refine ⟨readsIt_false g3.1 ho, fun j hj oj hoj => ?_⟩
      have h2 := g3.2
      rw [List.all_eq_true] at h2
      have := h2 j hj
      simp only [Bool.and_eq_true, Bool.not_eq_true'] at this
      exact ⟨dstIs_false this.1 hoj, readsIt_false this.2 hoj⟩
    · rw [ht] at g3
      simp only [hf, cond_false] at g3
      rw [List.all_eq_true] at g3
      have := g3 j hj
      rw [Bool.or_eq_true] at this
      rcases this with h | h
      · exact .inl h
      · right
        simp only [Bool.and_eq_true, Bool.not_eq_true'] at h
        exact fun oj hoj => ⟨dstIs_false h.1 hoj, readsIt_false h.2 hoj⟩
    · rw [List.all_eq_true] at g4
      have := g4 t ht
      rw [List.all_eq_true] at this
      have := this j hj
      rw [Bool.or_eq_true] at this
      rcases this with h | h
      · exact absurd hd (dstIs_false (by simpa using h) hoj)
      · exact h
    · have hsl : (idxOf slotD L 0).isNone = false := by cases h : idxOf slotD L 0 with | none => exact absurd h hsl | some _ => rfl
      rw [hf, Bool.false_or, hsl, Bool.false_or, List.all_eq_true] at g5
      have := g5 j hj
      rw [Bool.or_eq_true] at this
      rcases this with h | h
      · exact .inl h
      · right
        intro oj t hoj hd
        have h : varDst L ops j = false := by simpa using h
        unfold varDst at h
        rw [hoj] at h
        simp only [hd] at h
        cases hi : idxOf t L 0 with
        | none => rfl
        | some _ => rw [hi] at h; cases h
theorem exists_ready {order : List Nat} {an : Array Nat} : ∀ (pre : List Nat), regGo L ops an pre order = true → (∀ i ∈ pre, listed.getD i false = true) → listed.size = ops.size → (∃ i ∈ order, listed.getD i false = false) → ∃ i, i ∈ Region.ready .any ops listed := by
  induction order with
  | nil => rintro pre _ _ _ ⟨i, hi, _⟩; cases hi
  | cons c order ih =>
    intro pre hg hp hs hx
    obtain ⟨o, ho, c1, _, _, _, _, _, hg'⟩ := regGo_inv hg
    cases hc : listed.getD c false with
    | true =>
      refine ih (c :: pre) hg' (fun i hi => ?_) hs ?_
      · rcases List.mem_cons.1 hi with rfl | h
        · exact hc
        · exact hp i h
      · obtain ⟨i, hi, hu⟩ := hx
        rcases List.mem_cons.1 hi with rfl | h
        · rw [hc] at hu; cases hu
        · exact ⟨i, h, hu⟩
    | false =>
      have hlt : c < listed.size := by rw [hs]; exact (Array.getElem?_eq_some_iff.1 ho).1
      refine ⟨c, mem_ready.2 ⟨?_, o, ho, fun e he hb => hp _ (c1 e he hb)⟩⟩
      rw [Array.getD_eq_getD_getElem?, Array.getElem?_eq_getElem hlt] at hc ⊢
      exact hc
theorem ready_unlisted {i : Nat} (h : i ∈ Region.ready .any ops listed) : listed.getD i false = false := by
  have := (mem_ready.1 h).1
  rw [Array.getD_eq_getD_getElem?] at this ⊢
  cases hl : listed[i]? with
  | none => rw [hl] at this; cases this
  | some b => rw [hl] at this; exact this
theorem getD_set (hlt : k = k) {i j : Nat} (hi : i < listed.size) : (listed.setIfInBounds i true).getD j false = if j = i then true else listed.getD j false := by
  rw [Array.getD_eq_getD_getElem?, Array.getD_eq_getD_getElem?]
  by_cases h : j = i
  · subst h; simp [hi]
  · rw [if_neg h, Array.getElem?_setIfInBounds_ne fun e => h e.symm]

/-- an operation that waits is carried out -/
theorem run_missing (hall : ∀ (j : Nat) (o : Oper), ops[j]? = some o → opIn N o = true) (hN : N ≤ slotD) (I : Inv P rec ops L N Q ρ₀ h₀ w₀ ex (fuel + 1) pre post M listed e vars stk H pend ρ a w) {m : Ms} (hm : m ∈ M) (hr : m.j ∈ Region.ready .any ops listed)
    (next : ∀ M' listed' ρ' a' w', Inv P rec ops L N Q ρ₀ h₀ w₀ ex fuel pre post M' listed' e vars stk H pend ρ' a' w' → listed' = listed.setIfInBounds m.j true → wpAny P .any ops Q fuel listed' a' w') :
    wpOp P ops Q m.j (wpAny P .any ops Q fuel (listed.setIfInBounds m.j true)) a w := by
  obtain ⟨hpre, hoj⟩ := I.mem m hm
  have hin := hall m.j m.o hoj
  have hun := ready_unlisted hr
  have hlt : m.j < listed.size := by rw [I.lsz]; exact (Array.getElem?_eq_some_iff.1 hoj).1
  obtain ⟨_, o', ho', hpreds⟩ := mem_ready.1 hr
  rw [hoj] at ho'; cases ho'
  have gd := fun j => getD_set (listed := listed) (k := kAll) rfl (j := j) hlt
  have cl' : Closed ops (fun i => (listed.setIfInBounds m.j true).getD i false = true) := by
    intro i o ho hi ed hed hb
    show (listed.setIfInBounds m.j true).getD ed.on false = true
    rw [gd]
    split
    · rfl
    · have hi' : (listed.setIfInBounds m.j true).getD i false = true := hi
      rw [gd] at hi'
      split at hi'
      · rename_i hij
        subst hij
        rw [hoj] at ho; cases ho
        exact hpreds ed hed hb
      · exact I.cl i o ho hi' ed hed hb
  obtain ⟨A, B, rfl⟩ := List.append_of_mem hm
  have hdb : ∀ u, m.o.dst = some u → u < a.tmps.size := fun u hu => by rw [I.size]; exact opIn_dst hin u hu
  have jne : ∀ m' ∈ A ++ B, m'.j ≠ m.j := by
    intro m' hm' he
    have := I.mnd
    rw [List.map_append, List.map_cons, List.nodup_append] at this
    obtain ⟨_, h2, h3⟩ := this
    rw [List.nodup_cons] at h2
    rcases List.mem_append.1 hm' with h | h
    · exact h3 m'.j (List.mem_map.2 ⟨m', h, rfl⟩) m.j List.mem_cons_self he
    · exact h2.1 (List.mem_map.2 ⟨m', h, he⟩)
  have sub : ∀ m' ∈ A ++ B, m' ∈ A ++ m :: B := fun m' h => by
    rcases List.mem_append.1 h with h | h
    · exact List.mem_append.2 (.inl h)
    · exact List.mem_append.2 (.inr (List.mem_cons_of_mem _ h))
  have ops_ok : ∀ t ∈ m.o.looksAt ops, RV ρ (m.snap t) (a.eval (.tmp t)) := by
    intro t ht
    refine (I.snaps m hm t ht).2 fun m' hm' hd => ?_
    have hb := I.dep m hm m' hm' t ht hd
    have := before_ok ops _ cl' hb (by show (listed.setIfInBounds m.j true).getD m.j false = true; rw [gd, if_pos rfl])
    have h1 : (listed.setIfInBounds m.j true).getD m'.j false = true := this
    rw [gd] at h1
    split at h1
    · rename_i he
      have ho2 := (I.mem m' hm').2
      rw [he, hoj] at ho2
      have : m.o = m'.o := by injection ho2
      exact I.own m hm t ht (by rw [this]; exact hd)
    · exact (I.lst2 m'.j h1).2 m' hm' rfl
  refine (I.fact m hm).exec hoj I.stp.rel ops_ok (fun t ht => by rw [I.size]; exact looks_lt hall hoj ht) (fun q hq => (I.posn m hm q hq).1) fun ρ' w' y hl hv => ?_
  obtain ⟨s1, s2, s3⟩ := late_stp I.stp (I.posn m hm) hl
  refine next (A ++ B) _ ρ' _ w' ?_ rfl
  refine { wf := I.wf, stp := s1, go := I.go, cover := I.cover, disj := I.disj, pnd := I.pnd, lst := ?_, lst2 := ?_, lsz := by rw [Array.size_setIfInBounds]; exact I.lsz, cl := cl', mem := fun m' h => I.mem m' (sub m' h), mnd := ?_,
           dep := fun m1 h1 m2 h2 => I.dep m1 (sub _ h1) m2 (sub _ h2), own := fun m' h => I.own m' (sub m' h), fact := fun m' h => I.fact m' (sub m' h), pers := fun m' h => I.pers m' (sub m' h),
           snaps := fun m' h t ht => (I.snaps m' (sub m' h) t ht).late s2 hv hdb, cur := fun t ht => (I.cur t ht).late s2 hv hdb, now := fun m' h => I.now m' (sub m' h), posn := ?_, posd := fun m1 h1 m2 h2 => I.posd m1 (sub _ h1) m2 (sub _ h2),
           size := by rw [put_size]; exact I.size, dfr := ?_, nf := I.nf, env := I.env, good := I.good, fuel := ?_ }
  · intro i hi
    rw [gd]
    by_cases h : i = m.j
    · left; rw [if_pos h]
    · rw [if_neg h]
      rcases I.lst i hi with h1 | ⟨m', hm', hj⟩
      · exact .inl h1
      · right
        refine ⟨m', ?_, hj⟩
        rcases List.mem_append.1 hm' with h2 | h2
        · exact List.mem_append.2 (.inl h2)
        · rcases List.mem_cons.1 h2 with rfl | h2
          · exact absurd hj.symm h
          · exact List.mem_append.2 (.inr h2)
  · intro i hi
    rw [gd] at hi
    split at hi
    · rename_i he
      subst he
      exact ⟨hpre, jne⟩
    · obtain ⟨h1, h2⟩ := I.lst2 i hi
      exact ⟨h1, fun m' h => h2 m' (sub m' h)⟩
  · refine List.Sublist.nodup ?_ I.mnd
    rw [List.map_append, List.map_append, List.map_cons]
    exact List.Sublist.append (List.Sublist.refl _) (List.sublist_cons_self _ _)
  · intro m' h q hq
    obtain ⟨p1, p2, p3⟩ := I.posn m' (sub m' h) q hq
    refine ⟨s3 q (fun he => ?_) p3 p1, p2, p3⟩
    exact jne m' h (I.posd m' (sub m' h) m hm q hq he)
  · have hd' : (a.put m.o.dst y).defers = a.defers := by cases m.o.dst <;> rfl
    have := I.dfr.mono s2
    unfold DefOk at this ⊢
    rw [hd']; exact this
  · have := I.fuel
    simp only [List.length_append, List.length_cons] at this ⊢
    omega
end
end Go.Ev
namespace Go.Ev
set_option autoImplicit false
variable [Rounds]
open Go

section
variable {P : Program} {ρ : Emb} {h : AH} {w : World} {k : K} {vars stk vars' stk' : List AV} {L : List Nat} {N : Nat} {ops : Array Oper} {Q : Exit → Act → World → Prop} {rec : Rec}
  {ρ₀ : Emb} {h₀ : AH} {w₀ : World} {ex e e' : SEnv} {fuel : Nat} {pre post pend pend' : List Nat} {M : List Ms} {listed : Array Bool} {H H' : AH} {a : Act}

/-- the evaluator goes on alone -/
theorem adv_core {c : Nat} (hall : ∀ (j : Nat) (o : Oper), ops[j]? = some o → opIn N o = true) (I : Inv P rec ops L N Q ρ₀ h₀ w₀ ex fuel pre (c :: post) M listed e vars stk H pend ρ a w) {o : Oper} (ho : ops[c]? = some o) (hfl : isFloat o.op = true)
    {v : AV} {p : Option Pos} (hwf : WF L N e') (hsig : ∀ u, (o.dst = some u → sig L e' vars' stk' u = v ∨ sig L e' vars' stk' u = .undef) ∧ (o.dst ≠ some u → sig L e' vars' stk' u = sig L e vars stk u ∨ sig L e' vars' stk' u = .undef))
    (hf : Fact P L ops H' o (sig L e vars stk) v p) (hH : (p = none ∧ H' = H) ∨ ∃ ob, p = some H.nx ∧ H' = H.new ob) (hpend : ∀ x ∈ pend, x ∈ pend')
    (hpers : c ∈ pend' ∨ ∀ H'' : AH, (∀ q, p = some q → H''.obj q = H'.obj q) → Fact P L ops H'' o (sig L e vars stk) v p) (hdef : DefOk L ρ vars' a)
    (hnf : NF ((cOpsD P L ops (Region.before ops) post pend' e').run rec vars' stk' H')) (henv : opsED L ops post e' = ex) (hg : GoodR L N Q ρ₀ h₀ w₀ ex ((cOpsD P L ops (Region.before ops) post pend' e').run rec vars' stk' H')) :
    Inv P rec ops L N Q ρ₀ h₀ w₀ ex fuel (c :: pre) post (⟨c, o, v, sig L e vars stk, p⟩ :: M) listed e' vars' stk' H' pend' ρ a w := by
  obtain ⟨o', ho', c1, c2, c3, c3s, c4, c5, hgo⟩ := regGo_inv I.go
  rw [ho] at ho'; cases ho'
  have hext : Ext H H' ∧ Stp ρ₀ h₀ w₀ ρ H' w ∧ H.nx.num ≤ H'.nx.num := by
    rcases hH with ⟨_, rfl⟩ | ⟨ob, _, rfl⟩
    · exact ⟨fun _ _ h => h, I.stp, Nat.le_refl _⟩
    · obtain ⟨s1, _, s3⟩ := early_stp I.stp ob
      exact ⟨s3, s1, by rw [AH.nx_new, Pos.num_succ]; omega⟩
  obtain ⟨x1, x2, x3⟩ := hext
  have hc : c ∉ pre := fun hm => I.disj c hm List.mem_cons_self
  have hnd := List.nodup_cons.1 I.pnd
  have cne : ∀ m ∈ M, m.j ≠ c := fun m hm he => hc (he ▸ (I.mem m hm).1)
  have mdst : ∀ m ∈ M, ∀ t, o.dst = some t → m.o.dst ≠ some t ∧ t ∉ m.o.looksAt ops := fun m hm t ht => (c3 hfl t ht).2 m.j (I.mem m hm).1 m.o (I.mem m hm).2
  have keepS : ∀ {x : AV} {t : Nat}, o.dst ≠ some t → SI M ρ a x t → SI (⟨c, o, v, sig L e vars stk, p⟩ :: M) ρ a x t := by
    intro x t hne s
    refine ⟨fun m hm hd => ?_, fun hno => s.2 fun m hm => hno m (List.mem_cons_of_mem _ hm)⟩
    rcases List.mem_cons.1 hm with rfl | hm
    · exact absurd hd hne
    · exact s.1 m hm hd
  refine { wf := hwf, stp := x2, go := hgo, cover := ?_, disj := ?_, pnd := hnd.2, lst := ?_, lst2 := ?_, lsz := I.lsz, cl := I.cl, mem := ?_, mnd := ?_, dep := ?_, own := ?_, fact := ?_, pers := ?_, snaps := ?_, cur := ?_, now := ?_, posn := ?_, posd := ?_,
           size := I.size, dfr := hdef, nf := hnf, env := henv, good := hg, fuel := ?_ }
  · intro i hi
    rcases I.cover i hi with h | h
    · exact .inl (List.mem_cons_of_mem _ h)
    · rcases List.mem_cons.1 h with rfl | h
      · exact .inl List.mem_cons_self
      · exact .inr h
  · intro i hi hp
    rcases List.mem_cons.1 hi with rfl | hi
    · exact hnd.1 hp
    · exact I.disj i hi (List.mem_cons_of_mem _ hp)
  · intro i hi
    rcases List.mem_cons.1 hi with rfl | hi
    · exact .inr ⟨_, List.mem_cons_self, rfl⟩
    · rcases I.lst i hi with h | ⟨m, hm, hj⟩
      · exact .inl h
      · exact .inr ⟨m, List.mem_cons_of_mem _ hm, hj⟩
  · intro i hi
    obtain ⟨h1, h2⟩ := I.lst2 i hi
    refine ⟨List.mem_cons_of_mem _ h1, fun m hm => ?_⟩
    rcases List.mem_cons.1 hm with rfl | hm
    · intro he
      have he : c = i := he
      exact hc (he ▸ h1)
    · exact h2 m hm
  · intro m hm
    rcases List.mem_cons.1 hm with rfl | hm
    · exact ⟨List.mem_cons_self, ho⟩
    · exact ⟨List.mem_cons_of_mem _ (I.mem m hm).1, (I.mem m hm).2⟩
  · rw [List.map_cons, List.nodup_cons]
    refine ⟨fun hm => ?_, I.mnd⟩
    obtain ⟨m, h1, h2⟩ := List.mem_map.1 hm
    exact cne m h1 h2
  · intro m1 h1 m2 h2 t ht hd
    rcases List.mem_cons.1 h1 with rfl | h1
    · rcases List.mem_cons.1 h2 with rfl | h2
      · exact absurd ht (c3 hfl t hd).1
      · exact c4 t ht m2.j (I.mem m2 h2).1 m2.o (I.mem m2 h2).2 hd
    · rcases List.mem_cons.1 h2 with rfl | h2
      · exact absurd ht (mdst m1 h1 t hd).2
      · exact I.dep m1 h1 m2 h2 t ht hd
  · intro m hm t ht hd
    rcases List.mem_cons.1 hm with rfl | hm
    · exact (c3 hfl t hd).1 ht
    · exact I.own m hm t ht hd
  · intro m hm
    rcases List.mem_cons.1 hm with rfl | hm
    · exact hf
    · exact (I.fact m hm).ext x1
  · intro m hm
    rcases List.mem_cons.1 hm with rfl | hm
    · exact hpers
    · rcases I.pers m hm with h | h
      · exact .inl (hpend _ h)
      · right
        intro H'' hq
        refine h H'' fun q hp => ?_
        rw [hq q hp]
        rcases hH with ⟨_, rfl⟩ | ⟨ob, _, rfl⟩
        · rfl
        · rw [AH.obj_new, if_neg]
          rintro rfl
          have := (I.posn m hm _ hp).2.2
          omega
  · intro m hm t ht
    rcases List.mem_cons.1 hm with rfl | hm
    · have htN := looks_lt hall ho ht
      refine keepS (fun hd => (c3 hfl t hd).1 ht) (I.cur t htN)
    · exact keepS (fun hd => (mdst m hm t hd).2 ht) (I.snaps m hm t ht)
  · intro t ht
    have hs := hsig t
    by_cases hd : o.dst = some t
    · refine ⟨fun m hm hmd => ?_, fun hno => absurd hd (hno _ List.mem_cons_self)⟩
      rcases List.mem_cons.1 hm with rfl | hm
      · rcases hs.1 hd with h | h
        · exact .inl h.symm
        · exact .inr h
      · exact absurd hmd (mdst m hm t hd).1
    · have hk := keepS hd (I.cur t ht)
      rcases hs.2 hd with h | h
      · rw [h]; exact hk
      · rw [h]; exact ⟨fun _ _ _ => .inr rfl, fun _ => .undef _⟩
  · intro m hm t ht
    rcases List.mem_cons.1 hm with rfl | hm
    · exact (hsig t).2 fun hd => (c3 hfl t hd).1 ht
    · rcases (hsig t).2 fun hd => (mdst m hm t hd).2 ht with h | h
      · rw [h]; exact I.now m hm t ht
      · exact .inr h
  · intro m hm q hq
    rcases List.mem_cons.1 hm with rfl | hm
    · rcases hH with ⟨h1, _⟩ | ⟨ob, h1, h2⟩
      · rw [show p = some q from hq] at h1; cases h1
      · rw [show p = some q from hq] at h1; cases h1
        refine ⟨I.stp.rel.nx_none, I.stp.nx, ?_⟩
        rw [h2, AH.nx_new, Pos.num_succ]; omega
    · obtain ⟨p1, p2, p3⟩ := I.posn m hm q hq
      exact ⟨p1, p2, Nat.lt_of_lt_of_le p3 x3⟩
  · have fresh : ∀ m ∈ M, ∀ q, p = some q → m.pos = some q → False := by
      intro m hm q h1 h2
      rcases hH with ⟨h3, _⟩ | ⟨ob, h3, _⟩
      · rw [h1] at h3; cases h3
      · rw [h1] at h3; cases h3
        have := (I.posn m hm _ h2).2.2
        omega
    intro m1 h1 m2 h2 q q1 q2
    rcases List.mem_cons.1 h1 with rfl | h1
    · rcases List.mem_cons.1 h2 with rfl | h2
      · rfl
      · exact (fresh m2 h2 q q1 q2).elim
    · rcases List.mem_cons.1 h2 with rfl | h2
      · exact (fresh m1 h1 q q2 q1).elim
      · exact I.posd m1 h1 m2 h2 q q1 q2
  · have := I.fuel
    simp only [List.length_cons] at this ⊢
    omega

/-- a float, and its guard -/
theorem guarded_run {o : Oper} {c : COp} {r : CI} (hn : NF ((guarded L ops e o c r).run rec vars stk H)) :
    (GSays ops o (sig L e vars stk) true ∧ (guarded L ops e o c r).run rec vars stk H = runOp c rec ((dstOf L o.dst).k r.run rec) vars stk H) ∨
    (GSays ops o (sig L e vars stk) false ∧ (guarded L ops e o c r).run rec vars stk H = r.run rec ((dstOf L o.dst).vs (.tup []) vars) ((dstOf L o.dst).ss (.tup []) stk) H) := by
  unfold guarded at hn ⊢
  unfold GSays
  cases hg : o.guard with
  | none => exact .inl ⟨rfl, rfl⟩
  | some gw =>
    obtain ⟨j, want⟩ := gw
    rw [hg] at hn
    simp only at hn ⊢
    cases hj : gslot ops j with
    | none => rw [hj] at hn; exact absurd rfl (hn 122)
    | some t =>
      rw [hj] at hn
      simp only at hn ⊢
      have hn' : NF (guardC (resT L e t) want (runOp c rec ((dstOf L o.dst).k r.run rec)) ((dstOf L o.dst).k r.run rec (.tup [])) vars stk H) := hn
      rcases guard_inv hn' with ⟨h1, h2⟩ | ⟨h1, h2⟩
      · exact .inl ⟨⟨t, rfl, .inl ⟨trivial, h1⟩⟩, h2⟩
      · refine .inr ⟨⟨t, rfl, .inr ⟨trivial, h1⟩⟩, ?_⟩
        exact h2.trans (dst_k _ _ _ _)

/-- the next operation in the evaluator's order may wait: it is carried out there, and waits -/
theorem advance {c : Nat} (hall : ∀ (j : Nat) (o : Oper), ops[j]? = some o → opIn N o = true) (hN : N ≤ slotD) (I : Inv P rec ops L N Q ρ₀ h₀ w₀ ex fuel pre (c :: post) M listed e vars stk H pend ρ a w) {o : Oper} (ho : ops[c]? = some o) (hfl : isFloat o.op = true) :
    ∃ e' vars' stk' H' pend' v p, Inv P rec ops L N Q ρ₀ h₀ w₀ ex fuel (c :: pre) post (⟨c, o, v, sig L e vars stk, p⟩ :: M) listed e' vars' stk' H' pend' ρ a w := by
  have hin := hall c o ho
  have hn := I.nf
  have hg := I.good
  have he := I.env
  unfold cOpsD at hn hg
  unfold opsED at he
  rw [ho] at hn hg he
  simp only at hn hg he
  unfold envOf at he
  cases hal : aliasOf L e o with
  | some e' =>
    rw [hal] at hn hg he
    simp only at hn hg he
    obtain ⟨x, t, hgd, hop, hd, hwf, hsg⟩ := sig_alias (vars := vars) (stk := stk) I.wf hal (fun x hx => opIn_ops hin x (by rw [hx]; simp [Op.operands]))
    refine ⟨e', vars, stk, H, pend, (res L e x).ev vars stk, none, adv_core hall I ho hfl hwf (fun u => ?_) ?_ (.inl ⟨rfl, rfl⟩) (fun _ h => h) (.inr fun H'' _ => ?_) I.dfr hn he hg⟩
    · rw [hsg u, hd]
      by_cases hu : u = t
      · subst hu; rw [if_pos rfl]; exact ⟨fun _ => .inl rfl, fun h => absurd rfl h⟩
      · rw [if_neg hu]; exact ⟨fun h => by cases h; exact absurd rfl hu, fun _ => .inl rfl⟩
    · refine .run ?_ e vars stk _ (fun _ _ => .inl rfl) ?_ ?_
      · unfold GSays; rw [hgd]
      · rw [hop]; rfl
      · intro rec k; rw [hop]; rfl
    · refine .run ?_ e vars stk _ (fun _ _ => .inl rfl) ?_ ?_
      · unfold GSays; rw [hgd]
      · rw [hop]; rfl
      · intro rec k; rw [hop]; rfl
  | none =>
    rw [hal] at hn hg he
    simp only [hfl] at hn hg he
    have hwf := wf_after I.wf o.dst
    have hsg := fun v u => sig_after (vars := vars) (stk := stk) I.wf o.dst v u
    have hdf := fun v => DefOk.put' hN (a := a) (a' := a) rfl I.dfr o.dst (opIn_dst hin) v
    have skipF : GSays ops o (sig L e vars stk) false → ∀ H'', Fact P L ops H'' o (sig L e vars stk) (.tup []) none := fun h _ => .skip h
    cases hf : floatC (cOp P L e o.op) with
    | true =>
      rw [hf] at hn hg
      simp only at hn hg
      rcases guarded_run hn with ⟨h1, h2⟩ | ⟨h1, h2⟩
      · rw [h2] at hn hg
        obtain ⟨v, hv⟩ := float_ok hf hn
        have hv0 := hv H (fun _ _ _ h => h) rec ((dstOf L o.dst).k (cOpsD P L ops (Region.before ops) post (cond (memC (cOp P L e o.op)) (c :: pend) pend) (e.after (dstOf L o.dst))).run rec)
        rw [hv0, dst_k] at hn hg
        refine ⟨_, _, _, H, _, v, none, adv_core hall I ho hfl hwf (hsg v) ?_ (.inl ⟨rfl, rfl⟩) (fun x hx => ?_) ?_ (hdf v) hn he hg⟩
        · exact .run h1 e vars stk v (fun _ _ => .inl rfl) hf fun rec' k' => hv H (fun _ _ _ h => h) rec' k'
        · cases memC (cOp P L e o.op) with
          | true => exact List.mem_cons_of_mem _ hx
          | false => exact hx
        · cases hm : memC (cOp P L e o.op) with
          | true => exact .inl List.mem_cons_self
          | false => exact .inr fun H'' _ => .run h1 e vars stk v (fun _ _ => .inl rfl) hf fun rec' k' => hv H'' (fun hh => by rw [hm] at hh; cases hh) rec' k'
      · rw [h2] at hn hg
        refine ⟨_, _, _, H, _, .tup [], none, adv_core hall I ho hfl hwf (hsg _) (skipF h1 H) (.inl ⟨rfl, rfl⟩) (fun x hx => ?_) (.inr fun H'' _ => skipF h1 H'') (hdf _) hn he hg⟩
        cases memC (cOp P L e o.op) with
        | true => exact List.mem_cons_of_mem _ hx
        | false => exact hx
    | false =>
      rw [hf] at hn hg
      cases ha : allocC (cOp P L e o.op) with
      | false => rw [ha] at hn; exact absurd rfl (hn 155)
      | true =>
        rw [ha] at hn hg
        simp only at hn hg
        rcases guarded_run hn with ⟨h1, h2⟩ | ⟨h1, h2⟩
        · rw [h2] at hn hg
          obtain ⟨v, ob, hv⟩ := alloc_abs ha hn
          have hv0 := hv rec ((dstOf L o.dst).k (cOpsD P L ops (Region.before ops) post pend (e.after (dstOf L o.dst))).run rec)
          rw [hv0, dst_k] at hn hg
          have fct : ∀ H'' : AH, H''.obj H.nx = some ob → Fact P L ops H'' o (sig L e vars stk) v (some H.nx) := fun H'' hob => .alloc h1 e vars stk v H ob (fun _ _ => .inl rfl) ha hv hob
          have hob : (H.new ob).obj H.nx = some ob := by rw [AH.obj_new, if_pos rfl]
          exact ⟨_, _, _, H.new ob, pend, v, some H.nx, adv_core hall I ho hfl hwf (hsg v) (fct _ hob) (.inr ⟨ob, rfl, rfl⟩) (fun _ h => h) (.inr fun H'' hq => fct H'' (by rw [hq _ rfl]; exact hob)) (hdf v) hn he hg⟩
        · rw [h2] at hn hg
          exact ⟨_, _, _, H, _, .tup [], none, adv_core hall I ho hfl hwf (hsg _) (skipF h1 H) (.inl ⟨rfl, rfl⟩) (fun _ h => h) (.inr fun H'' _ => skipF h1 H'') (hdf _) hn he hg⟩

/-- what the checks say -/
theorem chks_inv {r : CI} : ∀ (js : List Nat), NF ((cChks P L ops e r js).run rec vars stk H) → (cChks P L ops e r js).run rec vars stk H = r.run rec vars stk H ∧
    ∀ j ∈ js, ∃ o t, ops[j]? = some o ∧ o.dst = some t ∧ (GSays ops o (sig L e vars stk) false ∨ (GSays ops o (sig L e vars stk) true ∧ floatC (cOp P L e o.op) = true ∧ sig L e vars stk t ≠ .undef ∧
      ∀ (rec' : Rec) (k' : K), runOp (cOp P L e o.op) rec' k' vars stk H = k' (sig L e vars stk t) vars stk H)) := by
  intro js
  induction js with
  | nil => intro hn; exact ⟨rfl, fun j hj => by cases hj⟩
  | cons j js ih =>
    intro hn
    unfold cChks at hn ⊢
    cases ho : ops[j]? with
    | none => rw [ho] at hn; exact absurd rfl (hn 154)
    | some o =>
      rw [ho] at hn
      simp only at hn ⊢
      cases hd : o.dst with
      | none => rw [hd] at hn; exact absurd rfl (hn 153)
      | some t =>
        rw [hd] at hn
        simp only at hn ⊢
        by_cases hf : floatC (cOp P L e o.op) = true
        · rw [if_pos hf] at hn ⊢
          have one : ∀ {nx : List AV → List AV → AH → R}, NF (runOp (cOp P L e o.op) rec (sameK (resT L e t) nx) vars stk H) → runOp (cOp P L e o.op) rec (sameK (resT L e t) nx) vars stk H = nx vars stk H ∧ sig L e vars stk t ≠ .undef ∧
              ∀ (rec' : Rec) (k' : K), runOp (cOp P L e o.op) rec' k' vars stk H = k' (sig L e vars stk t) vars stk H := by
            intro nx hn
            obtain ⟨v, hv⟩ := float_ok hf hn
            have hv0 := hv H (fun _ _ _ h => h)
            rw [hv0] at hn ⊢
            obtain ⟨c1, c2⟩ := ifR_inv (show NF (ifR (sameF 9 v ((resT L e t).ev vars stk)) (nx vars stk H)) from hn)
            have he := sameF_eq _ _ _ c1
            refine ⟨c2, fun hu => ?_, fun rec' k' => by rw [hv0, he]; rfl⟩
            have hu : (resT L e t).ev vars stk = .undef := hu
            rw [hu] at c1
            cases v <;> cases c1
          cases hg : o.guard with
          | none =>
            rw [hg] at hn
            simp only at hn ⊢
            have hn' : NF (runOp (cOp P L e o.op) rec (sameK (resT L e t) ((cChks P L ops e r js).run rec)) vars stk H) := hn
            obtain ⟨a1, a2, a3⟩ := one hn'
            have hn2 : NF ((cChks P L ops e r js).run rec vars stk H) := by rw [← a1]; exact hn'
            obtain ⟨b1, b2⟩ := ih hn2
            refine ⟨a1.trans b1, fun j' hj' => ?_⟩
            rcases List.mem_cons.1 hj' with rfl | hj'
            · exact ⟨o, t, ho, hd, .inr ⟨by unfold GSays; rw [hg], hf, a2, a3⟩⟩
            · exact b2 j' hj'
          | some gw =>
            obtain ⟨g, want⟩ := gw
            rw [hg] at hn
            simp only at hn ⊢
            cases hu : gslot ops g with
            | none => rw [hu] at hn; exact absurd rfl (hn 151)
            | some u =>
              rw [hu] at hn
              simp only at hn ⊢
              have hn' : NF (guardC (resT L e u) want (runOp (cOp P L e o.op) rec (sameK (resT L e t) ((cChks P L ops e r js).run rec))) ((cChks P L ops e r js).run rec) vars stk H) := hn
              rcases guard_inv hn' with ⟨h1, h2⟩ | ⟨h1, h2⟩
              · rw [h2] at hn'
                obtain ⟨a1, a2, a3⟩ := one hn'
                have hn2 : NF ((cChks P L ops e r js).run rec vars stk H) := by rw [← a1]; exact hn'
                obtain ⟨b1, b2⟩ := ih hn2
                refine ⟨(h2.trans a1).trans b1, fun j' hj' => ?_⟩
                rcases List.mem_cons.1 hj' with rfl | hj'
                · exact ⟨o, t, ho, hd, .inr ⟨by unfold GSays; rw [hg]; exact ⟨u, hu, .inl ⟨rfl, h1⟩⟩, hf, a2, a3⟩⟩
                · exact b2 j' hj'
              · rw [h2] at hn'
                obtain ⟨b1, b2⟩ := ih hn'
                refine ⟨h2.trans b1, fun j' hj' => ?_⟩
                rcases List.mem_cons.1 hj' with rfl | hj'
                · exact ⟨o, t, ho, hd, .inl (by unfold GSays; rw [hg]; exact ⟨u, hu, .inr ⟨rfl, h1⟩⟩)⟩
                · exact b2 j' hj'
        · rw [if_neg hf] at hn; exact absurd rfl (hn 152)
end
end Go.Ev
namespace Go.Ev
set_option autoImplicit false
variable [Rounds]
open Go

section
variable {P : Program} {ρ : Emb} {h : AH} {w : World} {k : K} {vars stk vars' stk' : List AV} {L : List Nat} {N : Nat} {ops : Array Oper} {Q : Exit → Act → World → Prop} {rec : Rec}
  {ρ₀ : Emb} {h₀ : AH} {w₀ : World} {ex e e' : SEnv} {fuel : Nat} {pre post pend pend' : List Nat} {M : List Ms} {listed : Array Bool} {H H' : AH} {a : Act}

/-- an operation with an effect -/
theorem spine {c : Nat} (hrec : RecOk P rec) (hall : ∀ (j : Nat) (o : Oper), ops[j]? = some o → opIn N o = true) (hN : N ≤ slotD) (I : Inv P rec ops L N Q ρ₀ h₀ w₀ ex (fuel + 1) pre (c :: post) M listed e vars stk H pend ρ a w) {o : Oper} (ho : ops[c]? = some o)
    (hfl : isFloat o.op = false) (hr : c ∈ Region.ready .any ops listed)
    (next : ∀ listed' e' vars' stk' H' pend' ρ' a' w', Inv P rec ops L N Q ρ₀ h₀ w₀ ex fuel (c :: pre) post M listed' e' vars' stk' H' pend' ρ' a' w' → listed' = listed.setIfInBounds c true → wpAny P .any ops Q fuel listed' a' w') :
    wpOp P ops Q c (wpAny P .any ops Q fuel (listed.setIfInBounds c true)) a w := by
  have hin := hall c o ho
  obtain ⟨o', ho', c1, c2, c3, c3s, c4, c5, hgo⟩ := regGo_inv I.go
  rw [ho] at ho'; cases ho'
  have hc : c ∉ pre := fun hm => I.disj c hm List.mem_cons_self
  have hnd := List.nodup_cons.1 I.pnd
  have cne : ∀ m ∈ M, m.j ≠ c := fun m hm he => hc (he ▸ (I.mem m hm).1)
  have hlt : c < listed.size := by rw [I.lsz]; exact (Array.getElem?_eq_some_iff.1 ho).1
  obtain ⟨_, o', ho', hpreds⟩ := mem_ready.1 hr
  rw [ho] at ho'; cases ho'
  have gd := fun j => getD_set (listed := listed) (k := kAll) rfl (j := j) hlt
  have cl' : Closed ops (fun i => (listed.setIfInBounds c true).getD i false = true) := by
    intro i o2 ho2 hi ed hed hb
    show (listed.setIfInBounds c true).getD ed.on false = true
    rw [gd]
    split
    · rfl
    · have hi' : (listed.setIfInBounds c true).getD i false = true := hi
      rw [gd] at hi'
      split at hi'
      · rename_i hij
        subst hij
        rw [ho] at ho2; cases ho2
        exact hpreds ed hed hb
      · exact I.cl i o2 ho2 hi' ed hed hb
  have notanc : ∀ m ∈ M, ¬ ((Region.before ops).getD c 0).testBit m.j = true := by
    intro m hm hb
    have h1 : (listed.setIfInBounds c true).getD m.j false = true := before_ok ops _ cl' hb (by show (listed.setIfInBounds c true).getD c false = true; rw [gd, if_pos rfl])
    rw [gd, if_neg (cne m hm)] at h1
    exact (I.lst2 m.j h1).2 m hm rfl
  have mdst : ∀ m ∈ M, ∀ t, o.dst = some t → m.o.dst ≠ some t ∧ t ∉ m.o.looksAt ops := by
    intro m hm t ht
    rcases c3s hfl t ht m.j (I.mem m hm).1 with h | h
    · exact absurd h (notanc m hm)
    · exact h m.o (I.mem m hm).2
  have looks : ∀ t ∈ o.looksAt ops, RV ρ (sig L e vars stk t) (a.eval (.tmp t)) := by
    intro t ht
    refine (I.cur t (looks_lt hall ho ht)).2 fun m hm hd => notanc m hm (c4 t ht m.j (I.mem m hm).1 m.o (I.mem m hm).2 hd)
  have hdb : ∀ u, o.dst = some u → u < a.tmps.size := fun u hu => by rw [I.size]; exact opIn_dst hin u hu
  have hn := I.nf
  have hg := I.good
  have he := I.env
  unfold cOpsD at hn hg
  unfold opsED at he
  rw [ho] at hn hg he
  simp only at hn hg he
  have hal : aliasOf L e o = none := by
    cases hal : aliasOf L e o with
    | none => rfl
    | some e' =>
      obtain ⟨_, x, t, hop, _⟩ := alias_inv hal
      rw [hop] at hfl; cases hfl
  unfold envOf at he
  rw [hal] at hn hg he
  simp only [hfl] at hn hg he
  cases hst : stepC (cOp P L e o.op) with
  | false => rw [hst] at hn; exact absurd rfl (hn 156)
  | true =>
  rw [hst] at hn hg
  simp only at hn hg
  have fin : ∀ (v : AV) (h' : AH) (ρ' : Emb) (w' : World) (y : Value), Stp ρ H w ρ' h' w' → RV ρ' v y →
      NF ((cChks P L ops (e.after (dstOf L o.dst)) (cOpsD P L ops (Region.before ops) post (pend.filter fun j => !((Region.before ops).getD c 0).testBit j) (e.after (dstOf L o.dst))) (pend.filter fun j => !((Region.before ops).getD c 0).testBit j)).run rec ((dstOf L o.dst).vs v vars) ((dstOf L o.dst).ss v stk) h') →
      GoodR L N Q ρ₀ h₀ w₀ ex ((cChks P L ops (e.after (dstOf L o.dst)) (cOpsD P L ops (Region.before ops) post (pend.filter fun j => !((Region.before ops).getD c 0).testBit j) (e.after (dstOf L o.dst))) (pend.filter fun j => !((Region.before ops).getD c 0).testBit j)).run rec ((dstOf L o.dst).vs v vars) ((dstOf L o.dst).ss v stk) h') →
      wpAny P .any ops Q fuel (listed.setIfInBounds c true) (a.put o.dst y) w' := by
    intro v h' ρ' w' y st hv hn' hg'
    obtain ⟨ceq, cf⟩ := chks_inv _ hn'
    rw [ceq] at hn' hg'
    have hsg := fun u => sig_after (vars := vars) (stk := stk) I.wf o.dst v u
    have unr : ∀ m ∈ M, ∀ q, m.pos = some q → ρ' q = none ∧ h'.obj q = H.obj q := fun m hm q hq => st.unr q (I.posn m hm q hq).2.2 (I.posn m hm q hq).1
    have now' : ∀ m ∈ M, ∀ t ∈ m.o.looksAt ops, sig L (e.after (dstOf L o.dst)) ((dstOf L o.dst).vs v vars) ((dstOf L o.dst).ss v stk) t = m.snap t ∨ sig L (e.after (dstOf L o.dst)) ((dstOf L o.dst).vs v vars) ((dstOf L o.dst).ss v stk) t = .undef := by
      intro m hm t ht
      rcases (hsg t).2 fun hd => (mdst m hm t hd).2 ht with h | h
      · rw [h]; exact I.now m hm t ht
      · exact .inr h
    have keep : ∀ {x : AV} {t : Nat}, o.dst ≠ some t → SI M ρ a x t → SI M ρ' (a.put o.dst y) x t := by
      intro x t hne s
      exact ⟨s.1, fun hno => by rw [put_other a y hdb hne]; exact (s.2 hno).mono st.le⟩
    have cur' : ∀ t, t < N → SI M ρ' (a.put o.dst y) (sig L (e.after (dstOf L o.dst)) ((dstOf L o.dst).vs v vars) ((dstOf L o.dst).ss v stk) t) t := by
      intro t ht
      by_cases hd : o.dst = some t
      · refine ⟨fun m hm hmd => absurd hmd (mdst m hm t hd).1, fun _ => ?_⟩
        rw [put_here a y hdb hd]
        rcases (hsg t).1 hd with h | h <;> rw [h]
        · exact hv
        · exact .undef _
      · rcases (hsg t).2 hd with h | h
        · rw [h]; exact keep hd (I.cur t ht)
        · rw [h]; exact ⟨fun _ _ _ => .inr rfl, fun _ => .undef _⟩
    have inpend : ∀ m ∈ M, m.j ∈ pend → m.j ∈ pend.filter fun j => !((Region.before ops).getD c 0).testBit j := by
      intro m hm hp
      refine List.mem_filter.2 ⟨hp, ?_⟩
      have := notanc m hm
      simpa using this
    have fact' : ∀ m ∈ M, Fact P L ops h' m.o m.snap m.val m.pos := by
      intro m hm
      have old := I.fact m hm
      obtain ⟨mj, mo, mval, msnap, mpos⟩ := m
      simp only at old ⊢
      cases old with
      | skip hg => exact .skip hg
      | alloc hg e0 v0 s0 _ h1 ob hs ha hr hobj =>
        exact .alloc hg e0 v0 s0 _ h1 ob hs ha hr (by rw [(unr _ hm _ rfl).2]; exact hobj)
      | run hg e0 v0 s0 _ hs hf hr =>
        rcases I.pers _ hm with hp | hp
        · obtain ⟨o2, t, h1, h2, h3⟩ := cf _ (inpend _ hm hp)
          have := (I.mem _ hm).2
          rw [h1] at this; cases this
          rcases h3 with h3 | ⟨h3, h4, h5, h6⟩
          · exact (GSays.both hg (h3.trans fun t ht => now' _ hm t ht)).elim
          · have hc := (cur' t (opIn_dst (hall _ _ h1) t h2)).1 _ hm h2
            rcases hc with hc | hc
            · have hc : mval = _ := hc
              rw [hc]
              exact .run (h3.trans fun t ht => now' _ hm t ht) _ _ _ _ (fun t ht => now' _ hm t ht) h4 h6
            · exact absurd hc h5
        · exact hp h' fun q hq => by cases hq
    refine next _ (e.after (dstOf L o.dst)) ((dstOf L o.dst).vs v vars) ((dstOf L o.dst).ss v stk) h' (pend.filter fun j => !((Region.before ops).getD c 0).testBit j) ρ' _ w' ?_ rfl
    refine { wf := wf_after I.wf o.dst, stp := I.stp.trans st, go := hgo, cover := ?_, disj := ?_, pnd := hnd.2, lst := ?_, lst2 := ?_, lsz := by rw [Array.size_setIfInBounds]; exact I.lsz, cl := cl', mem := fun m hm => ⟨List.mem_cons_of_mem _ (I.mem m hm).1, (I.mem m hm).2⟩,
             mnd := I.mnd, dep := I.dep, own := I.own, fact := fact', pers := ?_, snaps := fun m hm t ht => keep (fun hd => (mdst m hm t hd).2 ht) (I.snaps m hm t ht), cur := cur', now := now', posn := ?_, posd := I.posd,
             size := by rw [put_size]; exact I.size, dfr := ?_, nf := hn', env := he, good := hg', fuel := ?_ }
    · intro i hi
      rcases I.cover i hi with h | h
      · exact .inl (List.mem_cons_of_mem _ h)
      · rcases List.mem_cons.1 h with rfl | h
        · exact .inl List.mem_cons_self
        · exact .inr h
    · intro i hi hp
      rcases List.mem_cons.1 hi with rfl | hi
      · exact hnd.1 hp
      · exact I.disj i hi (List.mem_cons_of_mem _ hp)
    · intro i hi
      rw [gd]
      rcases List.mem_cons.1 hi with rfl | hi
      · exact .inl (if_pos rfl)
      · rcases I.lst i hi with h | h
        · left; split; rfl; exact h
        · exact .inr h
    · intro i hi
      rw [gd] at hi
      split at hi
      · rename_i hic
        subst hic
        exact ⟨List.mem_cons_self, cne⟩
      · obtain ⟨h1, h2⟩ := I.lst2 i hi
        exact ⟨List.mem_cons_of_mem _ h1, h2⟩
    · intro m hm
      rcases I.pers m hm with hp | hp
      · exact .inl (inpend m hm hp)
      · exact .inr fun H'' hq => hp H'' fun q hq' => by rw [hq q hq', (unr m hm q hq').2]
    · intro m hm q hq
      obtain ⟨p1, p2, p3⟩ := I.posn m hm q hq
      exact ⟨(unr m hm q hq).1, p2, Nat.lt_of_lt_of_le p3 st.nx⟩
    · exact DefOk.put' hN (by cases o.dst <;> rfl) (I.dfr.mono st.le) o.dst (opIn_dst hin) v
    · have := I.fuel
      simp only [List.length_cons] at this ⊢
      omega
  unfold wpOp
  simp only [ho]
  rcases guarded_run hn with ⟨h1, h2⟩ | ⟨h1, h2⟩
  · rw [if_pos (h1.wanted looks fun t ht => by rw [I.size]; exact looks_lt hall ho ht)]
    left
    rw [h2] at hn hg
    refine oper_ok hrec I.stp.rel o (operand_of (H := H) (snap := sig L e vars stk) (fun _ _ => .inl rfl) looks) rfl hst hn (fun v h' ρ' w' y a1 a2 a3 => ?_) (fun v h' ρ' w' y a1 a2 a3 => ?_)
    · rw [a1, dst_k] at hn hg
      exact fin v h' ρ' w' y a2 a3 hn hg
    · rw [a1] at hg
      have hpst : PSt L N ρ' vars a := by
        by_cases hsl : idxOf slotD L 0 = none
        · right
          have hd := I.dfr
          unfold DefOk at hd
          rw [hsl] at hd
          exact ⟨hsl, hd⟩
        left
        refine ⟨fun t ht => ?_, I.size, I.dfr.mono a2.le⟩
        unfold sig
        rw [resT_eq]
        show RV ρ' ((resOf 0 (idxOf t L 0) none).ev vars []) _
        cases hi : idxOf t L 0 with
        | none => exact .undef _
        | some i =>
          have hcur := (I.cur t ht).2 fun m hm hd => by
            rcases c5 hfl hsl m.j (I.mem m hm).1 with h | h
            · exact notanc m hm h
            · rw [h m.o t (I.mem m hm).2 hd] at hi; cases hi
          unfold sig at hcur
          rw [resT_var I.wf hi] at hcur
          exact hcur.mono a2.le
      exact hg ρ' w' a y (I.stp.trans a2) hpst a3
  · rw [if_neg (by rw [h1.wanted looks fun t ht => by rw [I.size]; exact looks_lt hall ho ht]; simp)]
    rw [h2] at hn hg
    exact fin (.tup []) H ρ w undef (Stp.refl I.stp.rel) (.tup [] #[] rfl (by simp)) hn hg

theorem find_it {c : Nat} (hrec : RecOk P rec) (hall : ∀ (j : Nat) (o : Oper), ops[j]? = some o → opIn N o = true) (hN : N ≤ slotD) (hr : c ∈ Region.ready .any ops listed)
    (next : ∀ pre post M listed' e vars stk H pend ρ a w, Inv P rec ops L N Q ρ₀ h₀ w₀ ex fuel pre post M listed' e vars stk H pend ρ a w → wpAny P .any ops Q fuel listed' a w) : ∀ (post : List Nat) {pre : List Nat} {M : List Ms} {e : SEnv} {vars stk : List AV} {H : AH} {pend : List Nat},
    Inv P rec ops L N Q ρ₀ h₀ w₀ ex (fuel + 1) pre post M listed e vars stk H pend ρ a w → c ∈ post → wpOp P ops Q c (wpAny P .any ops Q fuel (listed.setIfInBounds c true)) a w
  | [], _, _, _, _, _, _, _, _, hc => by cases hc
  | d :: post, pre, M, e, vars, stk, H, pend, I, hc => by
    obtain ⟨o, ho, c1, c2, _⟩ := regGo_inv I.go
    cases hfl : isFloat o.op with
    | true =>
      obtain ⟨e', vars', stk', H', pend', v, p, I'⟩ := advance hall hN I ho hfl
      rcases List.mem_cons.1 hc with rfl | hc
      · exact run_missing hall hN I' (m := ⟨c, o, v, sig L e vars stk, p⟩) List.mem_cons_self hr fun M' listed' ρ' a' w' I2 _ => next _ _ _ _ _ _ _ _ _ _ _ _ I2
      · exact find_it hrec hall hN hr next post I' hc
    | false =>
      rcases List.mem_cons.1 hc with rfl | hc
      · exact spine hrec hall hN I ho hfl hr fun listed' e' vars' stk' H' pend' ρ' a' w' I2 _ => next _ _ _ _ _ _ _ _ _ _ _ _ I2
      · exfalso
        obtain ⟨oj, hoj, ed, h1, h2, h3⟩ := c2 hfl c hc
        obtain ⟨_, o', ho', hpreds⟩ := mem_ready.1 hr
        rw [hoj] at ho'; cases ho'
        exact h3 (I.lst2 _ (hpreds ed h1 h2)).1

theorem draw_main {order : List Nat} (hrec : RecOk P rec) (hall : ∀ (j : Nat) (o : Oper), ops[j]? = some o → opIn N o = true) (hN : N ≤ slotD) (hgo : regGo L ops (Region.before ops) [] order = true) (hcov : ∀ i, i < ops.size → i ∈ order) :
    ∀ (fuel : Nat) (pre post : List Nat) (M : List Ms) (listed : Array Bool) (e : SEnv) (vars stk : List AV) (H : AH) (pend : List Nat) (ρ : Emb) (a : Act) (w : World),
    Inv P rec ops L N Q ρ₀ h₀ w₀ ex fuel pre post M listed e vars stk H pend ρ a w → wpAny P .any ops Q fuel listed a w := by
  intro fuel
  induction fuel with
  | zero =>
    intro pre post M listed e vars stk H pend ρ a w I
    have hf := I.fuel
    have hp : post = [] := List.length_eq_zero_iff.1 (by omega)
    have hM : M = [] := List.length_eq_zero_iff.1 (by omega)
    subst hp; subst hM
    refine ⟨?_, ?_⟩
    · cases hr : Region.ready .any ops listed with
      | nil => rfl
      | cons i l =>
        exfalso
        have hi : i ∈ Region.ready .any ops listed := by rw [hr]; exact List.mem_cons_self
        have hu := ready_unlisted hi
        obtain ⟨_, o, ho, _⟩ := mem_ready.1 hi
        rcases I.cover i (Array.getElem?_eq_some_iff.1 ho).1 with h | h
        · rcases I.lst i h with h | ⟨m, hm, _⟩
          · rw [hu] at h; cases h
          · cases hm
        · cases h
    · have hg := I.good
      have he := I.env
      unfold opsED at he
      unfold cOpsD at hg
      subst he
      exact hg ρ w a I.stp ⟨fun t ht => (I.cur t ht).2 (fun m hm => by cases hm), I.size, I.dfr⟩
  | succ fuel ih =>
    intro pre post M listed e vars stk H pend ρ a w I
    refine ⟨fun hr => ?_, fun i hi => ?_⟩
    · exfalso
      have hun : ∃ i, i < ops.size ∧ listed.getD i false = false := by
        have unl : ∀ i, (listed.getD i false = true → False) → listed.getD i false = false := fun i h => by
          cases hb : listed.getD i false with
          | false => rfl
          | true => exact (h hb).elim
        cases hp : post with
        | cons c l =>
          have hc : c ∈ post := by rw [hp]; exact List.mem_cons_self
          have hgo' := I.go
          rw [hp] at hgo'
          obtain ⟨o, ho, _⟩ := regGo_inv hgo'
          exact ⟨c, (Array.getElem?_eq_some_iff.1 ho).1, unl c fun h => I.disj c (I.lst2 c h).1 hc⟩
        | nil =>
          have hf := I.fuel
          rw [hp] at hf
          cases hM : M with
          | nil => rw [hM] at hf; simp at hf
          | cons m l =>
            have hm : m ∈ M := by rw [hM]; exact List.mem_cons_self
            exact ⟨m.j, (Array.getElem?_eq_some_iff.1 (I.mem m hm).2).1, unl _ fun h => (I.lst2 _ h).2 m hm rfl⟩
      obtain ⟨i, h1, h2⟩ := hun
      obtain ⟨j, hj⟩ := exists_ready (listed := listed) [] hgo (fun i hi => by cases hi) I.lsz ⟨i, hcov i h1, h2⟩
      rw [hr] at hj; cases hj
    · have hu := ready_unlisted hi
      obtain ⟨_, o, ho, _⟩ := mem_ready.1 hi
      rcases I.cover i (Array.getElem?_eq_some_iff.1 ho).1 with h | h
      · rcases I.lst i h with h | ⟨m, hm, rfl⟩
        · rw [hu] at h; cases h
        · exact run_missing hall hN I hm hi fun M' listed' ρ' a' w' I2 _ => ih _ _ _ _ _ _ _ _ _ _ _ _ I2
      · exact find_it hrec hall hN hi ih post I h

theorem draw_ok {id : Nat} {order : List Nat} (hrec : RecOk P rec) (hall : ∀ (j : Nat) (o : Oper), ops[j]? = some o → opIn N o = true) (hN : N ≤ slotD) (hm : P.follows .mixedOrders = true) (hok : regOk L ops order = true)
    (hn : NF ((cOpsD P L ops (Region.before ops) order [] e).run rec vars stk h)) (r : Rel ρ h w) (hw : WF L N e) (s : St L N ρ e vars stk a)
    (g : GoodR L N Q ρ h w (opsED L ops order e) ((cOpsD P L ops (Region.before ops) order [] e).run rec vars stk h)) : (Code.region id ops true).wp P Q a w := by
  unfold regOk at hok
  have o1 := Bool.and_eq_true_iff.1 hok
  have o2 := Bool.and_eq_true_iff.1 o1.2
  have o3 := Bool.and_eq_true_iff.1 o2.2
  have hlen := beq_iff.1 o1.1
  have hnd := nodupL_iff o2.1
  have hcov : ∀ i, i < ops.size → i ∈ order := by
    intro i hi
    have := o3.1
    rw [List.all_eq_true] at this
    exact memL_iff.1 (this i (List.mem_range.2 hi))
  have st := stp_same r { w with drawn := w.drawn + 1 } rfl rfl rfl rfl (Nat.le_succ _)
  refine wp_region_any hm (draw_main (ρ₀ := ρ) (h₀ := h) (w₀ := { w with drawn := w.drawn + 1 }) (ex := opsED L ops order e) hrec hall hN o3.2 hcov ops.size [] order [] (Array.replicate ops.size false) e vars stk h [] ρ a _ ?_)
  have un : ∀ i, (Array.replicate ops.size false).getD i false = true → False := by
    intro i hi
    rw [Array.getD_eq_getD_getElem?] at hi
    cases hq : (Array.replicate ops.size false)[i]? with
    | none => rw [hq] at hi; cases hi
    | some b =>
      rw [hq] at hi
      rw [Array.getElem?_replicate] at hq
      split at hq
      · cases hq; cases hi
      · cases hq
  exact ⟨hw, (Stp.refl st.rel : Stp ρ h { w with drawn := w.drawn + 1 } ρ h { w with drawn := w.drawn + 1 }), o3.2, fun i hi => .inr (hcov i hi), (fun i hi => by cases hi), hnd, (fun i hi => by cases hi), fun i hi => (un i hi).elim, by simp,
    fun i o _ hi => (un i hi).elim, (fun m hm => by cases hm), by simp, (fun m hm => by cases hm), (fun m hm => by cases hm), (fun m hm => by cases hm), (fun m hm => by cases hm), (fun m hm => by cases hm),
    fun t ht => ⟨(fun m hm => by cases hm), fun _ => s.env t ht⟩, (fun m hm => by cases hm), (fun m hm => by cases hm), (fun m hm => by cases hm), s.size, s.dfr, hn, rfl, g.step st, by simp [hlen]⟩
end
end Go.Ev
