/- A part of the proof that CheckEnds returns true at every number: EvPrim EvSort. Conditions: none. -/
import Derived.Test.YtbdgggffdcgjbaaGreatDoorE09
import Derived.Lib.Bytealg
set_option linter.all false
set_option linter.unusedVariables false
set_option linter.unusedSectionVars false
set_option linter.unusedSimpArgs false
namespace Go.Ev
set_option autoImplicit false
variable [Rounds]
open Go

/-! the two functions that have no body -/
noncomputable def pCmp (rec : Rec) (args : List AV) (h : AH) : CR :=
  match args with
  | [.str a la, .str b lb] => .ret (cond (sLt a la b lb) (.neg 0) (cond (sLt b lb a la) (.nat 1) (.nat 0))) h
  | _ => .fail 208
noncomputable def idxV : Option Nat → AV
  | some i => .nat i
  | none => .neg 0
noncomputable def pIdxB (rec : Rec) (args : List AV) (h : AH) : CR :=
  match args with
  | [.str a la, .byte c] => .ret (idxV (sFind c (la + 1) a la 0)) h
  | _ => .fail 209

theorem compareBytes_less : ∀ (a b : List UInt8), Go.Lib.compareBytes a b = if Op.bytesLess a b then -1 else if Op.bytesLess b a then 1 else 0
  | [], [] => by simp [Go.Lib.compareBytes, Op.bytesLess]
  | [], _ :: _ => by simp [Go.Lib.compareBytes, Op.bytesLess]
  | _ :: _, [] => by simp [Go.Lib.compareBytes, Op.bytesLess]
  | x :: a, y :: b => by
    unfold Go.Lib.compareBytes Op.bytesLess
    by_cases h1 : x < y
    · simp [h1]
    · by_cases h2 : y < x
      · have h3 : ¬ x = y := fun e => by subst e; exact h1 h2
        simp [h1, h2, h3]
      · have : x = y := UInt8.le_antisymm (UInt8.not_lt.1 h2) (UInt8.not_lt.1 h1)
        subst this
        simp [h1, compareBytes_less a b]

section
variable {P : Program} {ρ : Emb} {h : AH} {w : World}
theorem call_extern {f : FuncId} {fn : Func} {e : Array Value → Sem Value} (hf : P.funcs[f]? = some fn) (hname : (fn.name == "runtime.NumGoroutine") = false) (hb : fn.body = none) (h1 : Extern.findNext fn = none) (h2 : Extern.find fn = some e) {vs : Array Value} {v : Value}
    (he : (e vs).run P w = .ok v w) : (callFunc f vs).run P w = .ok (.value v) w := by
  have hm : ∀ m, (mark m).run P w = .ok () w := fun m => rfl
  simp only [callFunc, Sem.run_bind, run_program, Result.andThen_ok, hf, hname, hb, Bool.false_eq_true, if_false, Option.isNone_none, if_true, hm, h1, h2, he, Sem.run_pure]
theorem args2 {args : List AV} {vs : Array Value} {x y : AV} (ha : ArgsRel ρ [x, y] vs) : ∃ X Y, vs = #[X, Y] ∧ RV ρ x X ∧ RV ρ y Y := by
  have hl0 := ha.len
  obtain ⟨V0, V1, rfl⟩ : ∃ V0 V1, vs = #[V0, V1] := by
    have : vs.toList.length = 2 := by rw [Array.length_toList]; exact hl0.symm
    match hvl : vs.toList with
    | [a, b] => exact ⟨a, b, Array.ext' hvl⟩
    | [] => rw [hvl] at this; simp at this
    | [_] => rw [hvl] at this; simp at this
    | _ :: _ :: _ :: _ => rw [hvl] at this; simp at this
  exact ⟨V0, V1, rfl, ha.rel 0 _ V0 rfl rfl, ha.rel 1 _ V1 rfl rfl⟩
theorem cmp_prim {f : FuncId} {fn : Func} (hf : P.funcs[f]? = some fn) (hname : (fn.name == "runtime.NumGoroutine") = false) (hb : fn.body = none) (h1 : Extern.findNext fn = none) (h2 : Extern.find fn = some Extern.BytealgCompare.compare) : PrimOk P f pCmp := by
  intro rec hrec args h hn ρ w vs r ha
  unfold pCmp at hn ⊢
  split at hn
  case h_2 => exact absurd rfl (hn 208)
  rename_i a la b lb
  obtain ⟨X, Y, rfl, hx, hy⟩ := args2 (args := []) ha
  obtain ⟨s, rfl, s1, _, s3, s4⟩ := str_inv hx
  obtain ⟨t, rfl, t1, _, t3, t4⟩ := str_inv hy
  rw [call_extern hf hname hb h1 h2 (Go.Lib.run_compareString s t w)]
  refine ⟨_, h, ρ, rfl, Stp.refl r, ?_⟩
  have e1 : s.data.toList = strB a la := by cases hx with | str _ _ _ _ _ hs => exact hs
  have e2 : t.data.toList = strB b lb := by cases hy with | str _ _ _ _ _ hs => exact hs
  rw [e1, e2, compareBytes_less, ← sLt_eq, ← sLt_eq]
  cases sLt a la b lb with
  | true => exact .neg 0 (by unfold big; omega)
  | false =>
    cases sLt b lb a la with
    | true => exact .nat 1 (by unfold big; omega)
    | false => exact .nat 0 (by unfold big; omega)
theorem sFind_ok (c : Nat) (hc : c < 256) : ∀ (f a la i : Nat), la < f → (match sFind c f a la i with | some j => i ≤ j ∧ j < i + la ∧ Go.Lib.indexByte (strB a la) (UInt8.ofNat c) = (j - i : Nat) | none => Go.Lib.indexByte (strB a la) (UInt8.ofNat c) = -1)
  | 0, _, la, _, h => absurd h (Nat.not_lt_zero _)
  | f + 1, a, 0, i, _ => by simp [sFind, strB, Go.Lib.indexByte]
  | f + 1, a, la + 1, i, h => by
    have ih := sFind_ok c hc f (a / 256) la (i + 1) (by omega)
    unfold sFind
    rw [if_neg (Nat.succ_ne_zero la)]
    by_cases e : a % 256 = c
    · rw [if_pos e]
      refine ⟨Nat.le_refl _, by omega, ?_⟩
      show Go.Lib.indexByte (UInt8.ofNat (a % 256) :: _) _ = _
      rw [e]
      simp [Go.Lib.indexByte]
    · rw [if_neg e]
      have hne : (UInt8.ofNat (a % 256) == UInt8.ofNat c) = false := by
        rw [beq_eq_false_iff_ne]
        intro hh
        have := congrArg UInt8.toNat hh
        simp only [UInt8.toNat_ofNat'] at this
        omega
      have hs : Go.Lib.indexByte (strB a (la + 1)) (UInt8.ofNat c) = if Go.Lib.indexByte (strB (a / 256) la) (UInt8.ofNat c) == -1 then -1 else Go.Lib.indexByte (strB (a / 256) la) (UInt8.ofNat c) + 1 := by
        show Go.Lib.indexByte (UInt8.ofNat (a % 256) :: _) _ = _
        simp only [Go.Lib.indexByte, hne]
        rfl
      rw [show la + 1 - 1 = la by omega]
      rw [hs]
      cases hf : sFind c f (a / 256) la (i + 1) with
      | none => rw [hf] at ih; simp only at ih ⊢; rw [ih]; rfl
      | some j =>
        rw [hf] at ih
        simp only at ih ⊢
        obtain ⟨i1, i2, i3⟩ := ih
        refine ⟨by omega, by omega, ?_⟩
        rw [i3]
        have : ((((j - (i + 1) : Nat) : Int)) == -1) = false := by rw [beq_eq_false_iff_ne]; omega
        rw [this]
        simp only [Bool.false_eq_true, if_false]
        omega
theorem idx_prim {f : FuncId} {fn : Func} (hf : P.funcs[f]? = some fn) (hname : (fn.name == "runtime.NumGoroutine") = false) (hb : fn.body = none) (h1 : Extern.findNext fn = none) (h2 : Extern.find fn = some Extern.BytealgIndexByte.indexByte) : PrimOk P f pIdxB := by
  intro rec hrec args h hn ρ w vs r ha
  unfold pIdxB at hn ⊢
  split at hn
  case h_2 => exact absurd rfl (hn 209)
  rename_i a la c
  obtain ⟨X, Y, rfl, hx, hy⟩ := args2 (args := []) ha
  obtain ⟨s, rfl, s1, _, s3, s4⟩ := str_inv hx
  cases hy with
  | byte _ hc =>
  rw [call_extern hf hname hb h1 h2 (Go.Lib.run_indexByteString s c w)]
  refine ⟨_, h, ρ, rfl, Stp.refl r, ?_⟩
  have e1 : s.data.toList = strB a la := by cases hx with | str _ _ _ _ _ hs => exact hs
  rw [e1]
  have e2 : (c : Int).toNat.toUInt8 = UInt8.ofNat c := rfl
  rw [e2]
  have := sFind_ok c hc (la + 1) a la 0 (Nat.lt_succ_self _)
  cases hf : sFind c (la + 1) a la 0 with
  | none => rw [hf] at this; simp only at this; rw [this]; exact .neg 0 (by unfold big; omega)
  | some j =>
    rw [hf] at this
    simp only at this
    obtain ⟨_, h2, h3⟩ := this
    rw [h3, Nat.sub_zero]
    exact .nat j (by omega)
end
end Go.Ev
namespace Go.Ev
set_option autoImplicit false
variable [Rounds]
open Go

/-! ### plain facts of the evaluator's sorting -/
theorem pickJ_get (l : List AV) : ∀ (js : List Nat) (c : Nat), (pickJ l js)[c]? = (js[c]?).map fun j => nth j l
  | [], c => by simp [pickJ]
  | j :: js, 0 => rfl
  | j :: js, c + 1 => by simpa [pickJ] using pickJ_get l js c
theorem pickJ_len (l : List AV) : ∀ js : List Nat, (pickJ l js).length = js.length
  | [] => rfl
  | j :: js => by simp [pickJ, pickJ_len l js]
theorem rowsJ_get (js : List Nat) : ∀ (es : List (AV × AV)) (i : Nat), (rowsJ js es)[i]? = (es[i]?).map fun p => pickJ (avCells p.1 ++ avCells p.2) js
  | [], i => by simp [rowsJ]
  | (k, v) :: es, 0 => by simp [rowsJ, app_eq]
  | (k, v) :: es, i + 1 => by simpa [rowsJ] using rowsJ_get js es i
theorem rowsJ_len (js : List Nat) : ∀ es : List (AV × AV), (rowsJ js es).length = es.length
  | [] => rfl
  | (k, v) :: es => by simp [rowsJ, rowsJ_len js es]
theorem eqSyms_inv {q g : Pos} : ∀ {js : List Nat} {l : List AV}, eqSyms q g js l = true → l.length = js.length ∧ ∀ (c j : Nat), js[c]? = some j → l[c]? = some (.sym q g j)
  | [], [], _ => ⟨rfl, fun c j h => by simp at h⟩
  | [], a :: l, h => by simp [eqSyms] at h
  | j :: js, [], h => by simp [eqSyms] at h
  | j :: js, a :: l, h => by
    cases a with
    | sym q' g' j' =>
      simp only [eqSyms, Bool.and_eq_true, beq_iff] at h
      obtain ⟨⟨h1, h2⟩, h3, h4⟩ := h
      have h1 := posEq_eq' h1
      have h2 := posEq_eq' h2
      subst h1 h2 h3
      obtain ⟨i1, i2⟩ := eqSyms_inv h4
      refine ⟨by simp [i1], fun c j' hc => ?_⟩
      cases c with
      | zero => simp at hc; simp [hc]
      | succ c => simpa using i2 c j' (by simpa using hc)
    | _ => simp [eqSyms] at h
theorem rowSyms_inv {q : Pos} {js : List Nat} : ∀ {gs : List Pos} {cs : List (List AV)}, rowSyms q js gs cs = true → cs.length = gs.length ∧ ∀ (i : Nat) (g : Pos) (c : List AV), gs[i]? = some g → cs[i]? = some c → eqSyms q g js c = true
  | [], [], _ => ⟨rfl, fun i g c h => by simp at h⟩
  | [], a :: l, h => by simp [rowSyms] at h
  | g :: gs, [], h => by simp [rowSyms] at h
  | g :: gs, a :: l, h => by
    simp only [rowSyms, Bool.and_eq_true] at h
    obtain ⟨i1, i2⟩ := rowSyms_inv h.2
    refine ⟨by simp [i1], fun i g' c hg hc => ?_⟩
    cases i with
    | zero => simp at hg hc; subst hg hc; exact h.1
    | succ i => exact i2 i g' c (by simpa using hg) (by simpa using hc)
theorem ltRow_inv {rec : Rec} {g : FuncId} {nx : Pos} {a : List AV} : ∀ {l : List (List AV)} {bs : List Bool}, ltRow rec g nx a l = some bs → bs.length = l.length ∧ ∀ (i : Nat) (b : List AV), l[i]? = some b → ∃ z, cmpAV rec g nx a b = some z ∧ bs[i]? = some (decide (z < 0))
  | [], bs, h => by cases h; exact ⟨rfl, fun i b h => by simp at h⟩
  | b :: r, bs, h => by
    unfold ltRow at h
    cases hc : cmpAV rec g nx a b with
    | none => rw [hc] at h; cases h
    | some z =>
      rw [hc] at h
      have key : ∃ l, ltRow rec g nx a r = some l ∧ bs = decide (z < 0) :: l := by
        cases z with
        | ofNat n =>
          simp only at h
          cases hr : ltRow rec g nx a r with
          | none => rw [hr] at h; cases h
          | some l => rw [hr] at h; cases h; exact ⟨l, rfl, by simp⟩
        | negSucc n =>
          simp only at h
          cases hr : ltRow rec g nx a r with
          | none => rw [hr] at h; cases h
          | some l => rw [hr] at h; cases h; exact ⟨l, rfl, by simp⟩
      obtain ⟨l, hl, rfl⟩ := key
      obtain ⟨i1, i2⟩ := ltRow_inv hl
      refine ⟨by simp [i1], fun i b' hb => ?_⟩
      cases i with
      | zero => simp at hb; subst hb; exact ⟨z, hc, rfl⟩
      | succ i => obtain ⟨z', z1, z2⟩ := i2 i b' (by simpa using hb); exact ⟨z', z1, by simpa using z2⟩
theorem ltRows_inv {rec : Rec} {g : FuncId} {nx : Pos} {all : List (List AV)} : ∀ {l : List (List AV)} {m : List (List Bool)}, ltRows rec g nx all l = some m → m.length = l.length ∧ ∀ (i : Nat) (a : List AV), l[i]? = some a → ∃ bs, m[i]? = some bs ∧ ltRow rec g nx a all = some bs
  | [], m, h => by cases h; exact ⟨rfl, fun i b h => by simp at h⟩
  | a :: r, m, h => by
    unfold ltRows at h
    cases hc : ltRow rec g nx a all with
    | none => rw [hc] at h; cases h
    | some bs =>
      rw [hc] at h
      simp only at h
      cases hr : ltRows rec g nx all r with
      | none => rw [hr] at h; cases h
      | some m' =>
        rw [hr] at h
        cases h
        obtain ⟨i1, i2⟩ := ltRows_inv hr
        refine ⟨by simp [i1], fun i b' hb => ?_⟩
        cases i with
        | zero => simp at hb; subst hb; exact ⟨bs, rfl, hc⟩
        | succ i => obtain ⟨z', z1, z2⟩ := i2 i b' (by simpa using hb); exact ⟨z', by simpa using z1, z2⟩
theorem chkRow_inv {k : Nat} : ∀ {l : List Bool} {ns : List Nat}, chkRow k l ns = true → l.length = ns.length ∧ ∀ (i n : Nat) (b : Bool), l[i]? = some b → ns[i]? = some n → b = decide (n < k)
  | [], [], _ => ⟨rfl, fun i n b h => by simp at h⟩
  | [], a :: l, h => by simp [chkRow] at h
  | b :: l, [], h => by simp [chkRow] at h
  | b :: l, n :: ns, h => by
    simp only [chkRow, Bool.and_eq_true] at h
    obtain ⟨i1, i2⟩ := chkRow_inv h.2
    refine ⟨by simp [i1], fun i n' b' hb hn => ?_⟩
    cases i with
    | zero =>
      simp at hb hn
      subst hb hn
      have h1 := h.1
      cases hle : Nat.ble (Nat.succ n) k with
      | true =>
        rw [hle] at h1
        have : n < k := ble_iff.1 hle
        simp [this]; exact h1
      | false =>
        rw [hle] at h1
        have : ¬ n < k := fun h => by rw [ble_iff.2 h] at hle; cases hle
        simp [this]
        have h1 : (!b) = true := h1
        simpa using h1
    | succ i => exact i2 i n' b' (by simpa using hb) (by simpa using hn)
theorem chkRows_inv {ns : List Nat} : ∀ {m : List (List Bool)} {ks : List Nat}, chkRows ns m ks = true → m.length = ks.length ∧ ∀ (i k : Nat) (l : List Bool), m[i]? = some l → ks[i]? = some k → chkRow k l ns = true
  | [], [], _ => ⟨rfl, fun i k b h => by simp at h⟩
  | [], a :: l, h => by simp [chkRows] at h
  | b :: l, [], h => by simp [chkRows] at h
  | b :: l, k :: ks, h => by
    simp only [chkRows, Bool.and_eq_true] at h
    obtain ⟨i1, i2⟩ := chkRows_inv h.2
    refine ⟨by simp [i1], fun i n' b' hb hn => ?_⟩
    cases i with
    | zero => simp at hb hn; subst hb hn; exact h.1
    | succ i => exact i2 i n' b' (by simpa using hb) (by simpa using hn)
theorem idxN_inv {x : Nat} : ∀ {l : List Nat} {i r : Nat}, idxN x l i = some r → i ≤ r ∧ l[r - i]? = some x
  | [], i, r, h => by cases h
  | y :: l, i, r, h => by
    unfold idxN at h
    cases hb : Nat.beq x y with
    | true =>
      rw [hb] at h
      cases h
      rw [beq_iff.1 hb]
      exact ⟨Nat.le_refl _, by simp⟩
    | false =>
      rw [hb] at h
      obtain ⟨i1, i2⟩ := idxN_inv (l := l) (i := i + 1) (r := r) h
      refine ⟨by omega, ?_⟩
      rw [show r - i = (r - (i + 1)) + 1 by omega, List.getElem?_cons_succ]; exact i2
theorem ordN_inv {ks : List Nat} : ∀ {n : Nat} {o : List Nat}, ordN ks n = some o → o.length = n ∧ ∀ p, p < n → ∃ i, o[p]? = some i ∧ ks[i]? = some (n - 1 - p)
  | 0, o, h => by cases h; exact ⟨rfl, fun p h => absurd h (Nat.not_lt_zero _)⟩
  | n + 1, o, h => by
    unfold ordN at h
    cases hi : idxN n ks 0 with
    | none => rw [hi] at h; cases h
    | some i =>
      rw [hi] at h
      simp only at h
      cases hr : ordN ks n with
      | none => rw [hr] at h; cases h
      | some l =>
        rw [hr] at h
        cases h
        obtain ⟨i1, i2⟩ := ordN_inv hr
        refine ⟨by simp [i1], fun p hp => ?_⟩
        cases p with
        | zero => exact ⟨i, rfl, by have := (idxN_inv hi).2; simpa using this⟩
        | succ p =>
          obtain ⟨j, j1, j2⟩ := i2 p (by omega)
          exact ⟨j, by simpa using j1, by rw [j2]; congr 1; omega⟩
theorem nthL_eq : ∀ (i : Nat) (l : List (List AV)), nthL i l = l.getD i []
  | i, [] => by cases i <;> simp [nthL]
  | 0, a :: l => rfl
  | i + 1, a :: l => by simpa [nthL] using nthL_eq i l
theorem rowsAt_get (rows : List (List AV)) : ∀ (o : List Nat) (p : Nat), (rowsAt rows o)[p]? = (o[p]?).map fun i => rows.getD i []
  | [], p => by simp [rowsAt]
  | i :: o, 0 => by simp [rowsAt, nthL_eq]
  | i :: o, p + 1 => by simpa [rowsAt] using rowsAt_get rows o p
theorem rowsAt_len (rows : List (List AV)) : ∀ (o : List Nat), (rowsAt rows o).length = o.length
  | [] => rfl
  | i :: o => by simp [rowsAt, rowsAt_len rows o]
theorem allOneA_inv : ∀ {l : List AV}, allOneA l = true → ∀ x ∈ l, avOne x = true
  | [], _ => fun x hx => by cases hx
  | a :: l, h => by
    simp only [allOneA, Bool.and_eq_true] at h
    intro x hx
    rcases List.mem_cons.1 hx with rfl | hx
    · exact h.1
    · exact allOneA_inv h.2 x hx
theorem allOneR_inv : ∀ {l : List (List AV)}, allOneR l = true → ∀ r ∈ l, ∀ x ∈ r, avOne x = true
  | [], _ => fun x hx => by cases hx
  | a :: l, h => by
    simp only [allOneR, Bool.and_eq_true] at h
    intro x hx
    rcases List.mem_cons.1 hx with rfl | hx
    · exact allOneA_inv h.1
    · exact allOneR_inv h.2 x hx
theorem cntsB_len : ∀ m : List (List Bool), (cntsB m).length = m.length
  | [] => rfl
  | l :: m => by simp [cntsB, cntsB_len m]
theorem perm_of_nodup : ∀ {s t : List Nat}, s.Nodup → t.Nodup → (∀ x, x ∈ s ↔ x ∈ t) → s.Perm t
  | [], t, _, _, h => by
    cases t with
    | nil => exact .refl _
    | cons a t => exact absurd ((h a).2 List.mem_cons_self) (by simp)
  | a :: s, t, hs, ht, h => by
    have ha : a ∈ t := (h a).1 List.mem_cons_self
    have hs' := List.nodup_cons.1 hs
    refine (List.Perm.cons a ?_).trans (List.perm_cons_erase ha).symm
    refine perm_of_nodup hs'.2 (ht.erase a) fun x => ?_
    rw [ht.mem_erase_iff]
    constructor
    · intro hx
      exact ⟨fun e => hs'.1 (e ▸ hx), (h x).1 (List.mem_cons_of_mem _ hx)⟩
    · rintro ⟨hx, ht⟩
      rcases List.mem_cons.1 ((h x).2 ht) with e | e
      · exact absurd e hx
      · exact e
/-- the one sorted order -/
theorem sorted_is {ks o d d' : List Nat} {n : Nat} (hks : ks.length = n) (ho : ordN ks n = some o) (hd : d.Nodup) (hdl : d.length = n) (hdn : ∀ x ∈ d, x < n) (hp : d'.Perm d) (hs : d'.Pairwise fun a b => ks.getD b 0 ≤ ks.getD a 0) :
    d' = o ∧ o.length = n ∧ ∀ x ∈ o, x < n := by
  obtain ⟨o1, o2⟩ := ordN_inv ho
  have oget : ∀ (p : Nat) (x : Nat), o[p]? = some x → p < n ∧ x < n ∧ ks.getD x 0 = n - 1 - p := by
    intro p x hx
    have hp : p < n := by rw [← o1]; exact (List.getElem?_eq_some_iff.1 hx).1
    obtain ⟨i, i1, i2⟩ := o2 p hp
    rw [hx] at i1
    cases i1
    refine ⟨hp, by rw [← hks]; exact (List.getElem?_eq_some_iff.1 i2).1, by simp [List.getD, i2]⟩
  have on : o.Pairwise fun a b => ks.getD b 0 < ks.getD a 0 := by
    rw [List.pairwise_iff_getElem]
    intro i j hi hj hij
    obtain ⟨a1, a2, a3⟩ := oget i _ (List.getElem?_eq_getElem hi)
    obtain ⟨b1, b2, b3⟩ := oget j _ (List.getElem?_eq_getElem hj)
    rw [a3, b3]; omega
  have onod : o.Nodup := on.imp fun {a b} h e => by rw [e] at h; omega
  have olt : ∀ x ∈ o, x < n := fun x hx => by
    obtain ⟨p, hp⟩ := List.mem_iff_getElem?.1 hx
    exact (oget p x hp).2.1
  have hr : ∀ (s : List Nat), s.Nodup → s.length = n → (∀ x ∈ s, x < n) → ∀ x, x ∈ s ↔ x < n := fun s h1 h2 h3 x =>
    ⟨h3 x, fun hx => nodup_cover s (List.range n) h1 (fun y hy => List.mem_range.2 (h3 y hy)) (by simp [h2]) x (List.mem_range.2 hx)⟩
  have hod : d.Perm o := perm_of_nodup hd onod fun x => by rw [hr d hd hdl hdn, hr o onod o1 olt]
  refine ⟨List.Perm.eq_of_pairwise (le := fun a b => ks.getD b 0 ≤ ks.getD a 0) ?_ hs (on.imp fun h => Nat.le_of_lt h) (hp.trans hod), o1, olt⟩
  intro a b ha hb h1 h2
  have ha' : a ∈ o := hod.mem_iff.1 (hp.mem_iff.1 ha)
  obtain ⟨pa, hpa⟩ := List.mem_iff_getElem?.1 ha'
  obtain ⟨pb, hpb⟩ := List.mem_iff_getElem?.1 hb
  obtain ⟨a1, a2, a3⟩ := oget pa _ hpa
  obtain ⟨b1, b2, b3⟩ := oget pb _ hpb
  have : pa = pb := by omega
  subst this
  rw [hpa] at hpb; exact Option.some.inj hpb
theorem exList {Q : Nat → Nat → Prop} : ∀ (n : Nat), (∀ i, i < n → ∃ a, Q i a) → ∃ l : List Nat, l.length = n ∧ ∀ (i a : Nat), l[i]? = some a → Q i a
  | 0, _ => ⟨[], rfl, fun i a h => by simp at h⟩
  | n + 1, h => by
    obtain ⟨l, l1, l2⟩ := exList n fun i hi => h i (by omega)
    obtain ⟨a, ha⟩ := h n (by omega)
    refine ⟨l ++ [a], by simp [l1], fun i b hb => ?_⟩
    rcases Nat.lt_or_ge i n with hi | hi
    · rw [List.getElem?_append_left (by omega)] at hb; exact l2 i b hb
    · rw [List.getElem?_append_right (by omega)] at hb
      have h0 : i = n := by
        have := (List.getElem?_eq_some_iff.1 hb).1
        simp at this; omega
      subst h0
      rw [l1, Nat.sub_self] at hb
      cases hb; exact ha
end Go.Ev
