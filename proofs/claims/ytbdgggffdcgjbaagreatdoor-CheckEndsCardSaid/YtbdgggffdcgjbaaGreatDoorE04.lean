/- A part of the proof that CheckEnds returns true at every number: EvOps18 EvDisp1 EvDisp2 EvFloat EvEnv. Conditions: none. -/
import Derived.Test.YtbdgggffdcgjbaaGreatDoorE03
import Derived.Laws.BytesArg
set_option linter.all false
set_option linter.unusedVariables false
set_option linter.unusedSectionVars false
set_option linter.unusedSimpArgs false
namespace Go.Ev
set_option autoImplicit false
variable [Rounds]
open Go

section
variable {P : Program} {ρ : Emb} {h : AH} {w : World} {k : K} {vars stk : List AV}
theorem strStr_ok (r : Rel ρ h w) {x : G} {X : Value} (hx : RV ρ (x.ev vars stk) X) {s d : TypeId} (hs : P.underlying s = some .string) (hd : P.underlying d = some .string) (hn : NF (strStrC x k vars stk h)) :
    OpOk ρ h w k vars stk (strStrC x k vars stk h) ((convert s d X).run P w) := by
  unfold strStrC at hn ⊢
  obtain ⟨n, ln, hv⟩ := onStr_inv hn
  rw [hv] at hx ⊢
  refine OpOk.same r (v := .str n ln) (y := X) rfl hx ?_
  cases hx
  simp [convert, run_underlying hs, run_underlying hd]
def nB : List Nat → Nat
  | [] => 0
  | c :: l => c + 256 * nB l
theorem nB_str : ∀ (xs : List Nat), (∀ x ∈ xs, x < 256) → nB xs = strNat (xs.map UInt8.ofNat)
  | [], _ => rfl
  | c :: l, hx => by
    have h1 := hx c List.mem_cons_self
    rw [nB, nB_str l fun x h => hx x (List.mem_cons_of_mem _ h)]
    simp [strNat, UInt8.toNat_ofNat', Nat.mod_eq_of_lt h1]
/-- bytes that are read one by one -/
theorem rdBytes_inv {b : Pos} : ∀ {n e r : Nat}, rdBytes b h n e = some r → ∃ xs : List Nat, xs.length = n ∧ r = nB xs ∧ ∀ j x, xs[j]? = some x → rd b (e + j) h = some [.byte x]
  | 0, e, r, hr => by cases hr; exact ⟨[], rfl, rfl, by simp⟩
  | n + 1, e, r, hr => by
    unfold rdBytes at hr
    split at hr
    · rename_i c hc
      cases h2 : rdBytes b h n (e + 1) with
      | none => rw [h2] at hr; cases hr
      | some q =>
        rw [h2] at hr
        obtain ⟨xs, x1, x2, x3⟩ := rdBytes_inv h2
        simp only [Option.map_some, Option.some.injEq] at hr
        refine ⟨c :: xs, by simp [x1], by rw [← hr, x2]; rfl, fun j x hj => ?_⟩
        cases j with
        | zero => cases hj; exact hc
        | succ j => rw [show e + (j + 1) = e + 1 + j by omega]; exact x3 j x hj
    · cases hr
theorem bytes_rel (xs : List Nat) (hx : ∀ x ∈ xs, x < 256) (hl : xs.length ≤ big) : RV ρ (.str (nB xs) xs.length) (.string (strOfNums (xs.map Int.ofNat))) := by
  have e1 : (strOfNums (xs.map Int.ofNat)).data.toList = xs.map UInt8.ofNat := by
    rw [strOfNums_data, List.map_map]; rfl
  rw [nB_str xs hx]
  refine .str _ _ ?_ hl _ ?_
  · have := strNat_lt (xs.map UInt8.ofNat); simpa using this
  · rw [e1]
    have := strB_strNat (xs.map UInt8.ofNat)
    rw [List.length_map] at this
    exact this.symm
theorem bytesStr_ok (r : Rel ρ h w) {x : G} {X : Value} (hx : RV ρ (x.ev vars stk) X) {s d e : TypeId} (hs : P.underlying s = some (.slice e)) (he : P.underlying e = some (.int .u8)) (hd : P.underlying d = some .string) (hn : NF (bytesStrC x k vars stk h)) :
    OpOk ρ h w k vars stk (bytesStrC x k vars stk h) ((convert s d X).run P w) := by
  unfold bytesStrC at hn ⊢
  split at hn
  · rename_i hv
    rw [hv] at hx
    cases hx
    exact OpOk.same r (v := .str 0 0) rfl (bytes_rel [] (by simp) (by simp)) (run_convert_bytes_nil w s e hs he _ _ d hd)
  · rename_i b e0 ln cap ex z hv
    rw [hv] at hx
    cases hx with
    | slice _ _ _ _ _ _ l hb hsz kb off cap' g1 g2 g3 g4 g5 g6 =>
    cases hr : rdBytes b h ln e0 with
    | none => rw [hr] at hn; exact absurd rfl (hn _)
    | some n =>
    obtain ⟨xs, x1, rfl, x3⟩ := rdBytes_inv hr
    have cells : ∀ (j x : Nat), xs[j]? = some x → x < 256 ∧ w.cell? ⟨kb, off + j, none⟩ = some (.int .u8 x) := by
      intro j x hj
      have hlt : j < ln := by rw [← x1]; exact (List.getElem?_eq_some_iff.1 hj).1
      obtain ⟨rfl, rfl⟩ := g4 (by omega)
      obtain ⟨sz, m, t, ho, hg⟩ := rd_inv (x3 j x hj)
      have ob := r.obj b _ ho l hb
      cases ob with
      | dat _ _ _ c el fr hw hsz' hlim hfr hin hnn hc =>
      obtain ⟨_, c2, c3⟩ := hc _ _ hg
      obtain ⟨y, y1, _, y3⟩ := c3 0 _ rfl
      have : l.sz = 1 := by rw [hsz', ← c2]; rfl
      rw [← hsz', this] at y1
      cases y3 with
      | byte _ hb8 =>
      refine ⟨hb8, ?_⟩
      have := cell_of hw y1
      rw [← this]; congr 2
      rw [‹l.sz = 1›]; omega
    subst x1
    refine OpOk.same r (v := .str (nB xs) xs.length) rfl (bytes_rel xs (fun x hm => ?_) g6) (run_convert_bytes_arg w s e hs he kb off xs.length cap' (xs.map Int.ofNat) (by simp) (fun i hi => ?_) d hd)
    · obtain ⟨j, hj⟩ := List.mem_iff_getElem?.1 hm
      exact (cells j x hj).1
    · rw [(cells i _ (List.getElem?_eq_getElem hi)).2]
      simp [List.getD, hi]
  · exact absurd rfl (hn _)
theorem clear_ok (r : Rel ρ h w) {x : G} {X : Value} (hx : RV ρ (x.ev vars stk) X) {t e ty : TypeId} (ht : P.underlying t = some (.slice e)) {z : AV} (hz : zeroA P e = some z) (hs : avOk (P.cellsOf e) z = true) (hn : NF (clearC (P.cellsOf e) (avCells z) x k vars stk h)) :
    OpOk ρ h w k vars stk (clearC (P.cellsOf e) (avCells z) x k vars stk h) ((Builtin.clear_ #[t] ty #[X]).run P w) := by
  obtain ⟨i, Z, hi, hZ, _, hzr⟩ := zero_cells (ρ := ρ) hz
  obtain ⟨hcl, hcr⟩ := avOk_cells hzr hs
  have hZs : Z.cells.size = P.cellsOf e := by rw [← hcr.1, hcl]
  unfold clearC at hn ⊢
  split at hn
  · rename_i hv
    rw [hv] at hx
    cases hx
    refine OpOk.same r (v := .tup []) (y := .tuple #[]) rfl (.tup [] #[] rfl (by simp)) ?_
    simp [Builtin.clear_, run_underlying ht]
  · rename_i b e0 ln cap ex z' hv
    rw [hv] at hx
    cases hx with
    | slice _ _ _ _ _ _ l hb hsz kb off cap' g1 g2 g3 g4 g5 g6 =>
    cases ho : h.obj b with
    | none => rw [ho] at hn; exact absurd rfl (hn _)
    | some o =>
    rw [ho] at hn
    cases o with
    | dat sz n t' =>
      simp only at hn ⊢
      obtain ⟨c1, e1⟩ := ifR_inv hn
      rw [e1]
      have c2 := Bool.and_eq_true_iff.1 c1
      have hz' := beq_iff.1 c2.1
      have hle : e0 + ln ≤ n := ble_iff.1 c2.2
      have ob := r.obj b _ ho l hb
      cases ob with
      | dat _ _ _ c el fr hw hsz' hlim hfr hin hnn hc =>
      subst hsz'
      subst hfr
      subst hz'
      rcases Nat.eq_zero_or_pos ln with h0 | h0
      · subst h0
        refine ⟨.tup [], _, ρ, w, .tuple #[], rfl, ?_, .tup [] #[] rfl (by simp), ?_⟩
        · exact stp_put r ho hb _ w rfl rfl rfl rfl (fun _ _ => rfl) (.dat _ _ _ c el (0, 0) hw rfl hlim rfl hin hnn hc)
        · simp [Builtin.clear_, run_underlying ht]
      · obtain ⟨rfl, rfl⟩ := g4 (by omega)
        have hsz2 : l.sz = P.cellsOf e := hsz
        have hnl : ((Builtin.zeroCells Z.cells ln).toList).length = ln * l.sz := by rw [Array.length_toList, zeroCells_size, hZs, hsz2]
        have hup : (e0 + ln) * l.sz ≤ n * l.sz := Nat.mul_le_mul_right _ hle
        rw [Nat.add_mul] at hup
        have hzg : ∀ q, q < ln * l.sz → (Builtin.zeroCells Z.cells ln).toList[q]? = Z.cells[q % l.sz]? := by
          intro q hq
          have hp : 0 < l.sz := by rcases Nat.eq_zero_or_pos l.sz with h | h; rw [h] at hq; omega; exact h
          have hm : q % l.sz < Z.cells.size := by rw [hZs, ← hsz2]; exact Nat.mod_lt _ hp
          simp only [Builtin.zeroCells, hZs, ← hsz2, Array.toList_map, Array.toList_range, List.getElem?_map, List.getElem?_range hq, Option.map_some]
          rw [Array.getElem?_eq_getElem hm, getElem!_pos Z.cells (q % l.sz) hm]
        have hone : ∀ v ∈ (Builtin.zeroCells Z.cells ln).toList, v.oneCell' = true := by
          intro v hv
          obtain ⟨q, hq⟩ := List.mem_iff_getElem?.1 hv
          have hlt : q < ln * l.sz := by rw [← hnl]; exact (List.getElem?_eq_some_iff.1 hq).1
          rw [hzg q hlt] at hq
          have hp : 0 < l.sz := by rcases Nat.eq_zero_or_pos l.sz with h | h; rw [h] at hlt; omega; exact h
          have hm : q % l.sz < (avCells z).length := by rw [hcl, ← hsz2]; exact Nat.mod_lt _ hp
          exact (hcr.2 _ _ v (List.getElem?_eq_getElem hm) hq).2
        have oat := onlyAt_cells hw (l.sh + e0 * l.sz) (Builtin.zeroCells Z.cells ln).toList
        refine ⟨.tup [], _, ρ, _, .tuple #[], rfl, oat.stp r ho hb _ (.dat _ _ _ _ el (0, 0) oat.at' rfl (by rw [setL_size]; exact hlim) rfl hin hnn ?_), .tup [] #[] rfl (by simp), ?_⟩
        · intro e1 ls he
          rw [getN_zero _ _ _ _ _ (by omega)] at he
          by_cases hc3 : e0 ≤ e1 ∧ e1 < e0 + ln
          · rw [if_pos hc3] at he
            cases he
            refine ⟨by omega, by rw [hcl, hsz2], fun i' a ha => ?_⟩
            have hi' : i' < l.sz := by rw [hsz2, ← hcl]; exact (List.getElem?_eq_some_iff.1 ha).1
            have hq : (e1 - e0) * l.sz + i' < ln * l.sz := row_lt (by omega) hi'
            have hzz : Z.cells[i']? = some (Z.cells[i']'(by rw [hZs, ← hsz2]; exact hi')) := Array.getElem?_eq_getElem _
            obtain ⟨r1, r2⟩ := hcr.2 i' a _ ha hzz
            refine ⟨_, ?_, r2, r1⟩
            have e5 : l.sh + e1 * l.sz + i' = l.sh + e0 * l.sz + ((e1 - e0) * l.sz + i') := by
              have : e1 * l.sz = e0 * l.sz + (e1 - e0) * l.sz := by rw [← Nat.add_mul]; congr 1; omega
              omega
            rw [e5]
            refine setL_in _ _ _ _ _ (by rw [hnl]; omega) ?_
            rw [hzg _ hq, ← hzz]; congr 1
            rw [Nat.mul_comm, Nat.mul_add_mod, Nat.mod_eq_of_lt hi']
          · rw [if_neg hc3] at he
            obtain ⟨d1, d2, d3⟩ := hc e1 ls he
            refine ⟨d1, d2, fun i' a ha => ?_⟩
            obtain ⟨y, y1, y2⟩ := d3 i' a ha
            have hi' : i' < l.sz := by rw [← d2]; exact (List.getElem?_eq_some_iff.1 ha).1
            refine ⟨y, ?_, y2⟩
            rw [setL_out _ _ _ _ ?_]; exact y1
            rw [hnl]
            rcases Nat.lt_or_ge e1 e0 with h3 | h3
            · left; have := row_lt h3 hi'; omega
            · right
              have : (e0 + ln) * l.sz ≤ e1 * l.sz := Nat.mul_le_mul_right _ (by omega)
              rw [Nat.add_mul] at this; omega
        · have hst := run_storeRow (P := P) hw (l.sh + e0 * l.sz) _ hone (by rw [hnl]; omega)
          have hne : ln ≠ 0 := by omega
          have := run_zero (P := P) (w := w) hi hZ
          cases ln with
          | zero => exact absurd rfl hne
          | succ ln => simp [Builtin.clear_, run_underlying ht, this, hst]
    | _ => exact absurd rfl (hn _)
  · exact absurd rfl (hn _)
theorem move_ok (r : Rel ρ h w) {x : G} {X : Value} (hx : RV ρ (x.ev vars stk) X) : OpOk ρ h w k vars stk (moveC x k vars stk h) (.ok X w) := OpOk.same r rfl hx rfl
end
end Go.Ev
namespace Go.Ev
set_option autoImplicit false
variable [Rounds]
open Go

/-- operations that neither call nor panic -/
def plainC : COp → Bool
  | .callS .. | .callV .. | .callM .. | .panic _ | .defer .. | .recover _ | .bad _ | .callY .. => false
  | _ => true
def NextOk (ρ : Emb) (h : AH) (w : World) (k : K) (vars stk : List AV) (r : R) (run : Result Next) : Prop :=
  ∃ v h' ρ' w' n, r = k v vars stk h' ∧ Stp ρ h w ρ' h' w' ∧ run = .ok n w' ∧ ((∃ y, n = .value y ∧ RV ρ' v y) ∨ (n = .skip ∧ v = .undef))

section
variable {P : Program} {ρ : Emb} {h : AH} {w : World} {k : K} {vars stk : List AV}
theorem next_v {r : R} {s : Sem Value} (a : OpOk ρ h w k vars stk r (s.run P w)) : NextOk ρ h w k vars stk r ((do pure (.value (← s)) : Sem Next).run P w) := by
  obtain ⟨v, h', ρ', w', y, h1, h2, h3, h4⟩ := a
  exact ⟨v, h', ρ', w', .value y, h1, h2, by simp only [Sem.run_bind, h4, Result.andThen_ok, Sem.run_pure], .inl ⟨y, rfl, h3⟩⟩
theorem next_u {r : R} {s : Sem Unit} (a : OpOkU ρ h w k vars stk r (s.run P w)) : NextOk ρ h w k vars stk r ((do s; pure .skip : Sem Next).run P w) := by
  obtain ⟨h', ρ', w', h1, h2, h4⟩ := a
  exact ⟨.undef, h', ρ', w', .skip, h1, h2, by simp only [Sem.run_bind, h4, Result.andThen_ok, Sem.run_pure], .inr ⟨rfl, rfl⟩⟩

/-- what the operands of an operation are -/
def EvOk (P : Program) (L : List Nat) (e : SEnv) (ρ : Emb) (vars stk : List AV) (ev : Operand → Value) (op : Op) : Prop := ∀ x ∈ op.operands, RV ρ ((res L e x).ev vars stk) (ev x)

theorem elemT_inv {t e : TypeId} (h : elemT P t = some e) : P.underlying t = some (.slice e) := by
  unfold elemT at h
  split at h
  · rename_i hu; cases h; exact hu
  · cases h
theorem builtin_ok (L : List Nat) (e : SEnv) (r : Rel ρ h w) {b : Builtin} {ts : Array TypeId} {args : List Operand} {ev : Operand → Value} (hev : ∀ x ∈ args, RV ρ ((res L e x).ev vars stk) (ev x)) {c : COp} (hc : cBuiltin P L b ts (args.map (res L e)) = c)
    (hp : plainC c = true) {rec : Rec} (hn : NF (runOp c rec k vars stk h)) (hsz : ts.size = args.length) (ty : TypeId) (cs : Array Bool) :
    NextOk ρ h w k vars stk (runOp c rec k vars stk h) ((builtin b ts ty cs (args.map ev).toArray).run P w) := by
  match args, hev, hsz with
  | [], _, _ => 
    cases b <;> simp only [List.map_nil, cBuiltin] at hc <;> (subst hc; cases hp)
  | [x], hev, hsz =>
    have hx := hev x (by simp)
    obtain ⟨t, rfl⟩ : ∃ t, ts = #[t] := by
      obtain ⟨l⟩ := ts
      match l, hsz with
      | [t], _ => exact ⟨t, rfl⟩
    cases b <;> simp only [List.map_cons, List.map_nil, cBuiltin] at hc <;> first | (subst hc; cases hp; done) | skip
    · split at hc <;> first | (subst hc; cases hp; done) | skip
      rename_i e' he'
      split at hc <;> first | (subst hc; cases hp; done) | skip
      rename_i z hz
      split at hc <;> first | (subst hc; cases hp; done) | skip
      rename_i hk
      subst hc
      exact next_v (clear_ok r hx (elemT_inv (by simpa using he')) hz hk hn)
    · have hd : ∀ d, (#[t] : Array TypeId)[0]?.bind P.underlying = some d → P.underlying t = some d := fun d h => by simpa using h
      split at hc <;> first | (subst hc; cases hp; done) | skip
      all_goals rename_i hu; subst hc
      · exact next_v (len_ok r hx rfl (hd _ hu) (lk := .str) rfl hn)
      · exact next_v (len_ok r hx rfl (hd _ hu) (lk := .slice) ⟨_, rfl⟩ hn)
      · exact next_v (len_ok r hx rfl (hd _ hu) (lk := .map) ⟨_, _, rfl⟩ hn)
  | [x, y], hev, hsz =>
    have hx := hev x (by simp)
    have hy := hev y (by simp)
    obtain ⟨t, u, rfl⟩ : ∃ t u, ts = #[t, u] := by
      obtain ⟨l⟩ := ts
      match l, hsz with
      | [t, u], _ => exact ⟨t, u, rfl⟩
    cases b <;> simp only [List.map_cons, List.map_nil, cBuiltin] at hc <;> first | (subst hc; cases hp; done) | skip
    · split at hc <;> first | (subst hc; cases hp; done) | skip
      rename_i e' he'
      split at hc <;> first | (subst hc; cases hp; done) | skip
      rename_i z i hz hi
      split at hc <;> first | (subst hc; cases hp; done) | skip
      rename_i hk
      subst hc
      obtain ⟨i', Z, hi', hZ, hz', hzr⟩ := zero_cells (ρ := ρ) hz
      rw [hi] at hi'; cases hi'
      obtain ⟨hcl, hcr⟩ := avOk_cells hzr hk.2.1
      exact next_v (append_ok r ⟨elemT_inv (by simpa using he'), by simpa using hk.2.2, hi, hZ, hk.1, by rw [← hcr.1, hcl]⟩ hx hy hn)
    · have hd : ∀ d, (#[t, u] : Array TypeId)[0]?.bind P.underlying = some d → P.underlying t = some d := fun d h => by simpa using h
      split at hc <;> first | (subst hc; cases hp; done) | skip
      rename_i kt el hu
      split at hc <;> first | (subst hc; cases hp; done) | skip
      rename_i kk hk
      subst hc
      exact next_v (delete_ok r hx hy (hd _ hu) hk u ty hn)
    · subst hc; exact next_v (max_ok r hx hy _ _ hn)
    · subst hc; exact next_v (min_ok r hx hy _ _ hn)
  | x :: y :: z :: l, _, _ => cases b <;> simp only [List.map_cons, cBuiltin] at hc <;> (subst hc; cases hp)
theorem cBuiltin_kind {L : List Nat} {b : Builtin} {ts : Array TypeId} {args : List G} {c : COp} (hc : cBuiltin P L b ts args = c) : plainC c = true ∨ ∃ n, c = .bad n := by
  match args with
  | [] => cases b <;> simp only [cBuiltin] at hc <;> (subst hc; exact .inr ⟨_, rfl⟩)
  | [x] =>
    cases b <;> simp only [cBuiltin] at hc
    all_goals (repeat' split at hc)
    all_goals (subst hc; first | exact .inl rfl | exact .inr ⟨_, rfl⟩)
  | [x, y] =>
    cases b <;> simp only [cBuiltin] at hc
    all_goals (repeat' split at hc)
    all_goals (subst hc; first | exact .inl rfl | exact .inr ⟨_, rfl⟩)
  | x :: y :: z :: l => cases b <;> simp only [cBuiltin] at hc <;> (subst hc; exact .inr ⟨_, rfl⟩)
end
end Go.Ev
namespace Go.Ev
set_option autoImplicit false
variable [Rounds]
theorem mkCallS_or (f : Nat) (l : List G) : mkCallS f l = .bad 157 ∨ (f ≠ baseY ∧ mkCallS f l = .callS f l) := by
  unfold mkCallS
  cases hb : Nat.beq f baseY with
  | true => exact .inl rfl
  | false => exact .inr ⟨fun e => (by rw [e] at hb; cases hb), rfl⟩
open Go

section
variable {P : Program} {ρ : Emb} {h : AH} {w : World} {k : K} {vars stk : List AV}
theorem grel_of {L : List Nat} {e : SEnv} {ev : Operand → Value} : ∀ (ps : List (Nat × Operand)), (∀ p ∈ ps, RV ρ ((res L e p.2).ev vars stk) (ev p.2)) →
    GRel ρ vars stk (ps.map fun p => (p.1, res L e p.2)) (ps.map fun p => (p.1, ev p.2))
  | [], _ => .nil
  | p :: ps, h => .cons _ _ _ _ _ (h p List.mem_cons_self) (grel_of ps fun q hq => h q (List.mem_cons_of_mem _ hq))
theorem brel_of {L : List Nat} {e : SEnv} {ev : Operand → Value} (x : Option Operand) (h : ∀ y, x = some y → RV ρ ((res L e y).ev vars stk) (ev y)) : BRel ρ vars stk (x.map (res L e)) (x.map ev) := by
  cases x with
  | none => trivial
  | some y => exact h y rfl
theorem list_of {L : List Nat} {e : SEnv} {ev : Operand → Value} (xs : Array Operand) (h : ∀ y ∈ xs, RV ρ ((res L e y).ev vars stk) (ev y)) :
    (xs.toList.map (res L e)).length = (xs.map ev).size ∧ ∀ (i : Nat) (g : G) (X : Value), (xs.toList.map (res L e))[i]? = some g → (xs.map ev)[i]? = some X → RV ρ (g.ev vars stk) X := by
  refine ⟨by simp, fun i g X hg hX => ?_⟩
  rw [List.getElem?_map] at hg
  rw [Array.getElem?_map] at hX
  rw [Array.getElem?_toList] at hg
  cases hx : xs[i]? with
  | none => rw [hx] at hg; cases hg
  | some x =>
    rw [hx] at hg hX
    cases hg; cases hX
    exact h x (Array.mem_of_getElem? hx)
theorem notIface {d : TypeDesc} (h : ∀ ms, d ≠ .interface ms) : (d matches .interface _) = false := by
  cases d <;> first | rfl | exact absurd rfl (h _)

theorem cOp_ok (L : List Nat) (e : SEnv) (r : Rel ρ h w) (o : Oper) (ev : Operand → Value) (hev : EvOk P L e ρ vars stk ev o.op) {c : COp} (hc : cOp P L e o.op = c) (hp : plainC c = true) {rec : Rec}
    (hn : NF (runOp c rec k vars stk h)) : NextOk ρ h w k vars stk (runOp c rec k vars stk h) ((execOp ev o).run P w) := by
  obtain ⟨dst, op, type, pos, after, guard⟩ := o
  unfold EvOk at hev
  cases op <;> simp only [cOp] at hc <;> first | (subst hc; cases hp; done) | skip
  case move x =>
    subst hc
    obtain ⟨v, h', ρ', w', y, h1, h2, h3, h4⟩ := move_ok (k := k) (vars := vars) (stk := stk) r (hev x (by simp [Op.operands]))
    exact ⟨v, h', ρ', w', .value y, h1, h2, by cases h4; simp [execOp, Sem.run_pure], .inl ⟨y, rfl, h3⟩⟩
  case assign x =>
    subst hc
    obtain ⟨v, h', ρ', w', y, h1, h2, h3, h4⟩ := move_ok (k := k) (vars := vars) (stk := stk) r (hev x (by simp [Op.operands]))
    exact ⟨v, h', ρ', w', .value y, h1, h2, by cases h4; simp [execOp, Sem.run_pure], .inl ⟨y, rfl, h3⟩⟩
  case pick c a b =>
    subst hc
    obtain ⟨v, h', ρ', w', y, h1, h2, h3, h4⟩ := pick_ok (P := P) (k := k) (vars := vars) (stk := stk) r (hev c (by simp [Op.operands])) (hev a (by simp [Op.operands])) (hev b (by simp [Op.operands])) hn
    refine ⟨v, h', ρ', w', .value y, h1, h2, ?_, .inl ⟨y, rfl, h3⟩⟩
    simp only [execOp, Sem.run_bind, Sem.run_pure] at h4 ⊢
    cases hb : (asBool (ev c)).run P w with
    | ok b w1 => rw [hb] at h4; simp only [Result.andThen_ok] at h4 ⊢; cases h4; rfl
    | halt x w1 => rw [hb] at h4; cases h4
  case alloc t =>
    split at hc <;> first | (subst hc; cases hp; done) | skip
    · rename_i z n hz hk
      subst hc
      obtain ⟨i, Z, hi, hZ, _, hzr⟩ := zero_cells (ρ := ρ) hz
      exact next_v (boxA_gen (x := .cst z) r hzr hn t (run_alloc hi hZ _))
    · rename_i z hz hk
      subst hc
      obtain ⟨i, Z, hi, hZ, _, hzr⟩ := zero_cells (ρ := ρ) hz
      exact next_v (boxO_gen (x := .cst z) r hzr hn t (run_alloc hi hZ _))
  case box t x =>
    have hx := hev x (by simp [Op.operands])
    split at hc <;> first | (subst hc; cases hp; done) | skip
    · subst hc; exact next_v (boxA_gen r hx hn t (run_box t _))
    · subst hc; exact next_v (boxO_gen r hx hn t (run_box t _))
  case build t ps =>
    have hg := grel_of (ρ := ρ) (vars := vars) (stk := stk) (L := L) (e := e) (ev := ev) ps.toList (fun p hp => hev p.2 (by simp only [Op.operands]; exact List.mem_toArray.2 (List.mem_map.2 ⟨p, hp, rfl⟩)))
    have hg' : GRel ρ vars stk (ps.toList.map fun p => (p.1, res L e p.2)) (ps.map fun p => (p.1, ev p.2)).toList := by rw [Array.toList_map]; exact hg
    split at hc <;> first | (subst hc; cases hp; done) | skip
    · rename_i fs z hu hz
      split at hc <;> first | (subst hc; cases hp; done) | skip
      rename_i pl hpl
      split at hc <;> first | (subst hc; cases hp; done) | skip
      rename_i l hl
      unfold cTuple at hc
      split at hc <;> first | (subst hc; cases hp; done) | skip
      rename_i hk
      subst hc
      refine next_v (build_ok r hz (pl := fun i => pl[i]?) hg' ?_ hk (fun Z cells hz hf => buildStruct_run hu hpl Z cells hz hf) hn)
      rw [← hl, List.mapM_map]
      rfl
    · rename_i n el z hu hz
      split at hc <;> first | (subst hc; cases hp; done) | skip
      rename_i i hi
      unfold cTuple at hc
      split at hc <;> first | (subst hc; cases hp; done) | skip
      rename_i hk
      subst hc
      refine next_v (build_ok r hz (pl := fun j => some (j * i.size, i.size, isAggT P el)) hg' ?_ hk (fun Z cells hz hf => buildArray_run hu hi Z cells hz hf) hn)
      rw [List.mapM_map]
      generalize ps.toList = q
      induction q with
      | nil => rfl
      | cons p q ih => rw [List.mapM_cons, ih]; rfl
  case buildSlice t n ps =>
    have hg := grel_of (ρ := ρ) (vars := vars) (stk := stk) (L := L) (e := e) (ev := ev) ps.toList (fun p hp => hev p.2 (by simp only [Op.operands]; exact List.mem_toArray.2 (List.mem_map.2 ⟨p, hp, rfl⟩)))
    have hg' : GRel ρ vars stk (ps.toList.map fun p => (p.1, res L e p.2)) (ps.map fun p => (p.1, ev p.2)).toList := by rw [Array.toList_map]; exact hg
    split at hc <;> first | (subst hc; cases hp; done) | skip
    rename_i el hel
    split at hc <;> first | (subst hc; cases hp; done) | skip
    rename_i z i hz hi
    split at hc <;> first | (subst hc; cases hp; done) | skip
    rename_i hk
    subst hc
    exact next_v (buildSlice_ok r (elemT_inv hel) hz hi hg' hk hn)
  case load t a =>
    have hx := hev a (by simp [Op.operands])
    split at hc <;> first | (subst hc; cases hp; done) | skip
    · rename_i hk; subst hc; exact next_v (ldAgg_ok r hx hn hk)
    · rename_i hk; subst hc; exact next_v (ldOne_ok r hx hn hk)
  case store t a x =>
    have ha := hev a (by simp [Op.operands])
    have hx := hev x (by simp [Op.operands])
    split at hc <;> first | (subst hc; cases hp; done) | skip
    · rename_i hk; subst hc; exact next_u (stAgg_ok r ha hx hn hk)
    · rename_i hk; subst hc; exact next_u (stOne_ok r ha hx hn hk)
  case nilCheck x =>
    subst hc
    obtain ⟨v, y, h1, h2, h3⟩ := nilCheck_ok (P := P) r (hev x (by simp [Op.operands])) hn (ρ₁ := ev) (o := ⟨dst, .nilCheck x, type, pos, after, guard⟩) rfl rfl
    exact ⟨v, h, ρ, w, .value y, h1, Stp.refl r, h3, .inl ⟨y, rfl, h2⟩⟩
  case binOp op t x y yt =>
    have hx := hev x (by simp [Op.operands])
    have hy := hev y (by simp [Op.operands])
    unfold cBin at hc
    split at hc
    · subst hc; exact next_v (bin_ok r hx hy (t := t) (xo := x) (yo := y) hn)
    · subst hc; exact next_v (bin_ok r hx hy (t := t) (xo := x) (yo := y) hn)
    · split at hc <;> first | (subst hc; cases hp; done) | skip
      · rename_i hek; subst hc; exact next_v (eq_ok r hx hy (.inl ⟨rfl, rfl⟩) hek hn)
      · rename_i hek; subst hc; exact next_v (eq_ok r hx hy (.inr ⟨rfl, rfl⟩) hek hn)
  case unOp op t x => subst hc; exact next_v (un_ok r (hev x (by simp [Op.operands])) hn)
  case convert s d x =>
    have hx := hev x (by simp [Op.operands])
    split at hc <;> first | (subst hc; cases hp; done) | skip
    · rename_i hs hd; subst hc; exact next_v (conv_ok r hx hs hd hn)
    · rename_i hs hd; subst hc; exact next_v (strStr_ok r hx hs hd hn)
    · rename_i hs hd
      split at hc <;> first | (subst hc; cases hp; done) | skip
      rename_i he
      subst hc; exact next_v (bytesStr_ok r hx hs he hd hn)
  case makeInterface t x =>
    have hx := hev x (by simp [Op.operands])
    split at hc <;> first | (subst hc; cases hp; done) | skip
    rename_i d hne hd
    subst hc
    exact next_v (iface_ok r hx hd (by cases d <;> first | rfl | exact absurd rfl (hne _)))
  case makeFunc f a c =>
    subst hc
    obtain ⟨a1, a2⟩ := list_of (ρ := ρ) (vars := vars) (stk := stk) (L := L) (e := e) (ev := ev) a (fun y hy => hev y (by simp [Op.operands, hy]))
    obtain ⟨c1, c2⟩ := list_of (ρ := ρ) (vars := vars) (stk := stk) (L := L) (e := e) (ev := ev) c (fun y hy => hev y (by simp [Op.operands, hy]))
    exact next_v (func_ok r a1 a2 c1 c2)
  case makeMap t rs =>
    cases rs with
    | none => subst hc; exact next_v (makeMap_ok r t)
    | some x => subst hc; cases hp
  case makeSlice t l c =>
    have hl := hev l (by simp [Op.operands])
    have hcc := hev c (by simp [Op.operands])
    split at hc <;> first | (subst hc; cases hp; done) | skip
    rename_i el hel
    split at hc <;> first | (subst hc; cases hp; done) | skip
    rename_i z i hz hi
    split at hc <;> first | (subst hc; cases hp; done) | skip
    rename_i hk
    subst hc
    exact next_v (makeSlice_ok r hl hcc (elemT_inv hel) hz hi hk.1 hk.2 hn)
  case slice t x lo hi mx =>
    have hx := hev x (by simp [Op.operands])
    have hlo := brel_of (ρ := ρ) (vars := vars) (stk := stk) (L := L) (e := e) (ev := ev) lo (fun y hy => hev y (by subst hy; simp [Op.operands]))
    have hhi := brel_of (ρ := ρ) (vars := vars) (stk := stk) (L := L) (e := e) (ev := ev) hi (fun y hy => hev y (by subst hy; simp [Op.operands]))
    have hmx := brel_of (ρ := ρ) (vars := vars) (stk := stk) (L := L) (e := e) (ev := ev) mx (fun y hy => hev y (by subst hy; simp [Op.operands]))
    split at hc <;> first | (subst hc; cases hp; done) | skip
    · rename_i hu
      cases mx with
      | some _ => subst hc; cases hp
      | none => subst hc; exact next_v (sliceStr_ok r hx hlo hhi hu hn)
    · rename_i el hu
      split at hc <;> first | (subst hc; cases hp; done) | skip
      rename_i hk
      subst hc
      refine next_v (sliceSl_ok r hx hlo hhi hmx ?_ hu hk.1 hn)
      rcases hk.2 with h1 | h1
      · left; cases mx with | none => rfl | some _ => cases h1
      · right; cases hi with | none => cases h1 | some _ => simp
  case fieldAddr s x f =>
    have hx := hev x (by simp [Op.operands])
    split at hc <;> first | (subst hc; cases hp; done) | skip
    rename_i fs hs
    split at hc <;> first | (subst hc; cases hp; done) | skip
    rename_i fd hf
    split at hc <;> first | (subst hc; cases hp; done) | skip
    rename_i hz
    subst hc
    exact next_v (fieldAddr_ok r hx hs hf hz hn)
  case field s x f =>
    have hx := hev x (by simp [Op.operands])
    split at hc <;> first | (subst hc; cases hp; done) | skip
    rename_i fs hs
    split at hc <;> first | (subst hc; cases hp; done) | skip
    rename_i fd hf
    split at hc <;> first | (subst hc; cases hp; done) | skip
    · rename_i n hk; subst hc; exact next_v (field_ok r hx hs hf (n := n) (ag := true) hk hn)
    · rename_i hk; subst hc; exact next_v (field_ok r hx hs hf (n := 1) (ag := false) hk hn)
  case indexAddr t x i =>
    have hx := hev x (by simp [Op.operands])
    have hi := hev i (by simp [Op.operands])
    split at hc <;> first | (subst hc; cases hp; done) | skip
    · rename_i hu
      split at hc <;> first | (subst hc; cases hp; done) | skip
      rename_i hk; subst hc; exact next_v (indexAddrS_ok r hx hi hu hk hn)
    · rename_i hu
      split at hc <;> first | (subst hc; cases hp; done) | skip
      rename_i hk; subst hc; exact next_v (indexAddrA_ok r hx hi hu hk hn)
  case index t x i =>
    have hx := hev x (by simp [Op.operands])
    have hi := hev i (by simp [Op.operands])
    split at hc <;> first | (subst hc; cases hp; done) | skip
    rename_i hu; subst hc; exact next_v (indexStr_ok r hx hi hu hn)
  case lookup t m key ok =>
    have hm := hev m (by simp [Op.operands])
    have hk := hev key (by simp [Op.operands])
    split at hc <;> first | (subst hc; cases hp; done) | skip
    rename_i hu
    split at hc <;> first | (subst hc; cases hp; done) | skip
    rename_i hz hkk
    subst hc
    exact next_v (lookup_ok r hm hk hu hkk hz hn)
  case mapUpdate t m key v =>
    have hm := hev m (by simp [Op.operands])
    have hk := hev key (by simp [Op.operands])
    have hv := hev v (by simp [Op.operands])
    split at hc <;> first | (subst hc; cases hp; done) | skip
    rename_i hu
    split at hc <;> first | (subst hc; cases hp; done) | skip
    rename_i hkk
    subst hc
    exact next_u (mapUpdate_ok r hm hk hv hu hkk hn)
  case insert t m key v =>
    have hm := hev m (by simp [Op.operands])
    have hk := hev key (by simp [Op.operands])
    have hv := hev v (by simp [Op.operands])
    split at hc <;> first | (subst hc; cases hp; done) | skip
    rename_i hu
    split at hc <;> first | (subst hc; cases hp; done) | skip
    rename_i hkk
    subst hc
    exact next_u (mapUpdate_ok r hm hk hv hu hkk hn)
  case mapEntry t m key =>
    have hm := hev m (by simp [Op.operands])
    have hk := hev key (by simp [Op.operands])
    split at hc <;> first | (subst hc; cases hp; done) | skip
    rename_i hu
    split at hc <;> first | (subst hc; cases hp; done) | skip
    rename_i hz hkk
    subst hc
    exact next_v (mapEntry_ok r hm hk hu hkk hz hn)
  case entryStore t m s v =>
    have hm := hev m (by simp [Op.operands])
    have hs := hev s (by simp [Op.operands])
    have hv := hev v (by simp [Op.operands])
    split at hc <;> first | (subst hc; cases hp; done) | skip
    split at hc <;> first | (subst hc; cases hp; done) | skip
    subst hc
    exact next_u (entryStore_ok r hm hs hv t hn)
  case range t x =>
    have hx := hev x (by simp [Op.operands])
    split at hc <;> first | (subst hc; cases hp; done) | skip
    · rename_i hu; subst hc; exact next_v (rangeStr_ok r hx hu hn)
    · rename_i hu; subst hc; exact next_v (rangeMap_ok r hx hu hn)
  case next it s =>
    have hx := hev it (by simp [Op.operands])
    cases s with
    | true => subst hc; exact next_v (nextStr_ok r hx type hn)
    | false => subst hc; exact next_v (nextMap_ok r hx type hn)
  case entry it => subst hc; exact next_v (entryIt_ok r (hev it (by simp [Op.operands])) hn)
  case typeAssert x xt a ok =>
    have hx := hev x (by simp [Op.operands])
    split at hc <;> first | (subst hc; cases hp; done) | skip
    rename_i z d hne hz hd
    subst hc
    exact next_v (assert_ok r hx hz hd (by cases d <;> first | rfl | exact absurd rfl (hne _)) hn)
  case extract x i => subst hc; exact next_v (extract_ok r (hev x (by simp [Op.operands])) hn)
  case call c =>
    split at hc <;> first | (subst hc; cases hp; done) | (rename_i f hf; rcases mkCallS_or f (c.args.toList.map (res L e)) with h1 | ⟨_, h1⟩ <;> (rw [h1] at hc; subst hc; cases hp; done)) | skip
    rename_i b hb
    split at hc <;> first | (subst hc; cases hp; done) | skip
    rename_i hsz
    have hop : ∀ x ∈ c.args.toList, x ∈ (Op.call c).operands := by
      intro x hx
      show x ∈ c.operands
      unfold Call.operands
      rw [hb]
      simpa using hx
    have := builtin_ok L e r (b := b) (ts := c.argTypes) (args := c.args.toList) (ev := ev) (fun x hx => hev x (hop x hx)) hc hp hn (by simpa using hsz) type (c.args.map fun | .const _ => true | _ => false)
    have e1 : (List.map ev c.args.toList).toArray = c.args.map ev := Array.ext' (by rw [Array.toList_map])
    rw [e1] at this
    simp only [execOp, resolve, hb, Sem.run_bind, Sem.run_pure, Result.andThen_ok, invoke]
    exact this
  case defer c =>
    split at hc <;> (subst hc; cases hp)
end
end Go.Ev
namespace Go.Ev
set_option autoImplicit false
variable [Rounds]
open Go

def Ext (h h' : AH) : Prop := ∀ p o, h.obj p = some o → h'.obj p = some o

section
variable {P : Program} {ρ : Emb} {h : AH} {w : World} {k : K} {vars stk : List AV}
theorem rd_ext {h' : AH} (hx : Ext h h') {b : Pos} {e : Nat} {l : List AV} (hr : rd b e h = some l) : rd b e h' = some l := by
  obtain ⟨sz, n, t, h1, h2⟩ := rd_inv hr
  unfold rd
  rw [hx _ _ h1]; exact h2
theorem rdBytes_ext {h' : AH} (hx : Ext h h') {b : Pos} : ∀ {n e r : Nat}, rdBytes b h n e = some r → rdBytes b h' n e = some r
  | 0, _, _, hr => hr
  | n + 1, e, r, hr => by
    unfold rdBytes at hr ⊢
    split at hr
    · rename_i c hc
      rw [rd_ext hx hc]
      cases h2 : rdBytes b h n (e + 1) with
      | none => rw [h2] at hr; cases hr
      | some q => rw [h2] at hr; simp only [rdBytes_ext hx h2]; exact hr
    · cases hr
theorem eqEK_ext {h' : AH} (hx : Ext h h') {ek : EK} {x y : AV} {b : Bool} (hr : eqEK ek x y h = some b) : eqEK ek x y h' = some b := by
  cases ek with
  | ptr =>
    show eqPtr x y h' = some b
    change eqPtr x y h = some b at hr
    unfold eqPtr at hr ⊢
    split at hr <;> first | exact hr | skip
    · rename_i b1 e1 o1 b2 e2 o2
      cases hp : posEq b1 b2 with
      | true => rw [hp] at hr; simp only at hr ⊢; exact hr
      | false =>
        rw [hp] at hr
        simp only at hr ⊢
        split at hr
        · rename_i h1 h2
          rw [hx _ _ h1, hx _ _ h2]; exact hr
        · cases hr
  | _ => exact hr
theorem bnds_free {f : Nat → Nat → Nat → R} {lo hi mx : AV} (hn : NF (bnds f lo hi mx k vars stk h)) : ∃ l u m, lo = .nat l ∧ hi = .nat u ∧ mx = .nat m ∧ NF (f l u m) := by
  obtain ⟨l, u, m, h1, h2, h3, h4⟩ := bnds_inv hn
  exact ⟨l, u, m, h1, h2, h3, by rw [← h4]; exact hn⟩

theorem onVal_free {v : AV} (hv : v ≠ .undef) : onVal v k vars stk h = k v vars stk h := by
  cases v <;> first | rfl | exact absurd rfl hv
theorem float_ok {c : COp} (hf : floatC c = true) {rec : Rec} (hn : NF (runOp c rec k vars stk h)) :
    ∃ v, ∀ h', (memC c = true → Ext h h') → ∀ (rec' : Rec) (k' : K), runOp c rec' k' vars stk h' = k' v vars stk h' := by
  cases c <;> first | (cases hf; done) | skip
  case move x => exact ⟨_, fun h' _ rec' k' => rfl⟩
  case pick c a b =>
    change NF (pickC c a b k vars stk h) at hn
    unfold pickC at hn
    rcases onBool_inv hn with hv | hv
    · exact ⟨a.ev vars stk, fun h' _ rec' k' => by show pickC c a b k' vars stk h' = _; unfold pickC; rw [hv]; rfl⟩
    · exact ⟨b.ev vars stk, fun h' _ rec' k' => by show pickC c a b k' vars stk h' = _; unfold pickC; rw [hv]; rfl⟩
  case tuple n l chk ones =>
    obtain ⟨h1, h2, _⟩ := tupleC_inv hn
    refine ⟨.agg n (evs l vars stk), fun h' _ rec' k' => ?_⟩
    show tupleC n l chk ones k' vars stk h' = _
    unfold tupleC; rw [h1, h2]; rfl
  case ldAgg n x =>
    change NF (ldAgg n x k vars stk h) at hn
    unfold ldAgg at hn
    obtain ⟨b, e, o, hv⟩ := onPtr_inv hn
    rw [hv] at hn
    change NF (onDat (ldAgg3 n e o k vars stk h) (h.obj b)) at hn
    obtain ⟨sz, m, t, ho, he⟩ := onDat_inv hn
    rw [he] at hn
    unfold ldAgg3 at hn
    cases hb : and (Nat.beq sz n) (Nat.beq o 0) with
    | true =>
      rw [hb] at hn
      obtain ⟨l, hg, _⟩ := optR_inv hn
      refine ⟨.agg n l, fun h' hx rec' k' => ?_⟩
      show ldAgg n x k' vars stk h' = _
      unfold ldAgg
      rw [hv]
      show onDat (ldAgg3 n e o k' vars stk h') (h'.obj b) = _
      rw [hx rfl _ _ ho]
      show ldAgg3 n e o k' vars stk h' sz m t = _
      unfold ldAgg3
      rw [hb, hg]; rfl
    | false =>
      rw [hb] at hn
      change NF (ldAgg4 n e o k vars stk h sz m t) at hn
      unfold ldAgg4 at hn
      obtain ⟨c1, e1⟩ := ifR_inv hn
      rw [e1] at hn
      obtain ⟨l, hg, _⟩ := optR_inv hn
      refine ⟨.agg n (takeL n (dropL o l)), fun h' hx rec' k' => ?_⟩
      show ldAgg n x k' vars stk h' = _
      unfold ldAgg
      rw [hv]
      show onDat (ldAgg3 n e o k' vars stk h') (h'.obj b) = _
      rw [hx rfl _ _ ho]
      show ldAgg3 n e o k' vars stk h' sz m t = _
      unfold ldAgg3
      rw [hb]
      show ldAgg4 n e o k' vars stk h' sz m t = _
      unfold ldAgg4
      rw [c1, hg]; rfl
  case ldOne x =>
    change NF (ldOne x k vars stk h) at hn
    unfold ldOne at hn
    obtain ⟨b, e, o, hv⟩ := onPtr_inv hn
    rw [hv] at hn
    change NF (optR (ldOne3 o k vars stk h) (rd b e h)) at hn
    obtain ⟨l, hr, he⟩ := optR_inv hn
    rw [he] at hn
    have h3 := onVal_inv (v := nth o l) (k := k) hn
    refine ⟨nth o l, fun h' hx rec' k' => ?_⟩
    show ldOne x k' vars stk h' = _
    unfold ldOne
    rw [hv]
    show optR (ldOne3 o k' vars stk h') (rd b e h') = _
    rw [rd_ext (hx rfl) hr]
    exact onVal_free h3.1
  case nilCheck x =>
    change NF (onNilck (x.ev vars stk) k vars stk h) at hn
    refine ⟨x.ev vars stk, fun h' _ rec' k' => ?_⟩
    show onNilck (x.ev vars stk) k' vars stk h' = _
    generalize x.ev vars stk = v at hn ⊢
    cases v <;> first | rfl | (exact absurd rfl (hn _)) | skip
    rename_i f a c
    cases f <;> first | rfl | (exact absurd rfl (hn _))
  case bin op x y =>
    change NF (binC op x y k vars stk h) at hn
    unfold binC at hn
    obtain ⟨a, ha, _⟩ := optR_inv hn
    exact ⟨a, fun h' _ rec' k' => by show binC op x y k' vars stk h' = _; unfold binC; rw [ha]; rfl⟩
  case eq ek neg x y =>
    change NF (eqC ek neg x y k vars stk h) at hn
    unfold eqC at hn
    obtain ⟨a, ha, _⟩ := optR_inv hn
    exact ⟨_, fun h' hx rec' k' => by show eqC ek neg x y k' vars stk h' = _; unfold eqC; rw [eqEK_ext (hx rfl) ha]; rfl⟩
  case un op x =>
    change NF (unC op x k vars stk h) at hn
    cases op <;> unfold unC at hn <;> first | (exact absurd rfl (hn _)) | skip
    · simp only at hn
      split at hn
      · rename_i kd n hv
        exact ⟨mkInt kd (kd.wrap (0 - n)), fun h' _ rec' k' => by show unC .neg x k' vars stk h' = _; unfold unC; simp only [hv]⟩
      · exact absurd rfl (hn _)
    · simp only at hn
      rcases onBool_inv hn with hv | hv
      · exact ⟨.ff, fun h' _ rec' k' => by show unC .not x k' vars stk h' = _; unfold unC; simp only [hv]; rfl⟩
      · exact ⟨.tt, fun h' _ rec' k' => by show unC .not x k' vars stk h' = _; unfold unC; simp only [hv]; rfl⟩
  case conv d x =>
    change NF (convC d x k vars stk h) at hn
    unfold convC at hn
    split at hn
    · rename_i kd n hv
      exact ⟨mkInt d (d.wrap n), fun h' _ rec' k' => by show convC d x k' vars stk h' = _; unfold convC; simp only [hv]⟩
    · exact absurd rfl (hn _)
  case bytesStr x =>
    change NF (bytesStrC x k vars stk h) at hn
    unfold bytesStrC at hn
    split at hn
    · rename_i hv
      exact ⟨.str 0 0, fun h' _ rec' k' => by show bytesStrC x k' vars stk h' = _; unfold bytesStrC; simp only [hv]⟩
    · rename_i b e len _ _ _ hv
      split at hn
      · rename_i n hr
        exact ⟨.str n len, fun h' hx rec' k' => by show bytesStrC x k' vars stk h' = _; unfold bytesStrC; simp only [hv, rdBytes_ext (hx rfl) hr]⟩
      · exact absurd rfl (hn _)
    · exact absurd rfl (hn _)
  case strStr x =>
    change NF (strStrC x k vars stk h) at hn
    unfold strStrC at hn
    obtain ⟨n, l, hv⟩ := onStr_inv hn
    exact ⟨.str n l, fun h' _ rec' k' => by show strStrC x k' vars stk h' = _; unfold strStrC; rw [hv]; rfl⟩
  case iface t x => exact ⟨_, fun h' _ rec' k' => rfl⟩
  case func f a c => exact ⟨_, fun h' _ rec' k' => rfl⟩
  case sliceStr x lo hi =>
    change NF (sliceStr x lo hi k vars stk h) at hn
    unfold sliceStr at hn
    obtain ⟨n, ln, hv⟩ := onStr_inv hn
    rw [hv] at hn
    change NF (onNat (boundLow lo vars stk) (sliceStr3 n ln (boundHigh ln hi vars stk)) k vars stk h) at hn
    obtain ⟨l, hl⟩ := onNat_inv hn
    rw [hl] at hn
    change NF (onNat (boundHigh ln hi vars stk) (sliceStr4 n ln l) k vars stk h) at hn
    obtain ⟨u, hu⟩ := onNat_inv hn
    rw [hu] at hn
    obtain ⟨c1, _⟩ := ifR_inv (show NF (ifR (and (Nat.ble l u) (Nat.ble u ln)) _) from hn)
    refine ⟨.str (sSub n l u) (Nat.sub u l), fun h' _ rec' k' => ?_⟩
    show sliceStr x lo hi k' vars stk h' = _
    unfold sliceStr
    rw [hv]
    show onNat (boundLow lo vars stk) (sliceStr3 n ln (boundHigh ln hi vars stk)) k' vars stk h' = _
    rw [hl]
    show onNat (boundHigh ln hi vars stk) (sliceStr4 n ln l) k' vars stk h' = _
    rw [hu]
    show ifR (and (Nat.ble l u) (Nat.ble u ln)) _ = _
    rw [c1]; rfl
  case sliceSl sz x lo hi mx =>
    change NF (sliceSl sz x lo hi mx k vars stk h) at hn
    unfold sliceSl at hn
    rcases onSlice_inv hn with hv | ⟨b, e, ln, cap, ex, sz₂, hv⟩ <;> rw [hv] at hn
    · change NF (sliceNil lo hi mx k vars stk h) at hn
      unfold sliceNil at hn
      obtain ⟨l, u, m, h1, h2, h3, h4⟩ := bnds_free hn
      obtain ⟨c1, _⟩ := ifR_inv h4
      refine ⟨.nilslice, fun h' _ rec' k' => ?_⟩
      show sliceSl sz x lo hi mx k' vars stk h' = _
      unfold sliceSl
      rw [hv]
      show sliceNil lo hi mx k' vars stk h' = _
      unfold sliceNil
      rw [h1, h2, h3]
      show ifR _ _ = _
      rw [c1]; rfl
    · change NF (sliceSl1 sz lo hi mx b e ln cap ex sz₂ k vars stk h) at hn
      unfold sliceSl1 at hn
      obtain ⟨l, u, m, h1, h2, h3, h4⟩ := bnds_free hn
      obtain ⟨c1, _⟩ := ifR_inv h4
      refine ⟨.slice b (Nat.add e l) (Nat.sub u l) (Nat.sub m l) (or ex mx.isSome) sz, fun h' _ rec' k' => ?_⟩
      show sliceSl sz x lo hi mx k' vars stk h' = _
      unfold sliceSl
      rw [hv]
      show sliceSl1 sz lo hi mx b e ln cap ex sz₂ k' vars stk h' = _
      unfold sliceSl1
      rw [h1, h2, h3]
      show ifR _ _ = _
      rw [c1]; rfl
  case fieldAddr off x =>
    change NF (fieldAddrC off x k vars stk h) at hn
    unfold fieldAddrC at hn
    obtain ⟨b, e, o, hv⟩ := onPtr_inv hn
    exact ⟨.ptr b e (Nat.add o off), fun h' _ rec' k' => by show fieldAddrC off x k' vars stk h' = _; unfold fieldAddrC; rw [hv]; rfl⟩
  case field off n ag x =>
    change NF (fieldC off n ag x k vars stk h) at hn
    unfold fieldC at hn
    obtain ⟨m, l, hv⟩ := onAgg_inv hn
    rw [hv] at hn
    change NF (field2 off n ag m l k vars stk h) at hn
    cases ag with
    | false =>
      have h3 := onVal_inv (show NF (onVal (nth off l) k vars stk h) from hn)
      refine ⟨nth off l, fun h' _ rec' k' => ?_⟩
      show fieldC off n false x k' vars stk h' = _
      unfold fieldC
      rw [hv]
      exact onVal_free h3.1
    | true =>
      obtain ⟨c1, _⟩ := ifR_inv (show NF (ifR (Nat.ble (Nat.add off n) (len l)) _) from hn)
      refine ⟨.agg n (takeL n (dropL off l)), fun h' _ rec' k' => ?_⟩
      show fieldC off n true x k' vars stk h' = _
      unfold fieldC
      rw [hv]
      show ifR (Nat.ble (Nat.add off n) (len l)) _ = _
      rw [c1]; rfl
  case indexAddrS sz x i =>
    change NF (indexAddrS sz x i k vars stk h) at hn
    unfold indexAddrS at hn
    obtain ⟨j, hj⟩ := onNat_inv hn
    rw [hj] at hn
    change NF (onSlice (x.ev vars stk) failK (indexAddrS2 sz j) k vars stk h) at hn
    rcases onSlice_inv hn with hv | ⟨b, e, ln, cap, ex, sz₂, hv⟩ <;> rw [hv] at hn
    · exact absurd rfl (hn _)
    · change NF (ifR (Nat.beq sz₂ sz) (ifR (Nat.ble (Nat.succ j) ln) _)) at hn
      obtain ⟨c1, e1⟩ := ifR_inv hn
      rw [e1] at hn
      obtain ⟨c2, _⟩ := ifR_inv hn
      refine ⟨.ptr b (Nat.add e j) 0, fun h' _ rec' k' => ?_⟩
      show indexAddrS sz x i k' vars stk h' = _
      unfold indexAddrS
      rw [hj]
      show onSlice (x.ev vars stk) failK (indexAddrS2 sz j) k' vars stk h' = _
      rw [hv]
      show ifR (Nat.beq sz₂ sz) (ifR (Nat.ble (Nat.succ j) ln) _) = _
      rw [c1, c2]; rfl
  case indexAddrA n sz x i =>
    change NF (indexAddrA n sz x i k vars stk h) at hn
    unfold indexAddrA at hn
    obtain ⟨j, hj⟩ := onNat_inv hn
    rw [hj] at hn
    change NF (onPtr (x.ev vars stk) (indexAddrA2 n sz j) k vars stk h) at hn
    obtain ⟨b, e, o, hv⟩ := onPtr_inv hn
    rw [hv] at hn
    obtain ⟨c1, _⟩ := ifR_inv (show NF (ifR (Nat.ble (Nat.succ j) n) _) from hn)
    refine ⟨.ptr b e (Nat.add o (Nat.mul j sz)), fun h' _ rec' k' => ?_⟩
    show indexAddrA n sz x i k' vars stk h' = _
    unfold indexAddrA
    rw [hj]
    show onPtr (x.ev vars stk) (indexAddrA2 n sz j) k' vars stk h' = _
    rw [hv]
    show ifR (Nat.ble (Nat.succ j) n) _ = _
    rw [c1]; rfl
  case indexStr x i =>
    change NF (indexStr x i k vars stk h) at hn
    unfold indexStr at hn
    obtain ⟨n, ln, hv⟩ := onStr_inv hn
    rw [hv] at hn
    change NF (onIdx (i.ev vars stk) (indexStr2 n ln) k vars stk h) at hn
    obtain ⟨j, hj⟩ := onIdx_inv hn
    rw [hj.2] at hn
    obtain ⟨c1, _⟩ := ifR_inv (show NF (ifR (Nat.ble (Nat.succ j) ln) _) from hn)
    refine ⟨.byte (sIdx n j), fun h' _ rec' k' => ?_⟩
    show indexStr x i k' vars stk h' = _
    unfold indexStr
    rw [hv]
    show onIdx (i.ev vars stk) (indexStr2 n ln) k' vars stk h' = _
    rw [onIdx_free hj.1]
    show ifR (Nat.ble (Nat.succ j) ln) _ = _
    rw [c1]; rfl
  case lookup kk z ok m key =>
    change NF (lookupC kk z ok m key k vars stk h) at hn
    unfold lookupC at hn
    obtain ⟨c1, e1⟩ := ifR_inv hn
    rw [e1] at hn
    rcases onMap_inv hn with hv | ⟨b, hv⟩ <;> rw [hv] at hn
    · refine ⟨@Bool.rec (fun _ => AV) z (.tup [z, .ff]) ok, fun h' _ rec' k' => ?_⟩
      show lookupC kk z ok m key k' vars stk h' = _
      unfold lookupC
      rw [c1, hv]; rfl
    · change NF (onMp (look2 z ok (eqK kk (key.ev vars stk)) k vars stk h) (h.obj b)) at hn
      obtain ⟨es, tk, ho, he2⟩ := onMp_inv hn
      rw [he2] at hn
      unfold look2 at hn
      obtain ⟨o, hf, _⟩ := optR_inv hn
      cases o with
      | none =>
        refine ⟨@Bool.rec (fun _ => AV) z (.tup [z, .ff]) ok, fun h' hx rec' k' => ?_⟩
        show lookupC kk z ok m key k' vars stk h' = _
        unfold lookupC
        rw [c1, hv]
        show onMp (look2 z ok (eqK kk (key.ev vars stk)) k' vars stk h') (h'.obj b) = _
        rw [hx rfl _ _ ho]
        show look2 z ok (eqK kk (key.ev vars stk)) k' vars stk h' es = _
        unfold look2
        rw [hf]; rfl
      | some v =>
        refine ⟨@Bool.rec (fun _ => AV) v (.tup [v, .tt]) ok, fun h' hx rec' k' => ?_⟩
        show lookupC kk z ok m key k' vars stk h' = _
        unfold lookupC
        rw [c1, hv]
        show onMp (look2 z ok (eqK kk (key.ev vars stk)) k' vars stk h') (h'.obj b) = _
        rw [hx rfl _ _ ho]
        show look2 z ok (eqK kk (key.ev vars stk)) k' vars stk h' es = _
        unfold look2
        rw [hf]; rfl
  case assert a z ok x =>
    change NF (assertC a z ok x k vars stk h) at hn
    unfold assertC at hn
    split at hn
    · rename_i t v hv
      cases hb : Nat.beq t a with
      | true =>
        exact ⟨cond ok (.tup [v, .tt]) v, fun h' _ rec' k' => by show assertC a z ok x k' vars stk h' = _; unfold assertC; simp only [hv, hb, cond_true]⟩
      | false =>
        rw [hb] at hn
        cases ok with
        | true => exact ⟨.tup [z, .ff], fun h' _ rec' k' => by show assertC a z true x k' vars stk h' = _; unfold assertC; simp only [hv, hb, cond_true, cond_false]⟩
        | false => exact absurd rfl (hn _)
    · rename_i hv
      cases ok with
      | true => exact ⟨.tup [z, .ff], fun h' _ rec' k' => by show assertC a z true x k' vars stk h' = _; unfold assertC; simp only [hv, cond_true]⟩
      | false => exact absurd rfl (hn _)
    · exact absurd rfl (hn _)
  case extract i x =>
    change NF (extractC i x k vars stk h) at hn
    unfold extractC at hn
    obtain ⟨l, hv⟩ := onTup_inv hn
    rw [hv] at hn
    have h3 := onVal_inv (show NF (onVal (nth i l) k vars stk h) from hn)
    refine ⟨nth i l, fun h' _ rec' k' => ?_⟩
    show extractC i x k' vars stk h' = _
    unfold extractC
    rw [hv]
    exact onVal_free h3.1
  case len lk x =>
    change NF (lenC lk x k vars stk h) at hn
    cases lk with
    | str =>
      obtain ⟨n, ln, hv⟩ := onStr_inv (show NF (onStr (x.ev vars stk) lenStr2 k vars stk h) from hn)
      exact ⟨.nat ln, fun h' _ rec' k' => by show onStr (x.ev vars stk) lenStr2 k' vars stk h' = _; rw [hv]; rfl⟩
    | slice =>
      rcases onSlice_inv (show NF (onSlice (x.ev vars stk) lenNil lenSl2 k vars stk h) from hn) with hv | ⟨b, e, ln, cap, ex, sz₂, hv⟩
      · exact ⟨.nat 0, fun h' _ rec' k' => by show onSlice (x.ev vars stk) lenNil lenSl2 k' vars stk h' = _; rw [hv]; rfl⟩
      · exact ⟨.nat ln, fun h' _ rec' k' => by show onSlice (x.ev vars stk) lenNil lenSl2 k' vars stk h' = _; rw [hv]; rfl⟩
    | map =>
      have hn' : NF (onMap (x.ev vars stk) lenNil lenMp k vars stk h) := hn
      rcases onMap_inv hn' with hv | ⟨b, hv⟩ <;> rw [hv] at hn'
      · exact ⟨.nat 0, fun h' _ rec' k' => by show onMap (x.ev vars stk) lenNil lenMp k' vars stk h' = _; rw [hv]; rfl⟩
      · change NF (onMp (lenMp2 k vars stk h) (h.obj b)) at hn'
        obtain ⟨es, tk, ho, he2⟩ := onMp_inv hn'
        rw [he2] at hn'
        obtain ⟨c1, _⟩ := ifR_inv (show NF (ifR (Nat.ble (len es) big) _) from hn')
        refine ⟨.nat (len es), fun h' hx rec' k' => ?_⟩
        show onMap (x.ev vars stk) lenNil lenMp k' vars stk h' = _
        rw [hv]
        show onMp (lenMp2 k' vars stk h') (h'.obj b) = _
        rw [hx rfl _ _ ho]
        show ifR (Nat.ble (len es) big) _ = _
        rw [c1]; rfl
  case max x y =>
    change NF (onNat (x.ev vars stk) (max1 (y.ev vars stk)) k vars stk h) at hn
    obtain ⟨a, ha⟩ := onNat_inv hn
    rw [ha] at hn
    obtain ⟨b, hb⟩ := onNat_inv (show NF (onNat (y.ev vars stk) (maxK a) k vars stk h) from hn)
    refine ⟨.nat (@Bool.rec (fun _ => Nat) a b (Nat.ble a b)), fun h' _ rec' k' => ?_⟩
    show onNat (x.ev vars stk) (max1 (y.ev vars stk)) k' vars stk h' = _
    rw [ha]
    show onNat (y.ev vars stk) (maxK a) k' vars stk h' = _
    rw [hb]; rfl
  case min x y =>
    change NF (onNat (x.ev vars stk) (min1 (y.ev vars stk)) k vars stk h) at hn
    obtain ⟨a, ha⟩ := onNat_inv hn
    rw [ha] at hn
    obtain ⟨b, hb⟩ := onNat_inv (show NF (onNat (y.ev vars stk) (minK a) k vars stk h) from hn)
    refine ⟨.nat (@Bool.rec (fun _ => Nat) b a (Nat.ble a b)), fun h' _ rec' k' => ?_⟩
    show onNat (x.ev vars stk) (min1 (y.ev vars stk)) k' vars stk h' = _
    rw [ha]
    show onNat (y.ev vars stk) (minK a) k' vars stk h' = _
    rw [hb]; rfl
end
end Go.Ev
namespace Go.Ev
set_option autoImplicit false
variable [Rounds]
open Go

section
variable {P : Program} {ρ : Emb} {h : AH} {w : World} {k : K} {vars stk : List AV} {L : List Nat} {N : Nat}
theorem idxOf_ge : ∀ {L : List Nat} {t i k : Nat}, idxOf t L k = some i → k ≤ i ∧ L[i - k]? = some t
  | [], t, i, k, h => by cases h
  | s :: r, t, i, k, h => by
    unfold idxOf at h
    split at h
    · rename_i hb
      have := beq_iff.1 hb
      subst this
      cases h
      simp
    · obtain ⟨h1, h2⟩ := idxOf_ge h
      refine ⟨by omega, ?_⟩
      rw [show i - k = (i - (k + 1)) + 1 by omega, List.getElem?_cons_succ]; exact h2
theorem idxOf_inj {t u i : Nat} (h1 : idxOf t L 0 = some i) (h2 : idxOf u L 0 = some i) : t = u := by
  have a := (idxOf_ge h1).2
  have b := (idxOf_ge h2).2
  rw [a] at b; cases b; rfl
/-- the static environment is in order -/
structure WF (L : List Nat) (N : Nat) (e : SEnv) : Prop where
  key : ∀ t sl, (t, sl) ∈ e.m → idxOf t L 0 = none
  dep : ∀ t d, (t, SL.st d) ∈ e.m → d < e.depth
  vr : ∀ t j, (t, SL.var j) ∈ e.m → ∃ u, u < N ∧ idxOf u L 0 = some j
/-- an operand whose slot, if it is one, is a slot of the function -/
def inN (N : Nat) : Operand → Bool
  | .tmp t => Nat.blt t N
  | _ => true
theorem wf0 : WF L N env0 := by
  constructor
  · intro t sl h; cases h
  · intro t d h; cases h
  · intro t d h; cases h
theorem lookupS_mem : ∀ {m : List (Nat × SL)} {t : Nat} {l : SL}, lookupS t m = some l → (t, l) ∈ m
  | (s, l) :: r, t, l', h => by
    unfold lookupS at h
    split at h
    · rename_i hb
      have := beq_iff.1 hb
      subst this
      cases h; exact List.mem_cons_self
    · exact List.mem_cons_of_mem _ (lookupS_mem h)
theorem lookupS_none_of {m : List (Nat × SL)} {t : Nat} (h : ∀ l, (t, l) ∉ m) : lookupS t m = none := by
  cases hl : lookupS t m with
  | none => rfl
  | some l => exact absurd (lookupS_mem hl) (h l)
theorem WF.none {e : SEnv} (hw : WF L N e) {t i : Nat} (hi : idxOf t L 0 = some i) : lookupS t e.m = .none :=
  lookupS_none_of fun l hm => by rw [hw.key t l hm] at hi; cases hi
theorem resT_var {e : SEnv} (hw : WF L N e) {t i : Nat} (hi : idxOf t L 0 = some i) : resT L e t = .var i := by
  unfold resT; rw [hw.none hi, hi]
/-- what a slot holds, by the static environment -/
noncomputable def sig (L : List Nat) (e : SEnv) (vars stk : List AV) (t : Nat) : AV := (resT L e t).ev vars stk
theorem ev_stk (i : Nat) : (G.stk i).ev vars stk = stk.getD i .undef := nth_eq i stk
theorem ev_var (i : Nat) : (G.var i).ev vars stk = vars.getD i .undef := nth_eq i vars
def resOf (dep : Nat) (x : Option Nat) : Option SL → G
  | some (.st d) => .stk (dep - 1 - d)
  | some (.var i) => .var i
  | some (.cst a) => .cst a
  | none => match x with
    | some i => .var i
    | none => .bad
theorem resT_eq (e : SEnv) (t : Nat) : resT L e t = resOf e.depth (idxOf t L 0) (lookupS t e.m) := by
  unfold resT resOf
  cases lookupS t e.m with
  | none => rfl
  | some l => cases l <;> rfl
theorem sig_push {e : SEnv} (hw : WF L N e) {t : Nat} (ht : idxOf t L 0 = none) (v : AV) (u : Nat) :
    sig L (e.push t) vars (v :: stk) u = if u = t then v else sig L e vars stk u := by
  unfold sig
  rw [resT_eq, resT_eq]
  have hl : lookupS u (e.push t).m = if u = t then some (.st e.depth) else lookupS u e.m := by
    show lookupS u ((t, SL.st e.depth) :: e.m) = _
    rw [lookupS]
    by_cases hu : u = t
    · subst hu; rw [Nat.beq_refl, if_pos rfl, if_pos rfl]
    · rw [if_neg hu, if_neg]
      intro hb; exact hu (beq_iff.1 hb).symm
  rw [hl]
  by_cases hu : u = t
  · rw [if_pos hu, if_pos hu]
    show (G.stk (e.depth + 1 - 1 - e.depth)).ev vars (v :: stk) = v
    rw [Nat.add_sub_cancel, Nat.sub_self]; rfl
  · rw [if_neg hu, if_neg hu]
    cases hl : lookupS u e.m with
    | none => cases idxOf u L 0 <;> rfl
    | some l =>
      cases l with
      | st d =>
        have := hw.dep u d (lookupS_mem hl)
        show (G.stk (e.depth + 1 - 1 - d)).ev vars (v :: stk) = (G.stk (e.depth - 1 - d)).ev vars stk
        rw [Nat.add_sub_cancel, ev_stk, ev_stk, show e.depth - d = (e.depth - 1 - d) + 1 by omega]; rfl
      | var i => rfl
      | cst a => rfl
theorem wf_push {e : SEnv} (hw : WF L N e) {t : Nat} (ht : idxOf t L 0 = none) : WF L N (e.push t) := by
  refine ⟨fun u sl hm => ?_, fun u d hm => ?_, fun u d hm => ?_⟩
  · rcases List.mem_cons.1 hm with h | h
    · cases h; exact ht
    · exact hw.key u sl h
  · rcases List.mem_cons.1 hm with h | h
    · cases h; exact Nat.lt_succ_self _
    · exact Nat.lt_succ_of_lt (hw.dep u d h)
  · rcases List.mem_cons.1 hm with h | h
    · cases h
    · exact hw.vr u d h
theorem lookupS_map (i : Nat) : ∀ (m : List (Nat × SL)) (u : Nat), lookupS u (m.map fun p => match p.2 with | .var j => cond (Nat.beq i j) (p.1, SL.cst .undef) p | _ => p) = (lookupS u m).map fun l => match l with | .var j => cond (Nat.beq i j) (SL.cst .undef) l | _ => l
  | [], u => rfl
  | (s, l) :: r, u => by
    rw [List.map_cons]
    have two : ∀ (a b : SL) (m : List (Nat × SL)), (Nat.beq s u = true → lookupS u ((s, a) :: m) = some a) ∧ (¬ Nat.beq s u = true → lookupS u ((s, a) :: m) = lookupS u m) := by
      intro a b m
      exact ⟨fun h => by rw [lookupS, if_pos h], fun h => by rw [lookupS, if_neg h]⟩
    have one : ∃ l', (match (s, l).2 with | .var j => cond (Nat.beq i j) ((s, l).1, SL.cst .undef) (s, l) | _ => (s, l)) = (s, l') ∧ (match l with | .var j => cond (Nat.beq i j) (SL.cst .undef) l | _ => l) = l' := by
      cases l with
      | st d => exact ⟨_, rfl, rfl⟩
      | cst a => exact ⟨_, rfl, rfl⟩
      | var j => cases hb : Nat.beq i j <;> simp [hb]
    obtain ⟨l', h1, h2⟩ := one
    rw [h1]
    by_cases hs : Nat.beq s u = true
    · rw [(two l' l' _).1 hs, (two l l _).1 hs, Option.map_some, h2]
    · rw [(two l' l' _).2 hs, (two l l _).2 hs]; exact lookupS_map i r u
theorem upd_getD (x : AV) (i j : Nat) (l : List AV) : (upd x i l).getD j .undef = if i = j ∧ i < l.length then x else l.getD j .undef := by
  rw [upd_eq]
  simp only [List.getD_eq_getElem?_getD, List.getElem?_set]
  by_cases h1 : i = j
  · subst h1
    by_cases h2 : i < l.length
    · simp [h2]
    · simp [h2]
  · simp [h1]
theorem sig_var {e : SEnv} (hw : WF L N e) {t i : Nat} (ht : idxOf t L 0 = some i) (v : AV) (u : Nat) :
    (u = t → sig L (e.noVar i) (upd v i vars) stk u = v ∨ sig L (e.noVar i) (upd v i vars) stk u = .undef) ∧
    (u ≠ t → sig L (e.noVar i) (upd v i vars) stk u = sig L e vars stk u ∨ sig L (e.noVar i) (upd v i vars) stk u = .undef) := by
  unfold sig
  rw [resT_eq, resT_eq, show lookupS u (e.noVar i).m = _ from lookupS_map i e.m u]
  refine ⟨fun hu => ?_, fun hu => ?_⟩
  · subst hu
    rw [hw.none ht, ht]
    show (G.var i).ev (upd v i vars) stk = v ∨ (G.var i).ev (upd v i vars) stk = .undef
    rw [ev_var, upd_getD]
    split
    · exact .inl rfl
    · rename_i hc
      right
      simp only [List.getD_eq_getElem?_getD, List.getElem?_eq_none (show vars.length ≤ i by omega)]; rfl
  · cases hl : lookupS u e.m with
    | none =>
      cases hj : idxOf u L 0 with
      | none => exact .inl rfl
      | some j =>
        left
        show (G.var j).ev (upd v i vars) stk = (G.var j).ev vars stk
        rw [ev_var, ev_var, upd_getD, if_neg]
        rintro ⟨rfl, _⟩
        exact hu (idxOf_inj hj ht)
    | some l =>
      cases l with
      | st d => exact .inl rfl
      | cst a => exact .inl rfl
      | var j =>
        simp only [Option.map_some]
        cases hb : Nat.beq i j with
        | true => exact .inr rfl
        | false =>
          left
          show (G.var j).ev (upd v i vars) stk = (G.var j).ev vars stk
          rw [ev_var, ev_var, upd_getD, if_neg]
          rintro ⟨rfl, _⟩
          rw [Nat.beq_refl] at hb; cases hb
theorem wf_noVar {e : SEnv} (hw : WF L N e) (i : Nat) : WF L N (e.noVar i) := by
  have inv : ∀ u sl, (u, sl) ∈ (e.noVar i).m → (u, sl) ∈ e.m ∨ (sl = .cst .undef ∧ ∃ j, (u, SL.var j) ∈ e.m) := by
    intro u sl hm
    obtain ⟨⟨s, l⟩, h1, h2⟩ := List.mem_map.1 hm
    cases l with
    | st d => cases h2; exact .inl h1
    | cst a => cases h2; exact .inl h1
    | var j =>
      cases hb : Nat.beq i j with
      | true => simp only [hb, cond_true] at h2; cases h2; exact .inr ⟨rfl, j, h1⟩
      | false => simp only [hb, cond_false] at h2; cases h2; exact .inl h1
  refine ⟨fun u sl hm => ?_, fun u d hm => ?_, fun u d hm => ?_⟩
  · rcases inv u sl hm with h | ⟨_, j, h⟩
    · exact hw.key u sl h
    · exact hw.key u _ h
  · rcases inv u _ hm with h | ⟨h, _⟩
    · exact hw.dep u d h
    · cases h
  · rcases inv u _ hm with h | ⟨h, _⟩
    · exact hw.vr u d h
    · cases h
/-- an alias -/
theorem alias_inv {e e' : SEnv} {o : Oper} (h : aliasOf L e o = some e') : o.guard = none ∧ ∃ x t, o.op = .move x ∧ o.dst = some t ∧ idxOf t L 0 = none ∧
    ((∃ i, res L e x = .stk i ∧ e' = ⟨e.depth, (t, .st (e.depth - 1 - i)) :: e.m⟩) ∨ (∃ i, res L e x = .var i ∧ e' = ⟨e.depth, (t, .var i) :: e.m⟩) ∨ (∃ a, res L e x = .cst a ∧ e' = ⟨e.depth, (t, .cst a) :: e.m⟩)) := by
  unfold aliasOf at h
  split at h
  · rename_i x t hg ho hd
    have hdd : o.dst = some t ∧ idxOf t L 0 = none := by
      unfold dstOf at hd
      split at hd
      · rename_i t' ht'
        split at hd
        · cases hd
        · rename_i hi; cases hd; exact ⟨ht', hi⟩
      · cases hd
    refine ⟨hg, x, t, ho, hdd.1, hdd.2, ?_⟩
    split at h
    · rename_i i hr; cases h; exact .inl ⟨i, hr, rfl⟩
    · rename_i i hr; cases h; exact .inr (.inl ⟨i, hr, rfl⟩)
    · rename_i a hr; cases h; exact .inr (.inr ⟨a, hr, rfl⟩)
    · cases h
  · cases h
theorem resOf_stk {dep : Nat} {x : Option Nat} {l : Option SL} {i : Nat} (h : resOf dep x l = .stk i) : ∃ d, l = some (.st d) ∧ i = dep - 1 - d := by
  cases l with
  | none => cases x <;> cases h
  | some l => cases l <;> cases h; exact ⟨_, rfl, rfl⟩
theorem resOf_var {dep : Nat} {x : Option Nat} {l : Option SL} {i : Nat} (h : resOf dep x l = .var i) : l = some (.var i) ∨ l = none ∧ x = some i := by
  cases l with
  | none => cases x <;> cases h; exact .inr ⟨rfl, rfl⟩
  | some l => cases l <;> cases h; exact .inl rfl
theorem sig_alias {e e' : SEnv} (hw : WF L N e) {o : Oper} (h : aliasOf L e o = some e') (hb : ∀ x, o.op = .move x → inN N x = true) : ∃ x t, o.guard = none ∧ o.op = .move x ∧ o.dst = some t ∧ WF L N e' ∧ ∀ u, sig L e' vars stk u = if u = t then (res L e x).ev vars stk else sig L e vars stk u := by
  obtain ⟨hg, x, t, ho, hd, hi, h3⟩ := alias_inv h
  refine ⟨x, t, hg, ho, hd, ?_, ?_⟩
  · rcases h3 with ⟨i, hr, rfl⟩ | ⟨i, hr, rfl⟩ | ⟨a, hr, rfl⟩
    · refine ⟨fun u sl hm => ?_, fun u d hm => ?_, fun u d hm => ?_⟩ <;> rcases List.mem_cons.1 hm with h | h
      · cases h; exact hi
      · exact hw.key _ _ h
      · cases h
        cases x with
        | tmp s =>
          rw [show res L e (.tmp s) = resT L e s from rfl, resT_eq] at hr
          obtain ⟨d', h1, h2⟩ := resOf_stk hr
          have := hw.dep s d' (lookupS_mem h1)
          show e.depth - 1 - i < e.depth
          omega
        | const v => cases hr
        | global g => cases hr
        | func f => cases hr
      · exact hw.dep _ _ h
      · cases h
      · exact hw.vr _ _ h
    · refine ⟨fun u sl hm => ?_, fun u d hm => ?_, fun u d hm => ?_⟩ <;> rcases List.mem_cons.1 hm with h | h
      · cases h; exact hi
      · exact hw.key _ _ h
      · cases h
      · exact hw.dep _ _ h
      · cases h
        cases x with
        | tmp s =>
          rw [show res L e (.tmp s) = resT L e s from rfl, resT_eq] at hr
          rcases resOf_var hr with h1 | ⟨_, h1⟩
          · exact hw.vr s _ (lookupS_mem h1)
          · exact ⟨s, blt_iff.1 (hb _ ho), h1⟩
        | const v => cases hr
        | global g => cases hr
        | func f => cases hr
      · exact hw.vr _ _ h
    · refine ⟨fun u sl hm => ?_, fun u d hm => ?_, fun u d hm => ?_⟩ <;> rcases List.mem_cons.1 hm with h | h
      · cases h; exact hi
      · exact hw.key _ _ h
      · cases h
      · exact hw.dep _ _ h
      · cases h
      · exact hw.vr _ _ h
  · intro u
    unfold sig
    rw [resT_eq, resT_eq]
    by_cases hu : u = t
    · subst hu
      rw [if_pos rfl]
      rcases h3 with ⟨i, hr, rfl⟩ | ⟨i, hr, rfl⟩ | ⟨a, hr, rfl⟩ <;> simp only [lookupS, Nat.beq_refl, if_true, hr, resOf]
      cases x with
      | tmp s =>
        rw [show res L e (.tmp s) = resT L e s from rfl, resT_eq] at hr
        obtain ⟨d', h1, h2⟩ := resOf_stk hr
        have := hw.dep s d' (lookupS_mem h1)
        rw [show e.depth - 1 - (e.depth - 1 - i) = i by omega]
      | const v => cases hr
      | global g => cases hr
      | func f => cases hr
    · rw [if_neg hu]
      have hb : ¬ (Nat.beq t u = true) := fun hb => hu (beq_iff.1 hb).symm
      rcases h3 with ⟨i, hr, rfl⟩ | ⟨i, hr, rfl⟩ | ⟨a, hr, rfl⟩ <;> (rw [lookupS, if_neg hb])

/-- the slots hold what the environment says -/
def EnvOk (L : List Nat) (N : Nat) (e : SEnv) (ρ : Emb) (vars stk : List AV) (a : Act) : Prop := ∀ t, t < N → RV ρ (sig L e vars stk t) (a.eval (.tmp t))
theorem EnvOk.operand {N : Nat} {e : SEnv} {a : Act} (h : EnvOk L N e ρ vars stk a) {x : Operand} (hx : inN N x = true) : RV ρ ((res L e x).ev vars stk) (a.eval x) := by
  cases x with
  | tmp t => exact h t (blt_iff.1 hx)
  | const v => exact conv_rv v
  | global g => exact .undef _
  | func f => exact .fn (.func f) [] [] #[] #[] rfl rfl (by simp) (by simp)
theorem EnvOk.mono {N : Nat} {e : SEnv} {a : Act} {ρ' : Emb} (h : EnvOk L N e ρ vars stk a) (hle : ρ.le ρ') : EnvOk L N e ρ' vars stk a := fun t ht => (h t ht).mono hle
theorem put_eval (a : Act) (t : Nat) (y : Value) (ht : t < a.tmps.size) (u : Nat) : (a.put (some t) y).eval (.tmp u) = if u = t then y else a.eval (.tmp u) := by
  show (a.tmps.setIfInBounds t y).getD u undef = _
  simp only [Array.getD_eq_getD_getElem?]
  by_cases hu : u = t
  · subst hu; simp [ht]
  · rw [if_neg hu, Array.getElem?_setIfInBounds_ne (fun e => hu e.symm)]
    show _ = a.tmps.getD u undef
    simp only [Array.getD_eq_getD_getElem?]
theorem put_size (a : Act) (d : Option Tmp) (y : Value) : (a.put d y).tmps.size = a.tmps.size := by
  cases d with
  | none => rfl
  | some t => simp [Act.put]
/-- variables and stack behind an operation -/
noncomputable def Dst.vs : Dst → AV → List AV → List AV
  | .var i, v, vars => upd v i vars
  | _, _, vars => vars
noncomputable def Dst.ss : Dst → AV → List AV → List AV
  | .push _, v, stk => v :: stk
  | _, _, stk => stk
theorem dst_k (d : Dst) (c : Clos) (rec : Rec) (v : AV) : d.k c rec v vars stk h = c rec (d.vs v vars) (d.ss v stk) h := by cases d <;> rfl
/-- what the environment says behind an operation -/
theorem sig_after {e : SEnv} (hw : WF L N e) (o : Option Tmp) (v : AV) (u : Nat) :
    (o = some u → sig L (e.after (dstOf L o)) ((dstOf L o).vs v vars) ((dstOf L o).ss v stk) u = v ∨ sig L (e.after (dstOf L o)) ((dstOf L o).vs v vars) ((dstOf L o).ss v stk) u = .undef) ∧
    (o ≠ some u → sig L (e.after (dstOf L o)) ((dstOf L o).vs v vars) ((dstOf L o).ss v stk) u = sig L e vars stk u ∨ sig L (e.after (dstOf L o)) ((dstOf L o).vs v vars) ((dstOf L o).ss v stk) u = .undef) := by
  cases o with
  | none =>
    constructor
    · intro h; cases h
    · intro _; exact .inl rfl
  | some t =>
    cases hi : idxOf t L 0 with
    | none =>
      rw [show dstOf L (some t) = .push t by simp only [dstOf, hi]]
      have := sig_push (vars := vars) (stk := stk) hw hi v u
      refine ⟨fun h => ?_, fun h => ?_⟩
      · cases h; left; exact this.trans (if_pos rfl)
      · left; exact this.trans (if_neg fun e => h (by rw [e]))
    | some i =>
      rw [show dstOf L (some t) = .var i by simp only [dstOf, hi]]
      have := sig_var (vars := vars) (stk := stk) hw hi v u
      exact ⟨fun h => this.1 (by cases h; rfl), fun h => this.2 fun e => h (by rw [e])⟩
theorem wf_after {e : SEnv} (hw : WF L N e) (o : Option Tmp) : WF L N (e.after (dstOf L o)) := by
  cases o with
  | none => exact hw
  | some t =>
    cases hi : idxOf t L 0 with
    | none => rw [show dstOf L (some t) = .push t by simp only [dstOf, hi]]; exact wf_push hw hi
    | some i => rw [show dstOf L (some t) = .var i by simp only [dstOf, hi]]; exact wf_noVar hw i
theorem EnvOk.put {e : SEnv} (hw : WF L N e) {a : Act} (he : EnvOk L N e ρ vars stk a) (o : Option Tmp) {v : AV} {y : Value} (hv : RV ρ v y) (hd : ∀ t, o = some t → t < a.tmps.size) :
    EnvOk L N (e.after (dstOf L o)) ρ ((dstOf L o).vs v vars) ((dstOf L o).ss v stk) (a.put o y) := by
  intro u hu
  have hs := sig_after (vars := vars) (stk := stk) hw o v u
  by_cases ho : o = some u
  · subst ho
    rw [put_eval a u y (hd u rfl), if_pos rfl]
    rcases hs.1 rfl with h | h <;> rw [h]
    · exact hv
    · exact .undef _
  · have : (a.put o y).eval (.tmp u) = a.eval (.tmp u) := by
      cases o with
      | none => rfl
      | some t => rw [put_eval a t y (hd t rfl), if_neg fun e => ho (by rw [e])]
    rw [this]
    rcases hs.2 ho with h | h <;> rw [h]
    · exact he u hu
    · exact .undef _
theorem EnvOk.alias {e e' : SEnv} (hw : WF L N e) {a : Act} (he : EnvOk L N e ρ vars stk a) {o : Oper} (h : aliasOf L e o = some e') {x : Operand} (hx : o.op = .move x) (hb : inN N x = true) (hd : ∀ t, o.dst = some t → t < a.tmps.size) :
    EnvOk L N e' ρ vars stk (a.put o.dst (a.eval x)) := by
  obtain ⟨x', t, hg, ho, hdst, hwf, hsig⟩ := sig_alias (vars := vars) (stk := stk) hw h (fun y hy => by rw [hx] at hy; cases hy; exact hb)
  rw [hx] at ho; cases ho
  intro u hu
  rw [hdst, put_eval a t _ (hd t hdst), hsig u]
  split
  · exact he.operand hb
  · exact he u hu
theorem EnvOk.env0 {e : SEnv} (hw : WF L N e) {a : Act} (he : EnvOk L N e ρ vars stk a) (stk' : List AV) : EnvOk L N env0 ρ vars stk' a := by
  intro u hu
  have h := he u hu
  unfold sig at h ⊢
  rw [resT_eq] at h ⊢
  show RV ρ ((resOf 0 (idxOf u L 0) none).ev vars stk') _
  cases hi : idxOf u L 0 with
  | none => exact .undef _
  | some i =>
    rw [hw.none hi, hi] at h
    exact h
/-- a change of a variable that is no slot of the function -/
theorem sig_other {e : SEnv} (hw : WF L N e) {D i : Nat} (hD : idxOf D L 0 = some i) (hND : N ≤ D) (v : AV) {t : Nat} (ht : t < N) : sig L e (upd v i vars) stk t = sig L e vars stk t := by
  have go : ∀ j, (∃ u, u < N ∧ idxOf u L 0 = some j) → (G.var j).ev (upd v i vars) stk = (G.var j).ev vars stk := by
    rintro j ⟨u, hu, hj⟩
    rw [ev_var, ev_var, upd_getD, if_neg]
    rintro ⟨rfl, _⟩
    have := idxOf_inj hj hD
    omega
  unfold sig
  rw [resT_eq]
  cases hl : lookupS t e.m with
  | none =>
    cases hi : idxOf t L 0 with
    | none => rfl
    | some j => exact go j ⟨t, ht, hi⟩
  | some l =>
    cases l with
    | st d => rfl
    | cst a => rfl
    | var j => exact go j (hw.vr t j (lookupS_mem hl))
end
end Go.Ev
