/- A part of the proof that CheckEnds returns true at every number: EvApp1 EvApp2 EvApp3. Conditions: none. -/
import Derived.Test.YtbdgggffdcgjbaaGreatDoorE02
import Derived.Laws.Append
set_option linter.all false
set_option linter.unusedVariables false
set_option linter.unusedSectionVars false
set_option linter.unusedSimpArgs false
namespace Go.Ev
set_option autoImplicit false
variable [Rounds]
open Go

section
variable {P : Program} {ρ : Emb} {h : AH} {w : World} {k : K} {vars stk : List AV}
theorem rdChunks_inv {t : PM (List AV)} : ∀ {n e : Nat} {ls : List (List AV)}, rdChunks t n e = some ls → ls.length = n ∧ ∀ j x, ls[j]? = some x → t.getN (e + j) = some x
  | 0, e, ls, hl => by cases hl; exact ⟨rfl, fun j x hx => by simp at hx⟩
  | n + 1, e, ls, hl => by
    change @Option.rec (List AV) (fun _ => Option (List (List AV))) none (fun l => @Option.rec (List (List AV)) (fun _ => Option (List (List AV))) none (fun r => some (l :: r)) (rdChunks t n (e + 1))) (t.getN e) = some ls at hl
    cases h1 : t.getN e with
    | none => rw [h1] at hl; cases hl
    | some l =>
      rw [h1] at hl
      cases h2 : rdChunks t n (e + 1) with
      | none => rw [h2] at hl; cases hl
      | some r =>
        rw [h2] at hl
        cases hl
        obtain ⟨a1, a2⟩ := rdChunks_inv h2
        refine ⟨by simp [a1], fun j x hx => ?_⟩
        cases j with
        | zero => cases hx; exact h1
        | succ j => rw [show e + (j + 1) = e + 1 + j by omega]; exact a2 j x hx
theorem getN_putChunks (new : List (List AV)) : ∀ (i : Nat) (t : PM (List AV)) (e : Nat), i + new.length < 2 ^ 39 → (putChunks new i t).getN e = if i ≤ e ∧ e < i + new.length then new[e - i]? else t.getN e := by
  induction new with
  | nil => intro i t e _; rw [if_neg (by simp)]; rfl
  | cons l r ih =>
    intro i t e hb
    simp only [List.length_cons] at hb ⊢
    show (putChunks r (i + 1) (t.setN l 40 i)).getN e = _
    rw [ih _ _ _ (by omega), PM.getN_setN _ 40 i (by omega)]
    by_cases h1 : i + 1 ≤ e ∧ e < i + 1 + r.length
    · rw [if_pos h1, if_pos (by omega), show e - i = (e - (i + 1)) + 1 by omega, List.getElem?_cons_succ]
    · rw [if_neg h1]
      by_cases h2 : e = i
      · subst h2; rw [if_pos rfl, if_pos (by omega), Nat.sub_self]; rfl
      · rw [if_neg h2, if_neg (by omega)]
/-- a chunk that stands in a row of cells -/
def Good (ρ : Emb) (c : Array Value) (base sz n e : Nat) (ls : List AV) : Prop :=
  e < n ∧ ls.length = sz ∧ ∀ (i : Nat) (a : AV), ls[i]? = some a → ∃ y, c[base + e * sz + i]? = some y ∧ y.oneCell' = true ∧ RV ρ a y
theorem put_good {new : List (List AV)} {i : Nat} {t : PM (List AV)} (hb : i + new.length < 2 ^ 39) {G : Nat → List AV → Prop} (h1 : ∀ e ls, t.getN e = some ls → ¬ (i ≤ e ∧ e < i + new.length) → G e ls)
    (h2 : ∀ j ls, new[j]? = some ls → G (i + j) ls) : ∀ e ls, (putChunks new i t).getN e = some ls → G e ls := by
  intro e ls he
  rw [getN_putChunks new i t e hb] at he
  split at he
  · rename_i hc
    have := h2 (e - i) ls he
    rwa [show i + (e - i) = e by omega] at this
  · rename_i hc
    exact h1 e ls he hc

/-- what is appended: the model's row of cells -/
structure SrcOk (P : Program) (ρ : Emb) (w : World) (sz : Nat) (X : Value) (new : List (List AV)) (news : List Value) : Prop where
  len : ∀ w', (Builtin.lenOf X).run P w' = .ok new.length w'
  size : news.length = new.length * sz
  each : ∀ j ls, new[j]? = some ls → ls.length = sz ∧ ∀ (i : Nat) (a : AV), ls[i]? = some a → ∃ y, news[j * sz + i]? = some y ∧ y.oneCell' = true ∧ RV ρ a y
  run : ∀ w', w'.heap = w.heap → (Builtin.firstCells sz new.length X).run P w' = .ok news.toArray w'
theorem SrcOk.one {sz : Nat} {X : Value} {new : List (List AV)} {news : List Value} (s : SrcOk P ρ w sz X new news) : ∀ v ∈ news, v.oneCell' = true := by
  intro v hv
  obtain ⟨q, hq⟩ := List.mem_iff_getElem?.1 hv
  have hlt : q < new.length * sz := by rw [← s.size]; exact (List.getElem?_eq_some_iff.1 hq).1
  have hpos : 0 < sz := by rcases Nat.eq_zero_or_pos sz with h | h; rw [h] at hlt; omega; exact h
  have hj : q / sz < new.length := by rwa [Nat.div_lt_iff_lt_mul hpos]
  obtain ⟨h1, h2⟩ := s.each (q / sz) _ (List.getElem?_eq_getElem hj)
  have hi : q % sz < (new[q / sz]).length := by rw [h1]; exact Nat.mod_lt _ hpos
  obtain ⟨y, y1, y2, _⟩ := h2 (q % sz) _ (List.getElem?_eq_getElem hi)
  rw [show q / sz * sz + q % sz = q by rw [Nat.mul_comm]; exact Nat.div_add_mod q sz, hq] at y1
  cases y1; exact y2
theorem src_nil {sz ln cap : Nat} (hl : ln = 0) (base : Option Addr) : SrcOk P ρ w sz (.slice base ln cap) [] [] := by
  subst hl
  refine ⟨fun w' => rfl, by simp, fun j ls h => by simp at h, fun w' _ => ?_⟩
  cases base with
  | none => rfl
  | some a => simp [Builtin.firstCells, loadCells, loadCellsFrom]
theorem src_slice (r : Rel ρ h w) {b : Pos} {e ln cap : Nat} {ex : Bool} {sz : Nat} {X : Value} (hx : RV ρ (.slice b e ln cap ex sz) X) {new : List (List AV)} (hs : rdChunks (datOf (h.obj b)) ln e = some new) :
    ∃ news, SrcOk P ρ w sz X new news := by
  obtain ⟨hlen, hch⟩ := rdChunks_inv hs
  cases hx with
  | slice _ _ _ _ _ _ l hb hsz kb off cap' h1 h2 h3 h4 h5 h6 =>
  rcases Nat.eq_zero_or_pos ln with h0 | h0
  · have : new = [] := List.length_eq_zero_iff.1 (hlen.trans h0)
    subst this
    exact ⟨[], src_nil h0 _⟩
  · obtain ⟨rfl, rfl⟩ := h4 (by omega)
    have hlast : new[ln - 1]? = some new[ln - 1] := List.getElem?_eq_getElem (by omega)
    have hl := hch _ _ hlast
    cases ho : h.obj b with
    | none => rw [ho] at hl; change (PM.e : PM (List AV)).getN _ = _ at hl; rw [PM.getN_e] at hl; cases hl
    | some o =>
    rw [ho] at hl hch
    have ob := r.obj b _ ho l hb
    cases o with
    | dat sz' m t =>
      change t.getN (e + (ln - 1)) = _ at hl
      cases ob with
      | dat _ _ _ c el fr hw hsz' hlim hfr hin hnn hc =>
      subst hsz
      subst hsz'
      have hm := (hc _ _ hl).1
      have hup : (e + ln) * l.sz ≤ m * l.sz := Nat.mul_le_mul_right _ (by omega)
      rw [Nat.add_mul] at hup
      have hcs : l.sh + e * l.sz + ln * l.sz ≤ c.size := by omega
      have hnl : ((c.extract (l.sh + e * l.sz) (l.sh + e * l.sz + ln * l.sz)).toList).length = ln * l.sz := by simp; omega
      have get : ∀ q, q < ln * l.sz → ((c.extract (l.sh + e * l.sz) (l.sh + e * l.sz + ln * l.sz)).toList)[q]? = c[l.sh + e * l.sz + q]? := by
        intro q hq
        rw [Array.getElem?_toList, Array.getElem?_extract, if_pos (by omega)]
      refine ⟨(c.extract (l.sh + e * l.sz) (l.sh + e * l.sz + ln * l.sz)).toList, fun w' => by rw [hlen]; rfl, by rw [hnl, hlen], fun j ls hj => ?_, fun w' hh => ?_⟩
      · have hj' : j < ln := by rw [← hlen]; exact (List.getElem?_eq_some_iff.1 hj).1
        obtain ⟨g1, g2, g3⟩ := hc _ _ (hch j ls hj)
        refine ⟨g2, fun i a ha => ?_⟩
        obtain ⟨y, y1, y2, y3⟩ := g3 i a ha
        have hi : i < l.sz := by rw [← g2]; exact (List.getElem?_eq_some_iff.1 ha).1
        have hlt : j * l.sz + i < ln * l.sz := by
          have : (j + 1) * l.sz ≤ ln * l.sz := Nat.mul_le_mul_right _ hj'
          rw [Nat.add_mul, Nat.one_mul] at this; omega
        refine ⟨y, ?_, y2, y3⟩
        rw [get _ hlt, ← y1, Nat.add_mul]; congr 1; omega
      · rw [hlen]
        refine run_firstCells_some w' l.sz ln _ ln cap' _ hnl fun j v hv => ?_
        have hj : j < ln * l.sz := by rw [← hnl]; exact (List.getElem?_eq_some_iff.1 hv).1
        rw [get j hj] at hv
        have hw' : w'.heap[l.cb]? = some (.cells c el fr) := by rw [hh]; exact hw
        have := cell_of hw' hv
        rw [addr_add, ← Nat.add_assoc]; exact this
    | _ => change (PM.e : PM (List AV)).getN _ = _ at hl; rw [PM.getN_e] at hl; cases hl
theorem strChunks_get : ∀ (n s j : Nat) (ls : List AV), (strChunks n s)[j]? = some ls → j < n ∧ ls = [.byte (sIdx s j)]
  | 0, s, j, ls, h => by simp [strChunks] at h
  | n + 1, s, 0, ls, h => by
    simp only [strChunks, List.getElem?_cons_zero, Option.some.injEq] at h
    refine ⟨by omega, ?_⟩
    rw [← h, sIdx_eq]; simp
  | n + 1, s, j + 1, ls, h => by
    simp only [strChunks, List.getElem?_cons_succ] at h
    obtain ⟨h1, h2⟩ := strChunks_get n (s / 256) j ls h
    refine ⟨by omega, ?_⟩
    rw [h2, sIdx_eq, sIdx_eq, Nat.div_div_eq_div_mul, Nat.pow_succ, Nat.mul_comm 256]
theorem strChunks_len : ∀ (n s : Nat), (strChunks n s).length = n
  | 0, _ => rfl
  | n + 1, s => by simp [strChunks, strChunks_len n]
theorem src_str {n ln : Nat} {X : Value} (hx : RV ρ (.str n ln) X) : ∃ news, SrcOk P ρ w 1 X (strChunks ln n) news := by
  cases hx with
  | str _ _ a1 a2 s hs =>
  have hsz : s.size = ln := by show s.data.size = ln; rw [← Array.length_toList, hs, strB_length]
  refine ⟨(s.data.map fun b => Value.int .u8 b.toNat).toList, fun w' => ?_, ?_, fun j ls hj => ?_, fun w' _ => ?_⟩
  · rw [strChunks_len, ← hsz]; rfl
  · rw [strChunks_len, ← hsz, Array.length_toList, Array.size_map, Nat.mul_one]; rfl
  · obtain ⟨h1, rfl⟩ := strChunks_get _ _ _ _ hj
    refine ⟨rfl, fun i a ha => ?_⟩
    cases i with
    | zero =>
      cases ha
      refine ⟨.int .u8 (sIdx n j : Nat), ?_, rfl, .byte _ (sIdx_lt _ _)⟩
      rw [Nat.mul_one, Nat.add_zero, Array.toList_map, List.getElem?_map, hs, strB_get _ _ _ h1]
      have hlt := sIdx_lt n j
      simp [UInt8.toNat_ofNat', Nat.mod_eq_of_lt hlt]
    | succ i => simp at ha
  · rw [strChunks_len]
    have e1 : s.extract 0 ln = s := by rw [← hsz]; exact ByteArray.extract_zero_size
    simp only [Builtin.firstCells, e1, Sem.run_pure]
theorem src_ok (r : Rel ρ h w) {sz : Nat} {x : AV} {X : Value} (hx : RV ρ x X) {new : List (List AV)} (hs : srcChunks sz x h = some new) : ∃ news, SrcOk P ρ w sz X new news := by
  unfold srcChunks at hs
  split at hs
  · cases hs; cases hx; exact ⟨[], src_nil rfl _⟩
  · rename_i b e ln cap ex z
    cases hz : Nat.beq z sz with
    | false => rw [hz] at hs; cases hs
    | true =>
      rw [hz] at hs
      have := beq_iff.1 hz
      subst this
      exact src_slice r hx hs
  · rename_i n ln
    cases hz : Nat.beq 1 sz with
    | false => rw [hz] at hs; cases hs
    | true =>
      rw [hz] at hs
      have := beq_iff.1 hz
      subst this
      cases hs
      exact src_str hx
  · cases hs
end
end Go.Ev
namespace Go.Ev
set_option autoImplicit false
variable [Rounds]
open Go

section
variable {P : Program} {ρ : Emb} {h : AH} {w : World} {k : K} {vars stk : List AV}
theorem stp_del (r : Rel ρ h w) {b : Pos} {l : Loc} (hb : ρ b = some l) : Stp ρ h w ρ (h.del b) w := by
  refine ⟨fun _ _ e => e, r.del b, by rw [AH.nx_del]; exact Nat.le_refl _, rfl, rfl, rfl, Nat.le_refl _, fun _ _ _ => rfl, fun p l' hp hl' => ?_, fun p hp e => ?_, Nat.le_refl _⟩
  · rw [AH.obj_del] at hp
    by_cases e : p = b
    · rw [if_pos e] at hp; exact absurd rfl hp
    · rw [if_neg e] at hp; exact .inr ⟨p, l', hp, hl', rfl⟩
  · refine ⟨e, ?_⟩
    rw [AH.obj_del, if_neg]
    rintro rfl; rw [hb] at e; cases e
/-- a block goes on under another name -/
theorem stp_move (r : Rel ρ h w) {b : Pos} {o : Obj} {l : Loc} (hp : h.obj b = some o) (hl : ρ b = some l) (l' : Loc) (hc : l'.cb = l.cb) (o' : Obj) {w' : World} {co : Go.Obj} (a : OnlyAt w w' l.cb co)
    (ho : ObjRel (ρ.set h.nx l') w' l' o') : Stp ρ h w (ρ.set h.nx l') ((h.del b).new o') w' := by
  have hn := r.nx_none
  have hle := Emb.le_set l' hn
  have obj : ∀ p, ((h.del b).new o').obj p = if p = h.nx then some o' else if p = b then none else h.obj p := by
    intro p
    rw [AH.obj_new, AH.nx_del, AH.obj_del]
  have old : ∀ {p}, p ≠ h.nx → ((h.del b).new o').obj p ≠ none → p ≠ b ∧ h.obj p ≠ none := by
    intro p e hq
    rw [obj, if_neg e] at hq
    by_cases e2 : p = b
    · rw [if_pos e2] at hq; exact absurd rfl hq
    · rw [if_neg e2] at hq; exact ⟨e2, hq⟩
  have ρ' : ∀ {p m}, p ≠ h.nx → (ρ.set h.nx l') p = some m → ρ p = some m := fun e hm => by simpa [Emb.set, e] using hm
  have away : ∀ {p m}, p ≠ b → h.obj p ≠ none → ρ p = some m → m.cb ≠ l.cb := fun e hq hm e' => e (r.inj _ b _ l hq (by simp [hp]) hm hl e')
  refine ⟨hle, ⟨?_, ?_, ?_, ?_⟩, ?_, a.os, a.tape, a.output, Nat.le_of_eq a.size.symm, ?_, ?_, ?_, a.dr⟩
  · intro p o2 hq m hm
    by_cases e : p = h.nx
    · subst e
      rw [obj, if_pos rfl] at hq
      rw [Emb.set_same] at hm
      cases hq; cases hm; exact ho
    · obtain ⟨e2, hq2⟩ := old e (by simp [hq])
      rw [obj, if_neg e, if_neg e2] at hq
      have hm := ρ' e hm
      exact ((r.obj p o2 hq m hm).world (a.rest _ (away e2 hq2 hm))).mono hle
  · intro p q m n hp' hq' hm hn' e
    by_cases ep : p = h.nx
    · by_cases eq : q = h.nx
      · exact ep.trans eq.symm
      · exfalso
        obtain ⟨e2, hq2⟩ := old eq hq'
        have hn2 := ρ' eq hn'
        have : m = l' := by rw [ep, Emb.set_same] at hm; exact (Option.some.inj hm).symm
        subst this
        exact away e2 hq2 hn2 (e.symm.trans hc)
    · obtain ⟨e1, hp2⟩ := old ep hp'
      have hm2 := ρ' ep hm
      by_cases eq : q = h.nx
      · exfalso
        have : n = l' := by rw [eq, Emb.set_same] at hn'; exact (Option.some.inj hn').symm
        subst this
        exact away e1 hp2 hm2 (e.trans hc)
      · obtain ⟨e2, hq2⟩ := old eq hq'
        exact r.inj p q m n hp2 hq2 hm2 (ρ' eq hn') e
  · intro p m hm
    rw [AH.nx_new, AH.nx_del, Pos.num_succ]
    by_cases e : p = h.nx
    · subst e; omega
    · have := r.fresh1 p m (ρ' e hm); omega
  · intro p hq
    rw [AH.nx_new, AH.nx_del, Pos.num_succ]
    by_cases e : p = h.nx
    · subst e; omega
    · have := r.fresh2 p (old e hq).2; omega
  · rw [AH.nx_new, AH.nx_del, Pos.num_succ]; omega
  · intro k hk hn'
    exact a.rest k fun e => hn' b l (by simp [hp]) hl e.symm
  · intro p m hq hm
    right
    by_cases e : p = h.nx
    · have : m = l' := by rw [e, Emb.set_same] at hm; exact (Option.some.inj hm).symm
      subst this
      exact ⟨b, l, by simp [hp], hl, hc.symm⟩
    · exact ⟨p, m, (old e hq).2, ρ' e hm, rfl⟩
  · intro p hlt e
    have ne : p ≠ h.nx := fun e => by subst e; omega
    have ne2 : p ≠ b := fun e' => by subst e'; rw [hl] at e; cases e
    exact ⟨by simp [Emb.set, ne, e], by rw [obj, if_neg ne, if_neg ne2]⟩

theorem onlyAt_cells {b : Nat} {c : Array Value} {el : TypeId} {fr : Nat × Nat} (hw : w.heap[b]? = some (.cells c el fr)) (o : Nat) (vs : List Value) : OnlyAt w (w.setCells b o vs) b (.cells (setL c o vs) el fr) :=
  ⟨(setCells_os _ _ _ _).1, (setCells_os _ _ _ _).2.1, (setCells_os _ _ _ _).2.2, setCells_size _ _ _ _, fun k hk => setCells_other _ _ _ _ _ hk, setCells_heap _ _ _ _ _ _ _ hw, Nat.le_of_eq (setCells_drawn _ _ _ _).symm⟩
theorem run_storeRow {b : Nat} {c : Array Value} {el : TypeId} (hw : w.heap[b]? = some (.cells c el (0, 0))) (o : Nat) (vs : List Value) (h1 : ∀ v ∈ vs, v.oneCell' = true) (hb : o + vs.length ≤ c.size) :
    (storeCells ⟨b, o, none⟩ vs).run P w = .ok () (w.setCells b o vs) := by
  have := run_storeCells_cells (P := P) b o vs 0 w (fun j hj => ?_) (fun j hj => ?_) h1
  · simpa using this
  · have : ∃ u, c[o + j]? = some u := ⟨_, Array.getElem?_eq_getElem (by omega)⟩
    obtain ⟨u, hu⟩ := this
    rw [cell_of hw (by simpa using hu)]; rfl
  · simp [World.frozen?, hw]

/-- what is common to all appends -/
structure AppT (P : Program) (t u e : TypeId) (i : TypeInfo) (Z : Value) : Prop where
  ht : P.underlying t = some (.slice e)
  hu : noIntT (P.underlying u) = true
  hi : P.info? e = some i
  hz : i.zero = some Z
  hb : i.bytes ≤ 1000000
  hs : Z.cells.size = i.size

theorem app_in {t u e ty : TypeId} {i : TypeInfo} {Z : Value} (A : AppT P t u e i Z) {base : Option Addr} {sLen sCap : Nat} {X : Value} {new : List (List AV)} {news : List Value} (s : SrcOk P ρ w i.size X new news) (hc : sLen + new.length ≤ sCap)
    {w' : World} (hst : (match base with | some a => storeCells (a.add (sLen * i.size)) news | none => pure () : Sem Unit).run P w = .ok () w') :
    (Builtin.append_ #[t, u] ty #[.slice base sLen sCap, X]).run P w = .ok (.slice base (sLen + new.length) sCap) w' := by
  have hu := A.hu
  cases hu' : P.underlying u with
  | none => rw [hu'] at hu; cases hu
  | some d =>
    rw [hu'] at hu
    cases base with
    | none =>
      have e := hst
      simp at e
      subst e
      cases d <;> first | (cases hu; done) | simp [Builtin.append_, run_underlying A.ht, run_underlying hu', sizeOf, typeInfo, A.hi, s.len, hc, s.run w rfl]
    | some a =>
      have e := hst
      simp at e
      cases d <;> first | (cases hu; done) | simp [Builtin.append_, run_underlying A.ht, run_underlying hu', sizeOf, typeInfo, A.hi, s.len, hc, s.run w rfl, e]
theorem app_grow {t u e ty : TypeId} {i : TypeInfo} {Z : Value} (A : AppT P t u e i Z) {base : Option Addr} {sLen sCap : Nat} {X : Value} {new : List (List AV)} {olds news : List Value} (s : SrcOk P ρ w i.size X new news) 
    (so : ∀ w', w'.heap = w.heap → (Builtin.firstCells i.size sLen (.slice base sLen sCap)).run P w' = .ok olds.toArray w') (hc : sCap < sLen + new.length) (hb : sLen + new.length ≤ 100000000) :
    ∃ n, sLen + new.length ≤ n ∧ (Builtin.append_ #[t, u] ty #[.slice base sLen sCap, X]).run P w = .ok (.slice (some ⟨w.heap.size, 0, none⟩) (sLen + new.length) n) (w.drew.alloc (.cells ((olds ++ news).toArray ++ Builtin.zeroCells Z.cells (n - (sLen + new.length))) e)) := by
  refine ⟨grownCap w (sLen + new.length) sCap e, by unfold grownCap; simp only [Question.cut]; omega, ?_⟩
  have hu := A.hu
  have hfit : Builtin.nextslicecap (sLen + new.length) sCap * i.bytes ≤ 281474976710656 := by
    refine growslice_fits hc ?_
    have := Nat.mul_le_mul hb A.hb
    omega
  cases hu' : P.underlying u with
  | none => rw [hu'] at hu; cases hu
  | some d =>
    rw [hu'] at hu
    have hn : ¬ (sLen + new.length ≤ sCap) := by omega
    have h63' : ¬ (9223372036854775807 < ((sLen : Int) + (new.length : Int))) := by omega
    have h48' : ¬ (281474976710656 < Builtin.nextslicecap (sLen + new.length) sCap * i.bytes) := by omega
    have hf := s.run w.drew rfl
    have hfo := so w.drew rfl
    cases d <;> first | (cases hu; done) | (simp [Builtin.append_, run_underlying A.ht, run_underlying hu', sizeOf, typeInfo, zeroValue, A.hi, A.hz, s.len, hn, h63', h48', Question.forced, hf, hfo, newRow, grownCap]; congr 2; apply Array.ext'; simp [List.append_assoc])
end
end Go.Ev
namespace Go.Ev
set_option autoImplicit false
variable [Rounds]
open Go

section
variable {P : Program} {ρ : Emb} {h : AH} {w : World} {k : K} {vars stk : List AV}
theorem zeroCells_size (z : Array Value) (n : Nat) : (Builtin.zeroCells z n).size = n * z.size := by simp [Builtin.zeroCells]
theorem stp_drew (r : Rel ρ h w) : Stp ρ h w ρ h w.drew := stp_same r _ rfl rfl rfl rfl (Nat.le_succ _)
theorem mul_lt_of {a b n : Nat} (h : a < n) (hb : b < 1 + 0) : True := trivial
theorem row_lt {e sz n i : Nat} (he : e < n) (hi : i < sz) : e * sz + i < n * sz := by
  have : (e + 1) * sz ≤ n * sz := Nat.mul_le_mul_right _ he
  rw [Nat.add_mul, Nat.one_mul] at this; omega
/-- a chunk in a plain row -/
def Good0 (ρ : Emb) (c : List Value) (sz e : Nat) (ls : List AV) : Prop := ls.length = sz ∧ ∀ (i : Nat) (a : AV), ls[i]? = some a → ∃ y, c[e * sz + i]? = some y ∧ y.oneCell' = true ∧ RV ρ a y
/-- a new row: the old chunks, the new ones, zeros -/
theorem grow_new (r : Rel ρ h w) {sz ln : Nat} {X : Value} {new : List (List AV)} {olds news : List Value} (s : SrcOk P ρ w sz X new news) (hol : olds.length = ln * sz) (el : TypeId) {n : Nat} (hn : ln + new.length ≤ n)
    (hb : ln + new.length ≤ 100000000) {z : Array Value} (hz : z.size = sz) (t : PM (List AV)) (ht : ∀ e ls, t.getN e = some ls → (e < ln ∧ Good0 ρ olds sz e ls) ∨ (ln ≤ e ∧ new[e - ln]? = some ls)) :
    ∃ ρ' w', w' = w.drew.alloc (.cells ((olds ++ news).toArray ++ Builtin.zeroCells z (n - (ln + new.length))) el) ∧
      Stp ρ h w ρ' (h.new (.dat sz (ln + new.length) t)) w' ∧
      RV ρ' (.slice h.nx 0 (ln + new.length) (ln + new.length) false sz) (.slice (some ⟨w.heap.size, 0, none⟩) (ln + new.length) n) := by
  have hnl := s.size
  have hcs : ((olds ++ news).toArray ++ Builtin.zeroCells z (n - (ln + new.length))).size = n * sz := by
    rw [Array.size_append, zeroCells_size, hz]
    simp only [List.size_toArray, List.length_append, hol, hnl]
    rw [← Nat.add_mul, ← Nat.add_mul]; congr 1; omega
  have hle : (ln + new.length) * sz ≤ n * sz := Nat.mul_le_mul_right _ hn
  have st0 := stp_drew r
  have get1 : ∀ q, q < olds.length → ((olds ++ news).toArray ++ Builtin.zeroCells z (n - (ln + new.length)))[q]? = olds[q]? := by
    intro q hq
    rw [Array.getElem?_append_left (by simp; omega)]
    simp only [List.getElem?_toArray]
    rw [List.getElem?_append_left hq]
  have get2 : ∀ q, q < news.length → ((olds ++ news).toArray ++ Builtin.zeroCells z (n - (ln + new.length)))[olds.length + q]? = news[q]? := by
    intro q hq
    rw [Array.getElem?_append_left (by simp; omega)]
    simp only [List.getElem?_toArray]
    rw [List.getElem?_append_right (by omega)]; congr 1; omega
  have st := stp_row st0.rel ((olds ++ news).toArray ++ Builtin.zeroCells z (n - (ln + new.length))) el sz (ln + new.length) t (by rw [hcs]; exact hle) hb (by
    intro e ls he
    rcases ht e ls he with ⟨h2, l1, l2⟩ | ⟨h1, h2⟩
    · refine ⟨by omega, l1, fun i a ha => ?_⟩
      obtain ⟨y, y1, y2, y3⟩ := l2 i a ha
      have hi : i < sz := by rw [← l1]; exact (List.getElem?_eq_some_iff.1 ha).1
      exact ⟨y, by rw [get1 _ (by rw [hol]; exact row_lt h2 hi)]; exact y1, y2, y3⟩
    · obtain ⟨l1, l2⟩ := s.each _ ls h2
      have hlt : e - ln < new.length := (List.getElem?_eq_some_iff.1 h2).1
      refine ⟨by omega, l1, fun i a ha => ?_⟩
      obtain ⟨y, y1, y2, y3⟩ := l2 i a ha
      have hi : i < sz := by rw [← l1]; exact (List.getElem?_eq_some_iff.1 ha).1
      refine ⟨y, ?_, y2, y3⟩
      have e1 : e * sz + i = olds.length + ((e - ln) * sz + i) := by
        rw [hol, ← Nat.add_assoc, ← Nat.add_mul]; congr 2; omega
      rw [e1, get2 _ (by rw [hnl]; exact row_lt hlt hi)]; exact y1)
  refine ⟨_, _, rfl, st0.trans st, ?_⟩
  exact .slice h.nx 0 _ _ false sz ⟨w.heap.size, 0, sz, _, #[], []⟩ (Emb.set_same _ _ _) rfl w.heap.size 0 n (Nat.le_refl _) hn (fun e => by cases e) (fun _ => ⟨rfl, by simp⟩) (by show 0 + 0 * sz + n * sz ≤ _; rw [hcs]; simp) (by unfold big; omega)

theorem put_nil (t : PM (List AV)) (i : Nat) : putChunks [] i t = t := rfl
theorem appNil_inv {sz : Nat} {new : List (List AV)} (hn : NF (appNil sz new k vars stk h)) : new = [] ∧ appNil sz new k vars stk h = k .nilslice vars stk h ∨
    0 < new.length ∧ new.length ≤ 100000000 ∧ appNil sz new k vars stk h = k (.slice h.nx 0 (len new) (len new) false sz) vars stk (h.new (.dat sz (len new) (putChunks new 0 .e))) := by
  cases new with
  | nil => exact .inl ⟨rfl, rfl⟩
  | cons a r =>
    right
    change NF (ifR (Nat.ble (len (a :: r)) 100000000) _) at hn
    obtain ⟨h1, h2⟩ := ifR_inv hn
    have := ble_iff.1 h1
    rw [len_eq] at this
    exact ⟨by simp, this, h2⟩

theorem append_ok (r : Rel ρ h w) {t u e ty : TypeId} {i : TypeInfo} {Z : Value} (A : AppT P t u e i Z) {s x : G} {S X : Value} (hs : RV ρ (s.ev vars stk) S) (hx : RV ρ (x.ev vars stk) X) (hn : NF (appendC i.size s x k vars stk h)) :
    OpOk ρ h w k vars stk (appendC i.size s x k vars stk h) ((Builtin.append_ #[t, u] ty #[S, X]).run P w) := by
  unfold appendC at hn ⊢
  obtain ⟨new, hnew, he⟩ := optR_inv hn
  rw [he] at hn ⊢
  obtain ⟨news, src⟩ := src_ok (P := P) r hx hnew
  unfold append1 at hn ⊢
  rcases onSlice_inv hn with hv | ⟨b, e0, ln, cap, ex, sz₂, hv⟩ <;> rw [hv] at hs hn ⊢
  · cases hs
    change NF (appNil i.size new k vars stk h) at hn
    change OpOk ρ h w k vars stk (appNil i.size new k vars stk h) _
    rcases appNil_inv hn with ⟨rfl, e1⟩ | ⟨h0, hb, e1⟩
    · rw [e1]
      refine OpOk.same r (v := .nilslice) (y := .slice none 0 0) rfl .nilslice ?_
      exact app_in (base := none) (sLen := 0) (sCap := 0) A src (Nat.le_refl _) rfl
    · rw [e1, len_eq]
      obtain ⟨n, n1, n2⟩ := app_grow (ty := ty) (base := none) (sLen := 0) (sCap := 0) (olds := []) A src (fun w' _ => rfl) (by omega) (by omega)
      obtain ⟨ρ', w', w1, w2, w3⟩ := grow_new (ln := 0) (olds := []) r src (by simp) e (n := n) n1 (by omega) A.hs (putChunks new 0 .e)
        (put_good (by omega) (fun e ls h1 _ => by rw [PM.getN_e] at h1; cases h1) (fun j ls h1 => .inr ⟨by omega, by simpa using h1⟩))
      simp only [Nat.zero_add] at w1 w2 w3 n2
      exact ⟨_, _, ρ', w', _, rfl, w2, w3, by rw [n2, w1]⟩
  · change NF (ifR (Nat.beq sz₂ i.size) (onDat (appSl1 i.size b e0 ln cap ex new k vars stk h) (h.obj b))) at hn
    change OpOk ρ h w k vars stk (ifR (Nat.beq sz₂ i.size) (onDat (appSl1 i.size b e0 ln cap ex new k vars stk h) (h.obj b))) _
    obtain ⟨c1, e1⟩ := ifR_inv hn
    rw [e1] at hn ⊢
    have := beq_iff.1 c1
    subst this
    obtain ⟨sz', m, tc, ho, e2⟩ := onDat_inv hn
    rw [e2] at hn ⊢
    have hs0 := hs
    cases hs with
    | slice _ _ _ _ _ _ l hb hsz kb off cap' g1 g2 g3 g4 g5 g6 =>
    have ob := r.obj b _ ho l hb
    cases ob with
    | dat _ _ _ c el fr hw hsz' hlim hfr hin hnn hc =>
    subst hsz'
    subst hfr
    unfold appSl1 at hn ⊢
    rw [len_eq] at hn ⊢
    have upd : ∀ {i n : Nat} (base : Nat) {t : PM (List AV)}, i + new.length < 2 ^ 39 → i + new.length ≤ n → base + n * l.sz ≤ c.size → (∀ e ls, t.getN e = some ls → ¬ (i ≤ e ∧ e < i + new.length) → Good ρ c base l.sz n e ls) →
        ∀ e ls, (putChunks new i t).getN e = some ls → Good ρ (setL c (base + i * l.sz) news) base l.sz n e ls := by
      intro i n base t hb hin hcs hold
      have hnl := src.size
      rw [← hsz] at hnl
      refine put_good hb (fun e ls h1 h2 => ?_) (fun j ls h1 => ?_)
      · obtain ⟨a1, a2, a3⟩ := hold e ls h1 h2
        refine ⟨a1, a2, fun q a ha => ?_⟩
        obtain ⟨y, y1, y2⟩ := a3 q a ha
        have hq : q < l.sz := by rw [← a2]; exact (List.getElem?_eq_some_iff.1 ha).1
        refine ⟨y, ?_, y2⟩
        rw [setL_out _ _ _ _ ?_]; exact y1
        rcases Nat.lt_or_ge e i with h3 | h3
        · left; have := row_lt h3 hq; omega
        · right
          have : (i + new.length) * l.sz ≤ e * l.sz := Nat.mul_le_mul_right _ (by omega)
          rw [Nat.add_mul] at this; omega
      · obtain ⟨a2, a3⟩ := src.each j ls h1
        rw [← hsz] at a2
        have hj : j < new.length := (List.getElem?_eq_some_iff.1 h1).1
        refine ⟨by omega, a2, fun q a ha => ?_⟩
        obtain ⟨y, y1, y2⟩ := a3 q a ha
        refine ⟨y, ?_, y2⟩
        rw [← hsz] at y1
        have e3 : base + (i + j) * l.sz + q = base + i * l.sz + (j * l.sz + q) := by rw [Nat.add_mul]; omega
        rw [e3]
        refine setL_in _ _ _ _ _ ?_ y1
        have : (i + new.length) * l.sz ≤ n * l.sz := Nat.mul_le_mul_right _ hin
        rw [Nat.add_mul] at this
        omega
    have hnl := src.size
    have hcapb : cap' * l.sz + (l.sh + e0 * l.sz) ≤ c.size := by omega
    have inpl : ln + new.length ≤ cap' → (Builtin.append_ #[t, u] ty #[.slice (some ⟨kb, off, none⟩) ln cap', X]).run P w = .ok (.slice (some ⟨kb, off, none⟩) (ln + new.length) cap') (w.setCells l.cb (l.sh + e0 * l.sz + ln * l.sz) news) := by
      intro hle
      refine app_in A src hle ?_
      rcases Nat.eq_zero_or_pos new.length with h0 | h0
      · have : news = [] := List.length_eq_zero_iff.1 (by rw [hnl, h0, Nat.zero_mul])
        subst this; rfl
      · obtain ⟨rfl, rfl⟩ := g4 (by omega)
        show (storeCells (Addr.add ⟨l.cb, l.sh + e0 * l.sz, none⟩ (ln * i.size)) news).run P w = _
        rw [addr_add', ← hsz]
        refine run_storeRow hw _ _ src.one ?_
        rw [hnl, ← hsz]
        have : (ln + new.length) * l.sz ≤ cap' * l.sz := Nat.mul_le_mul_right _ hle
        rw [Nat.add_mul] at this; omega
    have oat := onlyAt_cells hw (l.sh + e0 * l.sz + ln * l.sz) news
    have olds : ∃ olds : List Value, olds.length = ln * i.size ∧ (∀ q, q < ln * i.size → olds[q]? = c[l.sh + e0 * l.sz + q]?) ∧ ∀ w', w'.heap = w.heap → (Builtin.firstCells i.size ln (.slice (some ⟨kb, off, none⟩) ln cap')).run P w' = .ok olds.toArray w' := by
      have hlc : ln * l.sz ≤ cap' * l.sz := Nat.mul_le_mul_right _ (by omega)
      have hl : ((c.extract (l.sh + e0 * l.sz) (l.sh + e0 * l.sz + ln * l.sz)).toList).length = ln * l.sz := by simp; omega
      have get : ∀ q, q < ln * l.sz → ((c.extract (l.sh + e0 * l.sz) (l.sh + e0 * l.sz + ln * l.sz)).toList)[q]? = c[l.sh + e0 * l.sz + q]? := by
        intro q hq
        rw [Array.getElem?_toList, Array.getElem?_extract, if_pos (by omega)]
      rw [← hsz]
      refine ⟨_, hl, get, fun w' hh => run_firstCells_some w' l.sz ln _ ln cap' _ hl fun j v hv => ?_⟩
      have hj : j < ln * l.sz := by rw [← hl]; exact (List.getElem?_eq_some_iff.1 hv).1
      have h0 : cap' ≠ 0 := by rintro rfl; simp at hlc; omega
      obtain ⟨rfl, rfl⟩ := g4 h0
      rw [get j hj] at hv
      have hw' : w'.heap[l.cb]? = some (.cells c el (0, 0)) := by rw [hh]; exact hw
      have := cell_of hw' hv
      rw [addr_add']; exact this
    obtain ⟨olds, o1, o2, o3⟩ := olds
    -- the copy, whatever the tree
    have copy : ∀ (h₁ : AH) (st : Stp ρ h w ρ h₁ w) (tt : PM (List AV)), cap' < ln + new.length → ln + new.length ≤ 100000000 → (∀ e ls, tt.getN e = some ls → ¬ (ln ≤ e ∧ e < ln + new.length) → e < ln ∧ Good ρ c (l.sh + e0 * l.sz) l.sz ln e ls) →
        OpOk ρ h w k vars stk (k (.slice h₁.nx 0 (ln + new.length) (ln + new.length) false i.size) vars stk (h₁.new (.dat i.size (ln + new.length) (putChunks new ln tt)))) ((Builtin.append_ #[t, u] ty #[.slice (some ⟨kb, off, none⟩) ln cap', X]).run P w) := by
      intro h₁ st tt hlt hb8 hold
      obtain ⟨n, n1, n2⟩ := app_grow (ty := ty) A src o3 hlt hb8
      obtain ⟨ρ', w', w1, w2, w3⟩ := grow_new st.rel src o1 e (n := n) n1 hb8 A.hs (putChunks new ln tt)
        (put_good (by omega) (fun e ls h1 h2 => by
          obtain ⟨q1, q2, q3, q4⟩ := hold e ls h1 h2
          refine .inl ⟨q1, by rw [← hsz]; exact q3, fun i' a ha => ?_⟩
          obtain ⟨y, y1, y2⟩ := q4 i' a ha
          have hi' : i' < l.sz := by rw [← q3]; exact (List.getElem?_eq_some_iff.1 ha).1
          refine ⟨y, ?_, y2⟩
          rw [o2 _ (by rw [← hsz]; exact row_lt q1 hi'), ← hsz, ← Nat.add_assoc]; exact y1) (fun j ls h1 => .inr ⟨by omega, by rw [Nat.add_sub_cancel_left]; exact h1⟩))
      exact ⟨_, _, ρ', w', _, rfl, st.trans w2, w3, by rw [n2, w1]⟩
    -- the move, whatever the tree
    have move : ∀ (tt : PM (List AV)), ex = false → cap < ln + new.length → ln + new.length ≤ 100000000 → (∀ e ls, tt.getN e = some ls → ¬ (ln ≤ e ∧ e < ln + new.length) → e < ln ∧ Good ρ c (l.sh + e0 * l.sz) l.sz ln e ls) →
        OpOk ρ h w k vars stk (k (.slice (h.del b).nx 0 (ln + new.length) (ln + new.length) false i.size) vars stk ((h.del b).new (.dat i.size (ln + new.length) (putChunks new ln tt)))) ((Builtin.append_ #[t, u] ty #[.slice (some ⟨kb, off, none⟩) ln cap', X]).run P w) := by
      intro tt hex hlt hb8 hold
      rcases Nat.lt_or_ge cap' (ln + new.length) with hc' | hc'
      · exact copy (h.del b) (stp_del r hb) tt hc' hb8 hold
      · rw [AH.nx_del]
        have hle := Emb.le_set (⟨l.cb, l.sh + e0 * l.sz, l.sz, l.lim, #[], []⟩ : Loc) r.nx_none
        have hnc : (ln + new.length) * l.sz ≤ cap' * l.sz := Nat.mul_le_mul_right _ hc'
        have st := stp_move r ho hb ⟨l.cb, l.sh + e0 * l.sz, l.sz, l.lim, #[], []⟩ rfl (.dat i.size (ln + new.length) (putChunks new ln tt)) oat
          (.dat _ _ _ _ el (0, 0) oat.at' hsz (by rw [setL_size]; exact hlim) rfl (by rw [← hsz]; show l.sh + e0 * l.sz + _ ≤ l.lim; omega) hb8 (by
            intro e ls he
            rw [← hsz]
            obtain ⟨q1, q2, q3⟩ := upd (n := ln + new.length) (l.sh + e0 * l.sz) (by omega) (Nat.le_refl _) (by omega) (fun e ls h1 h2 => by obtain ⟨p1, p2, p3⟩ := hold e ls h1 h2; exact ⟨by omega, p3⟩) e ls he
            exact ⟨q1, q2, fun i' a ha => let ⟨y, y1, y2, y3⟩ := q3 i' a ha; ⟨y, y1, y2, y3.mono hle⟩⟩))
        refine ⟨_, _, _, _, _, rfl, st, ?_, inpl hc'⟩
        exact .slice h.nx 0 _ _ false i.size ⟨l.cb, l.sh + e0 * l.sz, l.sz, l.lim, #[], []⟩ (Emb.set_same _ _ _) hsz kb off cap' (Nat.le_refl _) hc' (fun e => by cases e) (fun e => by obtain ⟨a1, a2⟩ := g4 e; exact ⟨a1, by simpa using a2⟩)
          (by show l.sh + e0 * l.sz + 0 * l.sz + cap' * l.sz ≤ l.lim; omega) (by unfold big; omega)
    cases hb1 : Nat.ble (Nat.add ln new.length) cap with
    | true =>
      rw [hb1] at hn
      change NF (ifR (Nat.ble (Nat.add (Nat.add e0 ln) new.length) m) _) at hn
      obtain ⟨c2, e3⟩ := ifR_inv hn
      have hcap : ln + new.length ≤ cap := ble_iff.1 hb1
      have hm : e0 + ln + new.length ≤ m := ble_iff.1 c2
      show OpOk ρ h w k vars stk (ifR (Nat.ble (Nat.add (Nat.add e0 ln) new.length) m) _) _
      rw [e3]
      refine ⟨_, _, ρ, _, _, rfl, oat.stp r ho hb (.dat l.sz m (putChunks new (Nat.add e0 ln) tc)) ?_, ?_, inpl (by omega)⟩
      · refine .dat _ _ _ _ el (0, 0) oat.at' rfl (by rw [setL_size]; exact hlim) rfl hin hnn ?_
        intro e ls he
        have := upd (i := e0 + ln) (n := m) l.sh (by omega) hm (by omega) (fun e ls h1 _ => hc e ls h1) e ls he
        rw [Nat.add_mul, ← Nat.add_assoc] at this; exact this
      · exact .slice b e0 _ cap ex i.size l hb hsz kb off cap' hcap g2 g3 g4 g5 (by show ln + new.length ≤ _; unfold big; omega)
    | false =>
      rw [hb1] at hn
      have hcap : cap < ln + new.length := by
        rcases Nat.lt_or_ge cap (ln + new.length) with h | h
        · exact h
        · exact absurd (ble_iff.2 h) (by rw [show Nat.ble (ln + new.length) cap = false from hb1]; simp)
      change NF (appSl2 i.size (ln + new.length) m b e0 ln ex new k vars stk h tc) at hn
      change OpOk ρ h w k vars stk (appSl2 i.size (ln + new.length) m b e0 ln ex new k vars stk h tc) _
      unfold appSl2 at hn ⊢
      have cp : ∀ {h₁ : AH} (st : Stp ρ h w ρ h₁ w) (go : ∀ (tt : PM (List AV)), ln + new.length ≤ 100000000 → (∀ e ls, tt.getN e = some ls → ¬ (ln ≤ e ∧ e < ln + new.length) → e < ln ∧ Good ρ c (l.sh + e0 * l.sz) l.sz ln e ls) →
          OpOk ρ h w k vars stk (k (.slice h₁.nx 0 (ln + new.length) (ln + new.length) false i.size) vars stk (h₁.new (.dat i.size (ln + new.length) (putChunks new ln tt)))) ((Builtin.append_ #[t, u] ty #[.slice (some ⟨kb, off, none⟩) ln cap', X]).run P w)),
          NF (optR (appCopy i.size (ln + new.length) ln new k vars stk h₁) (rdChunks tc ln e0)) → OpOk ρ h w k vars stk (optR (appCopy i.size (ln + new.length) ln new k vars stk h₁) (rdChunks tc ln e0)) ((Builtin.append_ #[t, u] ty #[.slice (some ⟨kb, off, none⟩) ln cap', X]).run P w) := by
        intro h₁ st go hn
        obtain ⟨old, hold, e3⟩ := optR_inv hn
        rw [e3] at hn ⊢
        unfold appCopy at hn ⊢
        obtain ⟨c2, e4⟩ := ifR_inv hn
        rw [e4]
        have h8 := ble_iff.1 c2
        obtain ⟨q1, q2⟩ := rdChunks_inv hold
        refine go _ h8 fun e ls he hne => ?_
        rw [getN_putChunks old 0 .e e (by omega)] at he
        split at he
        · rename_i hc2
          have := hc _ _ (q2 (e - 0) ls he)
          refine ⟨by omega, by omega, this.2.1, fun i' a ha => ?_⟩
          obtain ⟨y, y1, y2⟩ := this.2.2 i' a ha
          refine ⟨y, ?_, y2⟩
          rw [← y1, Nat.sub_zero, Nat.add_mul]; congr 1; omega
        · rw [PM.getN_e] at he; cases he
      cases ex with
      | true =>
        have := g3 rfl
        exact cp (Stp.refl r) (fun tt h8 ho => copy h (Stp.refl r) tt (by omega) h8 ho) hn
      | false =>
        cases he0 : Nat.beq e0 0 with
        | false => rw [he0] at hn; exact cp (stp_del r hb) (fun tt h8 ho => move tt rfl hcap h8 ho) hn
        | true =>
          rw [he0] at hn
          have hz := beq_iff.1 he0
          subst hz
          change NF (ifR (and (Nat.ble m (ln + new.length)) (Nat.ble (ln + new.length) 100000000)) _) at hn
          obtain ⟨c2, e3⟩ := ifR_inv hn
          show OpOk ρ h w k vars stk (ifR (and (Nat.ble m (ln + new.length)) (Nat.ble (ln + new.length) 100000000)) _) _
          rw [e3]
          have c3 := Bool.and_eq_true_iff.1 c2
          have hm := ble_iff.1 c3.1
          have h8 := ble_iff.1 c3.2
          have := move tc rfl hcap h8 (fun e ls he hne => by
            obtain ⟨p1, p2, p3⟩ := hc e ls he
            have : e < ln := by omega
            exact ⟨this, this, p2, by simpa using p3⟩)
          rw [AH.nx_del] at this
          exact this
end
end Go.Ev
