/- A part of the proof that CheckEnds returns true at every number: EvSort2. Conditions: none. -/
import Derived.Test.YtbdgggffdcgjbaaGreatDoorE10
import Derived.Sort.Grow
import Derived.Deep.Draws
set_option linter.all false
set_option linter.unusedVariables false
set_option linter.unusedSectionVars false
set_option linter.unusedSimpArgs false
namespace Go.Ev
set_option autoImplicit false
variable [Rounds]
open Go

section
variable {P : Program} {ρ : Emb} {h : AH} {w : World}
theorem sh_ok {a b : AV} (h : sameSh a b = true) : ∃ n, avOk n b = true := by
  cases a with
  | agg n l =>
    cases b with
    | agg m l' => exact ⟨m, beq_iff.2 rfl⟩
    | _ => simp [sameSh] at h
  | _ =>
    cases b with
    | agg m l' => simp [sameSh] at h
    | _ =>
      simp only [sameSh, Bool.and_eq_true] at h
      exact ⟨1, (avOne_ok h.2).1⟩
/-- nothing of what was is turned, and blocks are laid -/
theorem stp_grow (r : Rel ρ h w) (os : Array Go.Obj) : Stp ρ h w ρ h (Go.Sort.grow w os) := by
  have old : ∀ k, k < w.heap.size → (Go.Sort.grow w os).heap[k]? = w.heap[k]? := fun k hk => by
    show (w.heap ++ os)[k]? = _
    rw [Array.getElem?_append_left hk]
  refine ⟨fun _ _ e => e, ⟨fun p o hp l hl => ?_, r.inj, r.fresh1, r.fresh2⟩, Nat.le_refl _, rfl, rfl, rfl, ?_, fun k hk _ => old k hk, fun p l hp hl => .inr ⟨p, l, hp, hl, rfl⟩, fun _ _ e => ⟨e, rfl⟩, Nat.le_refl _⟩
  · have := r.obj p o hp l hl
    exact this.world (old _ this.inb)
  · show _ ≤ (w.heap ++ os).size
    simp
/-- from no abstract heap: only new blocks, and draws -/
theorem stp_bare {nx : Pos} {h' : AH} {ρ' : Emb} {w' : World} (s : Stp ρ (.mk nx .e) w ρ' h' w') : ∃ q os', w' = Go.Sort.grow (w.drewN q) os' := by
  refine ⟨w'.drawn - w.drawn, w'.heap.extract w.heap.size, ?_⟩
  have hh : w'.heap = w.heap ++ w'.heap.extract w.heap.size := by
    apply Array.ext_getElem?
    intro k
    rcases Nat.lt_or_ge k w.heap.size with hk | hk
    · rw [Array.getElem?_append_left hk]
      refine s.frame k hk fun p l hp hl => ?_
      exact absurd (PT.get_e p) hp
    · rw [Array.getElem?_append_right hk, Array.getElem?_extract]
      have := s.size
      split
      · congr 1; omega
      · rw [Array.getElem?_eq_none (by omega)]
  have h1 := s.os
  have h2 := s.tape
  have h3 := s.output
  have h4 := s.drawn
  have hdn : (w.drewN (w'.drawn - w.drawn)) = { w with drawn := w.drawn + (w'.drawn - w.drawn) } := by
    first | rfl | exact drewN_eq _ _
  rw [hdn]
  cases w with
  | mk heap tape drawn os output =>
  cases w' with
  | mk heap' tape' drawn' os' output' =>
  simp only at h1 h2 h3 h4 hh
  subst h1 h2 h3
  simp only [Go.Sort.grow]
  rw [show drawn + (drawn' - drawn) = drawn' by omega]
  congr 1
theorem rel_bare (r : Rel ρ h w) (W : World) : Rel ρ (.mk h.nx .e) W :=
  ⟨fun p o hp => absurd ((PT.get_e p).symm.trans hp) (by simp), fun p q l m hp => absurd (PT.get_e p) hp, r.fresh1, fun p hp => absurd (PT.get_e p) hp⟩

/-- an entry's cells -/
def cellsE (m : MapEntry) : List Value := m.key.cells.toList ++ m.val.cells.toList
theorem entry_cells {k v k0 v0 : AV} {m : MapEntry} (h1 : sameSh k0 k = true) (h2 : sameSh v0 v = true) (r1 : RV ρ k m.key) (r2 : RV ρ v m.val) (j : Nat) (ho : avOne (nth j (avCells k ++ avCells v)) = true) :
    ∃ y, (cellsE m)[j]? = some y ∧ y.oneCell' = true ∧ RV ρ (nth j (avCells k ++ avCells v)) y := by
  obtain ⟨n1, a1⟩ := sh_ok h1
  obtain ⟨n2, a2⟩ := sh_ok h2
  obtain ⟨_, l1, c1⟩ := avOk_cells r1 a1
  obtain ⟨_, l2, c2⟩ := avOk_cells r2 a2
  have hj : j < (avCells k ++ avCells v).length := by
    rcases Nat.lt_or_ge j (avCells k ++ avCells v).length with h | h
    · exact h
    · rw [nth_eq, List.getD, List.getElem?_eq_none h] at ho
      simp [avOne] at ho
  have hx : (avCells k ++ avCells v)[j]? = some (nth j (avCells k ++ avCells v)) := by
    rw [nth_eq, List.getD, List.getElem?_eq_getElem hj]; rfl
  generalize nth j (avCells k ++ avCells v) = x at hx ho
  rcases Nat.lt_or_ge j (avCells k).length with h | h
  · rw [List.getElem?_append_left h] at hx
    have hy : m.key.cells[j]? = some (m.key.cells[j]'(by omega)) := Array.getElem?_eq_getElem _
    obtain ⟨a, b⟩ := c1 j x _ hx hy
    refine ⟨_, ?_, b, a⟩
    unfold cellsE
    rw [List.getElem?_append_left (by simpa using (by omega : j < m.key.cells.size)), Array.getElem?_toList]; exact hy
  · rw [List.getElem?_append_right h] at hx
    have hlt := (List.getElem?_eq_some_iff.1 hx).1
    have hy : m.val.cells[j - (avCells k).length]? = some (m.val.cells[j - (avCells k).length]'(by omega)) := Array.getElem?_eq_getElem _
    obtain ⟨a, b⟩ := c2 _ x _ hx hy
    refine ⟨_, ?_, b, a⟩
    unfold cellsE
    rw [List.getElem?_append_right (by simp; omega), Array.length_toList, ← l1, Array.getElem?_toList]; exact hy

/-- what an entry puts into the row -/
noncomputable def encE (σ : List MapEntry) (js : List Nat) (n : Nat) (a : Nat) : List Value := js.map fun j => (((σ[min a (n - 1)]?).map cellsE).getD [])[j]?.getD undef
noncomputable def cfE (rec : Rec) (g : FuncId) (nx : Pos) (rows : List (List AV)) (n : Nat) (x y : Nat) : Int := (cmpAV rec g nx (rows.getD (min x (n - 1)) []) (rows.getD (min y (n - 1)) [])).getD 0

theorem ifC_inv {c : Bool} {t : CR} (hn : ∀ n, ifC c t ≠ .fail n) : c = true ∧ ifC c t = t := by
  cases c with
  | false => exact absurd rfl (hn 149)
  | true => exact ⟨rfl, rfl⟩
theorem pSort3_inv {b : Pos} {e sz n : Nat} {t : PM (List AV)} {rows : List (List AV)} {m : List (List Bool)} (hn : ∀ k, pSort3 b e sz n t rows h m ≠ .fail k) : ∃ o, chkRows (cntsB m) m (cntsB m) = true ∧ ordN (cntsB m) m.length = some o ∧
    pSort3 b e sz n t rows h m = .ret (.tup []) (h.put b (.dat sz n (putChunks (rowsAt rows o) e t))) := by
  unfold pSort3 at hn ⊢
  obtain ⟨h1, h2⟩ := ifC_inv hn
  rw [h2] at hn ⊢
  rw [len_eq] at hn ⊢
  cases ho : ordN (cntsB m) m.length with
  | none => rw [ho] at hn; exact absurd rfl (hn 171)
  | some o => exact ⟨o, h1, rfl, rfl⟩
end
end Go.Ev
