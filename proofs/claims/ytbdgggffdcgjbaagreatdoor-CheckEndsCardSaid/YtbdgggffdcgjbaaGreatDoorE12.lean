/- A part of the proof that CheckEnds returns true at every number: EvSort3. Conditions: none. -/
import Derived.Test.YtbdgggffdcgjbaaGreatDoorE11
import Derived.Shelf.SlSortCmp.WholeK
set_option linter.all false
set_option linter.unusedVariables false
set_option linter.unusedSectionVars false
set_option linter.unusedSimpArgs false
namespace Go.Ev
set_option autoImplicit false
variable [Rounds]
open Go

section
variable {P : Program} {ρ : Emb} {h : AH} {w : World}
set_option maxHeartbeats 4000000 in
/-- the sort of a row of symbols -/
theorem sort_row {ren : Go.Shelf.Ren} (L : Go.Proofs.SlLaysF0.n6 P ren) {sz : Nat} {cmp : FuncId} (aE : ∀ w, (isAgg (ren.t 24)).run P w = .ok true w) (zE : ∀ w, (Go.sizeOf (ren.t 24)).run P w = .ok sz w)
    (eg : ∀ args w, (callFunc cmp args).run P w = .ok (.enter cmp args) w) (hcb : cmp ≠ baseY) {rec : Rec} (hrec : RecOk P rec) (r : Rel ρ h w)
    {b : Pos} {e ln n : Nat} {t : PM (List AV)} {l : Loc} (hob : h.obj b = some (.dat sz n t)) (hb : ρ b = some l) (hen : e + ln ≤ n) (hln : 0 < ln) (hsmall : e + ln ≤ 100000000) (cap : Nat)
    {q : Pos} {js : List Nat} {chunks : List (List AV)} (hch : rdChunks t ln e = some chunks) {m : Pos} {es : List (AV × AV)} {gs : List Pos} (hoq : h.obj q = some (.ms m es gs 0)) (hrs : rowSyms q js gs chunks = true) (hjs : js.length = sz) (hjp : 0 < sz)
    (hone : allOneR (rowsJ js es) = true) {M : List (List Bool)} (hM : ltRows rec cmp h.nx (rowsJ js es) (rowsJ js es) = some M) {o : List Nat} (hck : chkRows (cntsB M) M (cntsB M) = true) (ho : ordN (cntsB M) M.length = some o) :
    Calls P (ren.f 6) #[.slice (some ⟨l.cb, l.sh + e * l.sz, none⟩) ln cap, .func (.func cmp) #[] #[]] w (CPost ρ h w (.ret (.tup []) (h.put b (.dat sz n (putChunks (rowsAt (rowsJ js es) o) e t))))) := by
  obtain ⟨c1, c2⟩ := rdChunks_inv hch
  obtain ⟨g1, g2⟩ := rowSyms_inv hrs
  have od := r.obj b _ hob l hb
  cases od with
  | dat _ _ _ c el fr hw hsz hlim hfr hin hnn hc =>
  subst hfr
  -- the chunks are symbols
  have sym : ∀ (i : Nat) (g : Pos) (cc j : Nat), gs[i]? = some g → js[cc]? = some j → ∃ y, c[l.sh + (e + i) * sz + cc]? = some y ∧ y.oneCell' = true ∧ RV ρ (.sym q g j) y := by
    intro i g cc j hg hj
    have hi : i < chunks.length := by rw [g1]; exact (List.getElem?_eq_some_iff.1 hg).1
    have hci := List.getElem?_eq_getElem hi
    have he := g2 i g _ hg hci
    obtain ⟨_, e2⟩ := eqSyms_inv he
    obtain ⟨_, _, h3⟩ := hc (e + i) _ (c2 i _ hci)
    exact h3 cc _ (e2 cc j hj)
  have hgl : gs.length = ln := by rw [← g1, c1]
  -- the iterator
  obtain ⟨lq, hq⟩ : ∃ lq, ρ q = some lq := by
    have h0 : gs[0]? = some (gs[0]'(by omega)) := List.getElem?_eq_getElem _
    have h1 : js[0]? = some (js[0]'(by omega)) := List.getElem?_eq_getElem _
    obtain ⟨y, _, _, hr⟩ := sym 0 _ 0 _ h0 h1
    cases hr with
    | sym _ _ _ lq hq => exact ⟨lq, hq⟩
  have oq := r.obj q _ hoq lq hq
  cases oq with
  | ms _ lb _ _ _ seen hwq hlb hi =>
  have hel : es.length = ln := by have := hi.len; omega
  have hce : lq.ces.size = ln := by rw [hi.size, hel]
  obtain ⟨σ, s1, s2, s3⟩ := hi.perm
  rw [hel] at s2
  obtain ⟨k0, v0, es0, hes0⟩ : ∃ k0 v0 es0, es = (k0, v0) :: es0 := by
    cases es with
    | nil => simp at hel; omega
    | cons p es => exact ⟨p.1, p.2, es, rfl⟩
  have hlike : ∀ k v, (k, v) ∈ es → sameSh k0 k = true ∧ sameSh v0 v = true := fun k v hm => by
    rw [hes0] at hm
    exact shapes_at (by rw [← hes0]; exact hi.shape) hm
  obtain ⟨rows, hrows⟩ : ∃ rows, rowsJ js es = rows := ⟨_, rfl⟩
  have hrl : rows.length = ln := by rw [← hrows, rowsJ_len, hel]
  rw [hrows] at hone hM ⊢
  -- rows and entries
  have row : ∀ a, a < ln → ∃ m, σ[a]? = some m ∧ ∃ ls, rows[a]? = some ls ∧ ls.length = sz ∧ ∀ (cc : Nat) (x : AV), ls[cc]? = some x → ∃ j y, js[cc]? = some j ∧ (cellsE m)[j]? = some y ∧ y.oneCell' = true ∧ RV ρ x y := by
    intro a ha
    have h1 := List.getElem?_eq_getElem (show a < es.length by omega)
    have h2 := List.getElem?_eq_getElem (show a < σ.length by omega)
    obtain ⟨r1, r2⟩ := s3 a _ _ _ h1 h2
    obtain ⟨q1, q2⟩ := hlike _ _ (List.mem_of_getElem? h1)
    have h3 : rows[a]? = some (pickJ (avCells es[a].1 ++ avCells es[a].2) js) := by
      have h9 := rowsJ_get js es a
      rw [hrows, h1] at h9
      exact h9
    refine ⟨_, h2, _, h3, by rw [pickJ_len, hjs], fun cc x hx => ?_⟩
    have hx1 := allOneR_inv hone _ (List.mem_of_getElem? h3) x (List.mem_of_getElem? hx)
    rw [pickJ_get] at hx
    cases hj : js[cc]? with
    | none => rw [hj] at hx; cases hx
    | some j =>
      rw [hj] at hx
      simp only [Option.map_some, Option.some.injEq] at hx
      subst hx
      obtain ⟨y, y1, y2, y3⟩ := entry_cells q1 q2 r1 r2 j hx1
      exact ⟨j, y, rfl, y1, y2, y3⟩
  have encl : ∀ x, (encE σ js ln x).length = sz := fun x => by simp [encE, hjs]
  have encg : ∀ (a : Nat) (m : MapEntry) (cc j : Nat) (y : Value), a < ln → σ[a]? = some m → js[cc]? = some j → (cellsE m)[j]? = some y → (encE σ js ln a)[cc]? = some y := by
    intro a m cc j y ha hm hj hy
    unfold encE
    rw [List.getElem?_map, hj]
    have : min a (ln - 1) = a := by omega
    simp only [Option.map_some, this, hm, Option.getD_some, hy]
  have clt : ∀ x, min x (ln - 1) < ln := fun x => by omega
  have encc : ∀ x, encE σ js ln x = encE σ js ln (min x (ln - 1)) := fun x => by
    unfold encE
    rw [show min (min x (ln - 1)) (ln - 1) = min x (ln - 1) by omega]
  have rowd : ∀ a ls, a < ln → rows[a]? = some ls → rows.getD a [] = ls := fun a ls _ h => by simp [List.getD, h]
  have rowRel : ∀ x, ∃ ls, rows[min x (ln - 1)]? = some ls ∧ ls.length = sz ∧ ∀ (cc : Nat) (a : AV), ls[cc]? = some a → ∃ y, (encE σ js ln x)[cc]? = some y ∧ y.oneCell' = true ∧ RV ρ a y := by
    intro x
    obtain ⟨m, m1, ls, l1, l2, l3⟩ := row _ (clt x)
    refine ⟨ls, l1, l2, fun cc a ha => ?_⟩
    obtain ⟨j, y, y1, y2, y3, y4⟩ := l3 cc a ha
    exact ⟨y, by rw [encc]; exact encg _ m cc j y (clt x) m1 y1 y2, y3, y4⟩
  have enc1 : ∀ x, ∀ v ∈ encE σ js ln x, v.oneCell' = true := by
    intro x v hv
    obtain ⟨cc, hcc⟩ := List.mem_iff_getElem?.1 hv
    have hlt : cc < sz := by rw [← encl x]; exact (List.getElem?_eq_some_iff.1 hcc).1
    obtain ⟨ls, l1, l2, l3⟩ := rowRel x
    obtain ⟨y, y1, y2, _⟩ := l3 cc _ (List.getElem?_eq_getElem (by omega))
    rw [hcc] at y1
    cases y1; exact y2
  -- the order
  obtain ⟨m1, m2⟩ := ltRows_inv hM
  have hMl : M.length = ln := by rw [m1, hrl]
  rw [hMl] at ho
  have hkl : (cntsB M).length = ln := by rw [cntsB_len, hMl]
  obtain ⟨K, hK⟩ : ∃ K : Nat → Nat, K = fun a => (cntsB M).getD a 0 := ⟨_, rfl⟩
  have kget : ∀ a, a < ln → (cntsB M)[a]? = some (K a) := fun a ha => by
    rw [hK]
    simp only [List.getD, List.getElem?_eq_getElem (show a < (cntsB M).length by omega), Option.getD_some]
  have cfz : ∀ x y, ∃ z, cmpAV rec cmp h.nx (rows.getD (min x (ln - 1)) []) (rows.getD (min y (ln - 1)) []) = some z ∧ decide (z < 0) = decide (K (min y (ln - 1)) < K (min x (ln - 1))) := by
    intro x y
    obtain ⟨lx, x1, _⟩ := rowRel x
    obtain ⟨ly, y1, _⟩ := rowRel y
    obtain ⟨bs, b1, b2⟩ := m2 _ _ x1
    obtain ⟨z, z1, z2⟩ := (ltRow_inv b2).2 _ _ y1
    rw [rowd _ _ (clt x) x1, rowd _ _ (clt y) y1]
    refine ⟨z, z1, ?_⟩
    have := (chkRows_inv hck).2 _ _ _ b1 (kget _ (clt x))
    exact (chkRow_inv this).2 _ _ _ z2 (kget _ (clt y))
  obtain ⟨cf, hcf⟩ : ∃ cf, cfE rec cmp h.nx rows ln = cf := ⟨_, rfl⟩
  have cfv : ∀ x y, cmpAV rec cmp h.nx (rows.getD (min x (ln - 1)) []) (rows.getD (min y (ln - 1)) []) = some (cf x y) := fun x y => by
    obtain ⟨z, z1, _⟩ := cfz x y
    rw [← hcf]; unfold cfE; rw [z1]; rfl
  have lto : ∀ x y, Go.Proofs.ltOf cf x y = decide (K (min y (ln - 1)) < K (min x (ln - 1))) := fun x y => by
    obtain ⟨z, z1, z2⟩ := cfz x y
    have := cfv x y
    rw [z1] at this
    cases this
    exact z2
  have hO : Go.Sort.SWO (Go.Proofs.ltOf cf) := by
    refine ⟨fun x => by rw [lto]; simp, fun x y z => ?_, fun x y z => ?_⟩
    · rw [lto, lto, lto]; simp only [decide_eq_true_eq]; omega
    · rw [lto, lto, lto]; simp only [decide_eq_false_iff_not]; omega
  have hcmp : ∀ W : World, ∀ x y : Nat, Calls P cmp (#[.agg (encE σ js ln x).toArray, .agg (encE σ js ln y).toArray] ++ #[]) W fun e w' => e = .returned (.int .i64 (cf x y)) ∧ ∃ q os', w' = Go.Sort.grow (W.drewN q) os' := by
    intro W x y
    have agg : ∀ x, RV ρ (.agg (len (rows.getD (min x (ln - 1)) [])) (rows.getD (min x (ln - 1)) [])) (.agg (encE σ js ln x).toArray) := by
      intro x
      obtain ⟨lx, x1, x2, x3⟩ := rowRel x
      rw [rowd _ _ (clt x) x1, len_eq]
      refine .agg lx _ (by simp [encl, x2]) (fun i v hv => enc1 x v (List.mem_of_getElem? (by simpa using hv))) fun i a v ha hv => ?_
      obtain ⟨v', v1, _, v3⟩ := x3 i a ha
      rw [List.getElem?_toArray] at hv
      rw [v1] at hv
      cases hv; exact v3
    have hz := cfv x y
    unfold cmpAV at hz
    have hcall := fun hn => (hrec cmp [.agg (len (rows.getD (min x (ln - 1)) [])) (rows.getD (min x (ln - 1)) []), .agg (len (rows.getD (min y (ln - 1)) [])) (rows.getD (min y (ln - 1)) [])] (.mk h.nx .e) hn ρ W
      #[.agg (encE σ js ln x).toArray, .agg (encE σ js ln y).toArray] (rel_bare r W) ⟨rfl, fun i a v ha hv => by
        match i with
        | 0 => cases ha; cases hv; exact agg x
        | 1 => cases ha; cases hv; exact agg y
        | i + 2 => simp at ha⟩).1 hcb
    rw [eg] at hcall
    show Calls P cmp (#[.agg (encE σ js ln x).toArray, .agg (encE σ js ln y).toArray] ++ #[]) W _
    rw [Array.append_empty]
    generalize rec cmp [.agg (len (rows.getD (min x (ln - 1)) [])) (rows.getD (min x (ln - 1)) []), .agg (len (rows.getD (min y (ln - 1)) [])) (rows.getD (min y (ln - 1)) [])] (.mk h.nx .e) = res at hz hcall
    have fin : ∀ (v : AV) (h' : AH) (z : Int), res = .ret v h' → cf x y = z → (∀ ρ' V, RV ρ' v V → V = .int .i64 z) → Calls P cmp #[.agg (encE σ js ln x).toArray, .agg (encE σ js ln y).toArray] W fun e w' => e = .returned (.int .i64 (cf x y)) ∧ ∃ q os', w' = Go.Sort.grow (W.drewN q) os' := by
      intro v h' z hres hcfz hv
      have := hcall (by rw [hres]; intro n hh; cases hh)
      refine Calls.mono this ?_
      intro e w' hp
      cases e with
      | returned Y =>
        obtain ⟨v', h'', ρ', e1, st, rv⟩ := hp
        rw [hres] at e1
        cases e1
        rw [hv ρ' Y rv, hcfz]
        exact ⟨rfl, stp_bare st⟩
      | panicked chain =>
        obtain ⟨v', h'', ρ', y', e1, _⟩ := hp
        rw [hres] at e1; cases e1
      | outgrown => exact hp.elim
    split at hz
    · rename_i n h'
      exact fin (.nat n) h' _ rfl (Option.some.inj hz).symm fun ρ' V hV => by cases hV; rfl
    · rename_i n h'
      exact fin (.neg n) h' _ rfl (Option.some.inj hz).symm fun ρ' V hV => by cases hV; rfl
    · cases hz
  -- the row as it lies
  obtain ⟨dl, d1, d2⟩ := exList (Q := fun i a => a < ln ∧ ∃ g lg m, gs[i]? = some g ∧ ρ g = some lg ∧ σ[a]? = some m ∧ seen[i]? = some m.born ∧ lg.vals = cellsE m) ln (by
    intro i hi'
    have hg := List.getElem?_eq_getElem (show i < gs.length by omega)
    obtain ⟨lg, m, a1, a2, a3, a4⟩ := hi.grp i _ hg
    obtain ⟨a, ha⟩ := List.mem_iff_getElem?.1 (s1.mem_iff.2 a2)
    exact ⟨a, by rw [← s2]; exact (List.getElem?_eq_some_iff.1 ha).1, _, lg, m, hg, a1, ha, a3, a4⟩)
  have dnod : dl.Nodup := by
    rw [List.nodup_iff_pairwise_ne, List.pairwise_iff_getElem]
    intro i j hi' hj' hij heq
    obtain ⟨_, _, _, m1, _, _, a3, a4, _⟩ := d2 i _ (List.getElem?_eq_getElem hi')
    obtain ⟨_, _, _, m2, _, _, b3, b4, _⟩ := d2 j _ (List.getElem?_eq_getElem hj')
    rw [heq, b3] at a3
    cases a3
    obtain ⟨h1, h2⟩ := Array.getElem?_eq_some_iff.1 a4
    obtain ⟨h3, h4⟩ := Array.getElem?_eq_some_iff.1 b4
    have hp := List.pairwise_iff_getElem.1 (List.nodup_iff_pairwise_ne.1 hi.nodup) i j (by simpa using h1) (by simpa using h3) hij
    exact hp (by rw [Array.getElem_toList, Array.getElem_toList, h2, h4])
  have dlt : ∀ x ∈ dl, x < ln := fun x hx => by
    obtain ⟨i, hi'⟩ := List.mem_iff_getElem?.1 hx
    exact (d2 i x hi').1
  have hds : dl.toArray.size = ln := by simp [d1]
  have lsz : l.sz = sz := hsz
  have hH : Go.Sort.HoldsK (encE σ js ln) sz w l.cb (l.sh + e * l.sz) dl.toArray := by
    intro tt htt
    rw [Go.Sort.size_flatK, hds] at htt
    have hi' : tt / sz < ln := Nat.div_lt_of_lt_mul (by rw [Nat.mul_comm]; exact htt)
    have hcc : tt % sz < sz := Nat.mod_lt _ hjp
    have hdi := List.getElem?_eq_getElem (show tt / sz < dl.length by omega)
    obtain ⟨a1, g, lg, m, a2, a3, a4, a5, a6⟩ := d2 _ _ hdi
    have hjc := List.getElem?_eq_getElem (show tt % sz < js.length by omega)
    obtain ⟨y, y1, y2, y3⟩ := sym _ g _ _ a2 hjc
    have hy : (cellsE m)[js[tt % sz]'(by omega)]? = some y := by
      cases y3 with
      | sym _ _ _ _ _ l' hb' _ hj' _ =>
        rw [a3] at hb'
        cases hb'
        rw [← a6]; exact hj'
    have henc := encg _ m _ _ y a1 a4 hjc hy
    have hoff : l.sh + e * l.sz + tt = l.sh + (e + tt / sz) * sz + tt % sz := by
      rw [lsz, Nat.add_mul]
      have := Nat.div_add_mod tt sz
      rw [Nat.mul_comm] at this
      omega
    rw [hoff]
    refine ⟨?_, by simp [World.frozen?, hw]⟩
    rw [cell_of hw y1, Go.Sort.get_flatK _ _ _ _ (by rw [hds]; exact htt)]
    have e1 : dl.toArray[tt / sz]! = dl[tt / sz]'(by omega) := by
      rw [getElem!_pos _ _ (by rw [hds]; exact hi')]; simp
    rw [e1]
    have e2 : (encE σ js ln (dl[tt / sz]'(by omega)))[tt % sz]! = y := by
      rw [List.getElem!_eq_getElem?_getD, henc]; rfl
    simp [e2]
  have hblk : l.cb < w.heap.size := (Array.getElem?_eq_some_iff.1 hw).1
  have main := Go.Proofs.AnyQ.slices_SortFunc L sz aE zE (encE σ js ln) encl enc1 cf hO cmp #[] l.cb (l.sh + e * l.sz) cap dl.toArray w eg (fun mm os dk _ x y => hcmp _ x y) hH hblk (by rw [hds]; omega)
  rw [hds] at main
  refine Calls.mono main ?_
  rintro e' w' ⟨rfl, d', n', os', hperm, hsort, rfl⟩
  obtain ⟨p1, p2, p3⟩ := hperm
  rw [hds] at p1
  have hd' : d'.toList = o := by
    have hpm : d'.toList.Perm dl := by
      have q1 : d'.extract 0 ln = d' := by rw [← p1]; exact Array.extract_size
      have q2 : dl.toArray.extract 0 ln = dl.toArray := by
        have h9 : dl.toArray.extract 0 dl.toArray.size = dl.toArray := Array.extract_size
        rwa [hds] at h9
      rw [q1, q2] at p3
      simpa using p3
    refine (sorted_is hkl ho dnod d1 dlt hpm ?_).1
    rw [List.pairwise_iff_getElem]
    intro i j hi' hj' hij
    rw [Array.length_toList, p1] at hi' hj'
    have := hsort i j (Nat.zero_le _) hij hj'
    rw [lto] at this
    rw [getElem!_pos d' j (by omega), getElem!_pos d' i (by omega)] at this
    have b1 : d'[i]'(by omega) < ln := dlt _ (hpm.mem_iff.1 (by simp))
    have b2 : d'[j]'(by omega) < ln := dlt _ (hpm.mem_iff.1 (by simp))
    rw [show min (d'[i]'(by omega)) (ln - 1) = d'[i]'(by omega) by omega, show min (d'[j]'(by omega)) (ln - 1) = d'[j]'(by omega) by omega] at this
    simp only [decide_eq_false_iff_not, Nat.not_lt] at this
    rw [hK] at this
    simpa using this
  obtain ⟨o1, o2⟩ := ordN_inv ho
  have olt : ∀ x ∈ o, x < ln := fun x hx => by
    obtain ⟨p, hp⟩ := List.mem_iff_getElem?.1 hx
    have hpl : p < ln := by rw [← o1]; exact (List.getElem?_eq_some_iff.1 hp).1
    obtain ⟨i, i1, i2⟩ := o2 p hpl
    rw [hp] at i1
    cases i1
    rw [← hkl]; exact (List.getElem?_eq_some_iff.1 i2).1
  -- the world behind
  obtain ⟨W1, hW1⟩ : ∃ W1, Go.Sort.putRowK (encE σ js ln) sz (Go.Sort.ahead w n') l.cb (l.sh + e * l.sz) d' = W1 := ⟨_, rfl⟩
  have hsw : Go.Proofs.sortWorldK (encE σ js ln) sz w l.cb (l.sh + e * l.sz) n' d' os' = Go.Sort.grow W1 os' := by rw [← hW1]; rfl
  rw [hsw]
  have hW1h : W1.heap = w.heap.modify l.cb (Go.Sort.onCells (Go.Sort.putCells id (l.sh + e * l.sz) (Go.Sort.flatK (encE σ js ln) sz d'))) := by rw [← hW1]; rfl
  have hat : W1.heap[l.cb]? = some (.cells (Go.Sort.putCells id (l.sh + e * l.sz) (Go.Sort.flatK (encE σ js ln) sz d') c) el (0, 0)) := by
    rw [hW1h, Array.getElem?_modify, if_pos rfl, hw]; rfl
  have hother : ∀ k, k ≠ l.cb → W1.heap[k]? = w.heap[k]? := fun k hk => by
    rw [hW1h, Array.getElem?_modify, if_neg (Ne.symm hk)]
  have cget : ∀ (i : Nat), (Go.Sort.putCells id (l.sh + e * l.sz) (Go.Sort.flatK (encE σ js ln) sz d') c)[i]? = (c[i]?).map fun x => if l.sh + e * l.sz ≤ i ∧ i < l.sh + e * l.sz + ln * sz then (Go.Sort.flatK (encE σ js ln) sz d')[i - (l.sh + e * l.sz)]! else x := by
    intro i
    unfold Go.Sort.putCells
    rw [Array.getElem?_mapIdx, Go.Sort.size_flatK, p1]
    rfl
  have hrl2 : (rowsAt rows o).length = ln := by rw [rowsAt_len, o1]
  have hrel : ObjRel ρ W1 l (.dat sz n (putChunks (rowsAt rows o) e t)) := by
    refine .dat sz n _ _ el (0, 0) hat hsz ?_ rfl hin hnn ?_
    · rw [← hlim]; unfold Go.Sort.putCells; simp
    · intro e' ls hg
      rw [getN_putChunks _ _ _ _ (by rw [hrl2]; omega), hrl2] at hg
      by_cases hr : e ≤ e' ∧ e' < e + ln
      · rw [if_pos hr, rowsAt_get] at hg
        have hp : e' - e < ln := by omega
        have hop := List.getElem?_eq_getElem (show e' - e < o.length by omega)
        rw [hop] at hg
        simp only [Option.map_some, Option.some.injEq] at hg
        have halt : o[e' - e]'(by omega) < ln := olt _ (by simp)
        obtain ⟨m, m1, ls', l1, l2, l3⟩ := row _ halt
        rw [rowd _ _ halt l1] at hg
        subst hg
        refine ⟨by omega, l2, fun cc x hx => ?_⟩
        obtain ⟨j, y, y1, y2, y3, y4⟩ := l3 cc x hx
        have hcc : cc < sz := by rw [← l2]; exact (List.getElem?_eq_some_iff.1 hx).1
        refine ⟨y, ?_, y3, y4⟩
        rw [cget]
        have hpos : l.sh + e' * sz + cc = l.sh + e * l.sz + ((e' - e) * sz + cc) := by
          rw [lsz]
          have : e' * sz = e * sz + (e' - e) * sz := by rw [← Nat.add_mul]; congr 1; omega
          omega
        have hlt : (e' - e) * sz + cc < ln * sz := row_lt hp hcc
        have hcin : l.sh + e' * sz + cc < c.size := by
          have h1 : e' * sz + cc < n * sz := row_lt (by omega) hcc
          omega
        rw [Array.getElem?_eq_getElem hcin, Option.map_some, if_pos ⟨by omega, by omega⟩, hpos, Nat.add_sub_cancel_left, Go.Sort.get_flatK _ _ _ _ (by rw [p1]; exact hlt)]
        have q1 : ((e' - e) * sz + cc) / sz = e' - e := by
          rw [Nat.add_comm, Nat.add_mul_div_right _ _ hjp, Nat.div_eq_of_lt hcc, Nat.zero_add]
        have q2 : ((e' - e) * sz + cc) % sz = cc := by
          rw [Nat.add_comm, Nat.add_mul_mod_self_right, Nat.mod_eq_of_lt hcc]
        rw [q1, q2]
        have q3 : d'[e' - e]! = o[e' - e]'(by omega) := by
          rw [getElem!_pos d' _ (by omega)]
          have : d'.toList[e' - e]? = o[e' - e]? := by rw [hd']
          rw [hop, Array.getElem?_toList, Array.getElem?_eq_getElem (by omega)] at this
          exact Option.some.inj this
        rw [q3, List.getElem!_eq_getElem?_getD, encg _ m cc j y halt m1 y1 y2]
        rfl
      · rw [if_neg hr] at hg
        obtain ⟨a1, a2, a3⟩ := hc e' ls hg
        refine ⟨a1, a2, fun cc x hx => ?_⟩
        obtain ⟨y, y1, y2, y3⟩ := a3 cc x hx
        have hcc : cc < sz := by rw [← a2]; exact (List.getElem?_eq_some_iff.1 hx).1
        refine ⟨y, ?_, y2, y3⟩
        rw [cget, y1, Option.map_some, if_neg]
        rw [lsz]
        rintro ⟨b1, b2⟩
        rcases Nat.lt_or_ge e' e with hlt | hge
        · have : e' * sz + cc < e * sz := row_lt hlt hcc
          omega
        · have h2 : e + ln ≤ e' := by omega
          have h3 : (e + ln) * sz ≤ e' * sz := Nat.mul_le_mul_right _ h2
          rw [Nat.add_mul] at h3
          omega
  have st1 := stp_put r hob hb (.dat sz n (putChunks (rowsAt rows o) e t)) W1 (by rw [← hW1]; rfl) (by rw [← hW1]; rfl) (by rw [← hW1]; rfl) (by rw [hW1h]; simp) hother hrel (by rw [← hW1]; exact Nat.le_add_right _ _)
  exact ⟨_, _, ρ, rfl, st1.trans (stp_grow st1.rel os'), .tup [] #[] rfl fun i x y hx _ => by simp at hx⟩

/-- slices.SortFunc of structs, as the evaluator answers it -/
theorem sort_ok {ren : Go.Shelf.Ren} (L : Go.Proofs.SlLaysF0.n6 P ren) {sz : Nat} {cmp : FuncId} (aE : ∀ w, (isAgg (ren.t 24)).run P w = .ok true w) (zE : ∀ w, (Go.sizeOf (ren.t 24)).run P w = .ok sz w)
    (ef : ∀ args w, (callFunc (ren.f 6) args).run P w = .ok (.enter (ren.f 6) args) w) (eg : ∀ args w, (callFunc cmp args).run P w = .ok (.enter cmp args) w) (hcb : cmp ≠ baseY) : PrimOk P (ren.f 6) (pSort sz cmp) := by
  intro rec hrec args h hn ρ w vs r ha
  rw [ef]
  show Calls P (ren.f 6) vs w _
  unfold pSort at hn ⊢
  split at hn
  case h_2 => exact absurd rfl (hn 177)
  rename_i b e ln cap ex z g
  split at hn
  case h_2 => exact absurd rfl (hn 176)
  rename_i sz' n t hob
  obtain ⟨h1, h2⟩ := ifC_inv hn
  rw [h2] at hn
  first | rw [h2] | simp only [hob, h2]
  simp only [Bool.and_eq_true, beq_iff] at h1
  obtain ⟨⟨rfl, rfl⟩, rfl⟩ := h1
  split at hn
  case h_2 => exact absurd rfl (hn 175)
  rename_i chunks hch
  try simp only [hch]
  unfold pSort2 at hn ⊢
  split at hn
  case h_2 => exact absurd rfl (hn 174)
  rename_i q p j r0 rest
  split at hn
  case h_2 => exact absurd rfl (hn 173)
  rename_i m es gs hoq
  obtain ⟨h3, h4⟩ := ifC_inv hn
  rw [h4] at hn
  first | rw [h4] | simp only [hoq, h4]
  simp only [Bool.and_eq_true, beq_iff, ble_iff] at h3
  obtain ⟨k1, ⟨k2, k3⟩, k4, k5⟩ := h3
  split at hn
  case h_2 => exact absurd rfl (hn 172)
  rename_i M hM
  try simp only [hM]
  obtain ⟨o, o1, o2, o3⟩ := pSort3_inv hn
  rw [o3]
  -- the arguments
  have hl0 := ha.len
  obtain ⟨V0, V1, rfl⟩ : ∃ V0 V1, vs = #[V0, V1] := by
    have : vs.toList.length = 2 := by rw [Array.length_toList]; exact hl0.symm
    match hvl : vs.toList with
    | [a, b] => exact ⟨a, b, Array.ext' hvl⟩
    | [] => rw [hvl] at this; simp at this
    | [_] => rw [hvl] at this; simp at this
    | _ :: _ :: _ :: _ => rw [hvl] at this; simp at this
  have v0 := ha.rel 0 _ V0 rfl rfl
  have v1 := ha.rel 1 _ V1 rfl rfl
  cases v0 with
  | slice _ _ _ _ _ _ l hb hsz kb off cap' g1 g2 g3 g4 g5 g6 =>
  cases v1 with
  | fn _ _ _ a' c' fa fc _ _ =>
  have ha0 : a' = #[] := Array.eq_empty_of_size_eq_zero fa.symm
  have hc0 : c' = #[] := Array.eq_empty_of_size_eq_zero fc.symm
  subst ha0 hc0
  obtain ⟨c1, _⟩ := rdChunks_inv hch
  have hln : 0 < ln := by rw [← c1]; simp
  obtain ⟨rfl, rfl⟩ := g4 (by omega)
  rw [len_eq] at k2
  exact sort_row L aE zE eg hcb hrec r hob hb k3 hln k5 cap' hch hoq k1 (by rw [← k2]; simp) (by rw [← k2]; simp) k4 hM o1 o2
/-- one element at most: its own code -/
noncomputable def pSortOr (c : CFn) (codeD : FuncId → Option (Nat × Nat × Nat × CCode)) (sz : Nat) (cmp : FuncId) (rec : Rec) (args : List AV) (h : AH) : CR :=
  match args with
  | [.slice b e ln cap ex z, g] => cond (Nat.ble ln 1) (c.run codeD rec [.slice b e ln cap ex z, g] h) (pSort sz cmp rec [.slice b e ln cap ex z, g] h)
  | args => c.run codeD rec args h
theorem sort_or_ok {hint : FuncId → List Nat} {od : FuncId → Nat → Option (List Nat)} {codeD : FuncId → Option (Nat × Nat × Nat × CCode)} {f : FuncId} {c : CFn} (hc : cFn P hint od f = some c) (hk : fnChk P (hint f) (od f) f = true) (hD : ∀ f x, codeD f = some x → cFnD P hint od f = some x ∧ fnChk P (hint f) (od f) f = true)
    (hRg : ∀ f fn c, P.funcs[f]? = some fn → fn.body = some c → RangesOk P (hint f) (od f) fn.ntmps c) (hm : P.follows .mixedOrders = true) {sz : Nat} {cmp : FuncId} (hs : PrimOk P f (pSort sz cmp)) : PrimOk P f (pSortOr c codeD sz cmp) := by
  intro rec hrec args h hn ρ w vs r ha
  unfold pSortOr at hn ⊢
  split at hn
  · rename_i b e ln cap ex z g
    cases hl : Nat.ble ln 1 with
    | true =>
      rw [hl] at hn
      simp only [hl, cond_true] at hn ⊢
      exact fun_ok hc hk hD hRg hrec hm r ha hn
    | false =>
      rw [hl] at hn
      simp only [hl, cond_false] at hn ⊢
      exact hs rec hrec _ h hn ρ w vs r ha
  · exact fun_ok hc hk hD hRg hrec hm r ha hn
end
end Go.Ev
