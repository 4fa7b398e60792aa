/- A part of the proof that CheckEnds returns true at every number: EvMap8 EvMap9 EvMs EvMap10. Conditions: none. -/
import Derived.Test.YtbdgggffdcgjbaaGreatDoorE01
set_option linter.all false
set_option linter.unusedVariables false
set_option linter.unusedSectionVars false
set_option linter.unusedSimpArgs false
namespace Go.Ev
set_option autoImplicit false
variable [Rounds]
open Go

section
variable {P : Program} {ρ : Emb} {h : AH} {w : World} {k : K} {vars stk : List AV}

theorem run_getMap {r : Nat} {es : Array MapEntry} {c : Nat} (h : w.heap[r]? = some (.map es c)) : (getObj r).run P w = .ok (.map es c) w := by simp [getObj, Sem.run, h]
/-- another world, but for the block r and what is drawn -/
structure OnlyAt (w w' : World) (r : Nat) (o : Go.Obj) : Prop where
  os : w'.os = w.os
  tape : w'.tape = w.tape
  output : w'.output = w.output
  size : w'.heap.size = w.heap.size
  rest : ∀ k, k ≠ r → w'.heap[k]? = w.heap[k]?
  at' : w'.heap[r]? = some o
  dr : w.drawn ≤ w'.drawn
theorem run_setMap {r : Nat} {es : Array MapEntry} {c : Nat} (h : w.heap[r]? = some (.map es c)) (es' : Array MapEntry) (c' : Nat) : ∃ w', (setObj r (.map es' c')).run P w = .ok () w' ∧ OnlyAt w w' r (.map es' c') := by
  have hr := (Array.getElem?_eq_some_iff.1 h).1
  refine ⟨{ w with heap := w.heap.setIfInBounds r (.map es' c') }, by simp [setObj, Sem.run, h], rfl, rfl, rfl, by simp, fun k hk => ?_, by simp [hr], Nat.le_refl _⟩
  show (w.heap.setIfInBounds r _)[k]? = _
  rw [Array.getElem?_setIfInBounds_ne]; exact fun e => hk e.symm
/-- something is drawn -/
structure Drawn (w w' : World) : Prop where
  os : w'.os = w.os
  tape : w'.tape = w.tape
  output : w'.output = w.output
  heap : w'.heap = w.heap
  dr : w.drawn ≤ w'.drawn
theorem Drawn.refl (w : World) : Drawn w w := ⟨rfl, rfl, rfl, rfl, Nat.le_refl _⟩
theorem OnlyAt.drawn {w₁ w₂ : World} {r : Nat} {o : Go.Obj} (a : Drawn w w₁) (b : OnlyAt w₁ w₂ r o) : OnlyAt w w₂ r o :=
  ⟨b.os.trans a.os, b.tape.trans a.tape, b.output.trans a.output, by rw [b.size, a.heap], fun k hk => by rw [b.rest k hk, a.heap], b.at', Nat.le_trans a.dr b.dr⟩
theorem run_keyStays {q key : AV} {Q K : Value} (h : eqU key q = some true) (hQ : RV ρ q Q) (hK : RV ρ key K) : ∃ K' w', (Instr.keyThatStays Q K).run P w = .ok K' w' ∧ Drawn w w' ∧ RV ρ key K' := by
  unfold Instr.keyThatStays
  by_cases e : Instr.sameBits 10000 Q K = true
  · rw [if_pos e]; exact ⟨K, w, rfl, .refl w, hK⟩
  · rw [if_neg e]
    have h1 : ∃ n w', (choose (.extern "map.whichKeyStays" 2)).run P w = .ok n w' ∧ Drawn w w' := ⟨_, _, rfl, rfl, rfl, rfl, rfl, Nat.le_succ _⟩
    obtain ⟨n, w', h1, h2⟩ := h1
    simp only [Sem.run_bind, h1, Result.andThen_ok, Sem.run_pure]
    refine ⟨_, w', rfl, h2, ?_⟩
    split
    · exact hK
    · exact eqU_rv (by rw [eqU_symm]; exact h) hQ hK
theorem OnlyAt.stp (r : Rel ρ h w) {p : Pos} {o : Obj} {l : Loc} (hp : h.obj p = some o) (hl : ρ p = some l) {w' : World} {co : Go.Obj} (a : OnlyAt w w' l.cb co) (o' : Obj) (ho : ObjRel ρ w' l o') : Stp ρ h w ρ (h.put p o') w' :=
  stp_put r hp hl o' w' a.os a.tape a.output a.size a.rest ho a.dr
end

section
variable {P : Program} {ρ : Emb} {h : AH} {w : World} {k : K} {vars stk : List AV}
theorem failK_nf {k : K} {vars stk : List AV} {h : AH} : ¬ NF (failK k vars stk h) := fun hn => hn _ rfl
theorem mapUpdate_ok (r : Rel ρ h w) {m key v : G} {M K V : Value} (hm : RV ρ (m.ev vars stk) M) (hK : RV ρ (key.ev vars stk) K) (hV : RV ρ (v.ev vars stk) V) {t kt el : TypeId} (ht : P.underlying t = some (.map kt el)) {kk : KK} (hk : kkOf P kt = some kk)
    (hn : NF (mapUpdateC kk m key v k vars stk h)) : OpOkU ρ h w k vars stk (mapUpdateC kk m key v k vars stk h) ((Instr.mapUpdate t M K V).run P w) := by
  unfold mapUpdateC at hn ⊢
  obtain ⟨hc, he⟩ := ifR_inv hn
  rw [he] at hn ⊢
  rcases onMap_inv hn with hv | ⟨b, hv⟩ <;> rw [hv] at hm hn ⊢
  · exact absurd rfl (hn _)
  cases hm with
  | map _ l hb =>
  change NF (onMp (mapUpdate2 b (eqK kk (key.ev vars stk)) (key.ev vars stk) (v.ev vars stk) k vars stk h) (h.obj b)) at hn
  change OpOkU ρ h w k vars stk (onMp (mapUpdate2 b (eqK kk (key.ev vars stk)) (key.ev vars stk) (v.ev vars stk) k vars stk h) (h.obj b)) _
  obtain ⟨es, tk, ho, he2⟩ := onMp_inv hn
  rw [he2] at hn ⊢
  unfold mapUpdate2 at hn ⊢
  obtain ⟨o, hf, he3⟩ := optR_inv hn
  rw [he3]
  have ob := r.obj b _ ho l hb
  cases ob with
  | mp _ _ ces clock hw hmr =>
  cases o with
  | none =>
    obtain ⟨w', s1, s2⟩ := run_setMap (P := P) hw (ces.push { key := K, val := V, born := clock }) (clock + 1)
    refine ⟨_, ρ, w', rfl, s2.stp r ho hb _ (.mp _ _ _ _ s2.at' ?_), ?_⟩
    · rw [putKey_new _ _ (findKey_none hf)]
      exact map_new (fun _ _ e => e) hmr (fun p hp => eqK_U (findKey_none hf p hp)) rfl hK hV (fun p key h => by cases h)
    · simp only [Instr.mapUpdate, underlying, Sem.run_bind, run_program, Result.andThen_ok, ht, Sem.run_pure, run_getMap hw, checkKey_ok hk hK hc, find_none hmr hk hK hf, s1]
  | some o =>
    obtain ⟨el1, r1, q, i, e, hes, hl, hq, hr, hi, hrk, hrv, σ, s1, s2, s3, s4⟩ := find_some (w := w) (P := P) hmr hk hK hf
    subst hes
    obtain ⟨K', w1, g1, g2, g3⟩ := run_keyStays (P := P) (w := w) (eqK_U hq) hrk hK
    obtain ⟨w', t1, t2⟩ := run_setMap (P := P) (w := w1) (by rw [g2.heap]; exact hw) (ces.modify i fun e => { e with key := K', val := V }) clock
    have t2 := t2.drawn g2
    refine ⟨_, ρ, w', rfl, t2.stp r ho hb _ (.mp _ _ _ _ t2.at' ?_), ?_⟩
    · rw [putKey_mid _ _ hl hq]
      exact map_mid (fun _ _ e => e) hmr (eqK_U hq) hi s1 s2 s3 s4 (m' := { e with key := K', val := V }) rfl g3 hV rfl (fun p key h => by cases h)
    · simp only [Instr.mapUpdate, underlying, Sem.run_bind, run_program, Result.andThen_ok, ht, Sem.run_pure, run_getMap hw, checkKey_ok hk hK hc, hr, hi, Option.map_some, Option.getD_some, g1, t1]
theorem delete_ok (r : Rel ρ h w) {m key : G} {M K : Value} (hm : RV ρ (m.ev vars stk) M) (hK : RV ρ (key.ev vars stk) K) {t kt el : TypeId} (ht : P.underlying t = some (.map kt el)) {kk : KK} (hk : kkOf P kt = some kk) (t1 t2 : TypeId)
    (hn : NF (deleteC kk m key k vars stk h)) : OpOk ρ h w k vars stk (deleteC kk m key k vars stk h) ((Builtin.delete_ #[t, t1] t2 #[M, K]).run P w) := by
  unfold deleteC at hn ⊢
  obtain ⟨hc, he⟩ := ifR_inv hn
  rw [he] at hn ⊢
  rcases onMap_inv hn with hv | ⟨b, hv⟩ <;> rw [hv] at hm hn ⊢
  · exact absurd rfl (hn _)
  cases hm with
  | map _ l hb =>
  change NF (onMp (delete2 b (eqK kk (key.ev vars stk)) k vars stk h) (h.obj b)) at hn
  change OpOk ρ h w k vars stk (onMp (delete2 b (eqK kk (key.ev vars stk)) k vars stk h) (h.obj b)) _
  obtain ⟨es, tk, ho, he2⟩ := onMp_inv hn
  rw [he2] at hn ⊢
  unfold delete2 at hn ⊢
  obtain ⟨o, hf, he3⟩ := optR_inv hn
  rw [he3]
  have ob := r.obj b _ ho l hb
  cases ob with
  | mp _ _ ces clock hw hmr =>
  cases o with
  | none =>
    obtain ⟨w', s1, s2⟩ := run_setMap (P := P) hw ces clock
    refine ⟨.tup [], _, ρ, w', .tuple #[], rfl, s2.stp r ho hb _ (.mp _ _ _ _ s2.at' ?_), .tup [] #[] rfl (by simp), ?_⟩
    · rw [delKey_new (findKey_none hf)]
      exact map_tok hmr
    · simp [Builtin.delete_, underlying, Sem.run_bind, run_program, Result.andThen_ok, ht, Sem.run_pure, run_getMap hw, checkKey_ok hk hK hc, find_none hmr hk hK hf, s1]
  | some o =>
    obtain ⟨el1, r1, q, i, e, hes, hl, hq, hr, hi, hrk, hrv, σ, s1, s2, s3, s4⟩ := find_some (w := w) (P := P) hmr hk hK hf
    subst hes
    obtain ⟨w', t1, t2⟩ := run_setMap (P := P) (w := w) hw (ces.eraseIdxIfInBounds i) clock
    refine ⟨.tup [], _, ρ, w', .tuple #[], rfl, t2.stp r ho hb _ (.mp _ _ _ _ t2.at' ?_), .tup [] #[] rfl (by simp), ?_⟩
    · rw [delKey_mid hl hq]
      exact map_del hmr hi s1 s2 s3 s4
    · simp [Builtin.delete_, underlying, Sem.run_bind, run_program, Result.andThen_ok, ht, Sem.run_pure, run_getMap hw, checkKey_ok hk hK hc, hr, hi, t1]
end
end Go.Ev
namespace Go.Ev
set_option autoImplicit false
variable [Rounds]
open Go

section
variable {P : Program} {ρ : Emb} {h : AH} {w : World} {k : K} {vars stk : List AV}
theorem AH.obj_bump (h : AH) (q : Pos) : (h.bump).obj q = h.obj q := by cases h; rfl
theorem AH.nx_bump (h : AH) : (h.bump).nx = h.nx.succ := by cases h; rfl
theorem stp_bump (r : Rel ρ h w) (l : Loc) : Stp ρ h w (ρ.set h.nx l) h.bump w := by
  have hle := Emb.le_set l r.nx_none
  have ne : ∀ {p}, h.obj p ≠ none → p ≠ h.nx := fun hp e => hp (e ▸ r.nx_free)
  refine ⟨hle, ⟨?_, ?_, ?_, ?_⟩, ?_, rfl, rfl, rfl, Nat.le_refl _, fun _ _ _ => rfl, ?_, ?_, Nat.le_refl _⟩
  · intro p o hp m hm
    rw [AH.obj_bump] at hp
    have e := ne (p := p) (by simp [hp])
    exact (r.obj p o hp m (by simpa [Emb.set, e] using hm)).mono hle
  · intro p q m n hp hq hm hn e
    rw [AH.obj_bump] at hp hq
    exact r.inj p q m n hp hq (by simpa [Emb.set, ne hp] using hm) (by simpa [Emb.set, ne hq] using hn) e
  · intro p m hm
    rw [AH.nx_bump, Pos.num_succ]
    by_cases e : p = h.nx
    · subst e; omega
    · have := r.fresh1 p m (by simpa [Emb.set, e] using hm); omega
  · intro p hp
    rw [AH.obj_bump] at hp
    rw [AH.nx_bump, Pos.num_succ]
    have := r.fresh2 p hp; omega
  · rw [AH.nx_bump, Pos.num_succ]; omega
  · intro p l' hp hl'
    rw [AH.obj_bump] at hp
    exact .inr ⟨p, l', hp, by simpa [Emb.set, ne hp] using hl', rfl⟩
  · intro p hp e
    have ne : p ≠ h.nx := fun e => by subst e; omega
    exact ⟨by simp [Emb.set, ne, e], by rw [AH.obj_bump]⟩

theorem mapEntry_ok (r : Rel ρ h w) {m key : G} {M K : Value} (hm : RV ρ (m.ev vars stk) M) (hK : RV ρ (key.ev vars stk) K) {t kt el : TypeId} (ht : P.underlying t = some (.map kt el)) {kk : KK} (hk : kkOf P kt = some kk)
    {z : AV} (hz : zeroA P el = some z) (hn : NF (mapEntryC kk z m key k vars stk h)) : OpOk ρ h w k vars stk (mapEntryC kk z m key k vars stk h) ((Instr.mapEntry t M K).run P w) := by
  obtain ⟨zi, Z, hi, hZ, _, hzr⟩ := zero_cells (ρ := ρ) hz
  unfold mapEntryC at hn ⊢
  cases hv : m.ev vars stk with
  | map b =>
    rw [hv] at hm hn
    simp only at hn ⊢
    cases hm with
    | map _ l hb =>
    cases ho : h.obj b with
    | none => rw [ho] at hn; exact absurd rfl (hn _)
    | some o =>
    rw [ho] at hn
    cases o with
    | mp es tk =>
      simp only at hn ⊢
      cases hc : chkK kk (key.ev vars stk) with
      | false => rw [hc] at hn; exact absurd rfl (hn _)
      | true =>
      rw [hc] at hn
      simp only [cond_true] at hn ⊢
      have ob := r.obj b _ ho l hb
      cases ob with
      | mp _ _ ces clock hw hmr =>
      cases hf : findKey (eqK kk (key.ev vars stk)) es with
      | none => rw [hf] at hn; exact absurd rfl (hn _)
      | some o =>
        cases o with
        | none =>
          have st := stp_bump r ⟨clock, 0, 0, 0, #[], []⟩
          have hb' := st.le b l hb
          obtain ⟨w', s1, s2⟩ := run_setMap (P := P) hw (ces.push { key := K, val := Z, born := clock }) (clock + 1)
          have st2 := s2.stp st.rel (by rw [AH.obj_bump]; exact ho) hb' (.mp (putKey (eqK kk (key.ev vars stk)) (key.ev vars stk) z es) (some (h.nx, key.ev vars stk))) (.mp _ _ _ _ s2.at' (by
            rw [putKey_new _ _ (findKey_none hf)]
            exact map_new st.le hmr (fun p hp => eqK_U (findKey_none hf p hp)) rfl (hK.mono st.le) (hzr.mono st.le) (fun p key h => by cases h; exact ⟨_, Emb.set_same _ _ _, rfl, rfl⟩)))
          refine ⟨.tup [z, .tok h.nx], _, _, w', .tuple #[Z, goInt clock], rfl, st.trans st2, tup2 (hzr.mono st.le) (.tok h.nx ⟨clock, 0, 0, 0, #[], []⟩ (Emb.set_same _ _ _)), ?_⟩
          simp only [Instr.mapEntry, underlying, Sem.run_bind, run_program, Result.andThen_ok, ht, Sem.run_pure, run_getMap hw, checkKey_ok hk hK hc, find_none hmr hk hK hf, run_zero hi hZ, s1]
        | some v =>
          obtain ⟨el1, r1, q, i, e, hes, hl, hq, hr, hi, hrk, hrv, σ, s1, s2, s3, s4⟩ := find_some (w := w) (P := P) hmr hk hK hf
          subst hes
          have st := stp_bump r ⟨e.born, 0, 0, 0, #[], []⟩
          have hb' := st.le b l hb
          obtain ⟨K', w1, g1, g2, g3⟩ := run_keyStays (P := P) (w := w) (eqK_U hq) hrk hK
          obtain ⟨w', t1, t2⟩ := run_setMap (P := P) (w := w1) (by rw [g2.heap]; exact hw) (ces.modify i fun e => { e with key := K' }) clock
          have t2 := t2.drawn g2
          have st2 := t2.stp st.rel (by rw [AH.obj_bump]; exact ho) hb' (.mp (putKey (eqK kk (key.ev vars stk)) (key.ev vars stk) v (el1 ++ (q, v) :: r1)) (some (h.nx, key.ev vars stk))) (.mp _ _ _ _ t2.at' (by
            rw [putKey_mid _ _ hl hq]
            exact map_mid st.le hmr (eqK_U hq) hi s1 s2 s3 s4 (m' := { e with key := K' }) rfl (g3.mono st.le) (hrv.mono st.le) rfl (fun p key h => by cases h; exact ⟨_, Emb.set_same _ _ _, rfl, rfl⟩)))
          refine ⟨.tup [v, .tok h.nx], _, _, w', .tuple #[e.val, goInt e.born], rfl, st.trans st2, tup2 (hrv.mono st.le) (.tok h.nx ⟨e.born, 0, 0, 0, #[], []⟩ (Emb.set_same _ _ _)), ?_⟩
          simp only [Instr.mapEntry, underlying, Sem.run_bind, run_program, Result.andThen_ok, ht, Sem.run_pure, run_getMap hw, checkKey_ok hk hK hc, hr, hi, Option.map_some, Option.getD_some, g1, t1]
    | _ => exact absurd rfl (hn _)
  | _ => rw [hv] at hn; exact absurd rfl (hn _)

theorem findIdx_born {ces : Array MapEntry} (hb : (ces.toList.map (·.born)).Nodup) {n : Nat} {m : MapEntry} (hm : m ∈ ces.toList) (hn : m.born = n) :
    ∃ i, ces.findIdx? (fun e => (e.born : Int) == (n : Int)) = some i ∧ ces[i]? = some m := by
  cases hf : ces.findIdx? (fun e => (e.born : Int) == (n : Int)) with
  | none =>
    rw [Array.findIdx?_eq_none_iff] at hf
    have := hf m (Array.mem_toList_iff.1 hm)
    simp [hn] at this
  | some i =>
    refine ⟨i, rfl, ?_⟩
    obtain ⟨h1, h2, _⟩ := Array.findIdx?_eq_some_iff_getElem.1 hf
    have h2 : ces[i].born = n := by simp at h2; omega
    obtain ⟨j, hj⟩ := List.mem_iff_getElem?.1 hm
    obtain ⟨hj1, hj2⟩ := List.getElem?_eq_some_iff.1 hj
    have hp := List.pairwise_iff_getElem.1 hb
    have ei : (ces.toList.map (·.born))[i]'(by simpa using h1) = n := by rw [List.getElem_map, Array.getElem_toList, h2]
    have ej : (ces.toList.map (·.born))[j]'(by simpa using hj1) = n := by rw [List.getElem_map, hj2, hn]
    have this : i = j := by
      rcases Nat.lt_trichotomy i j with h | h | h
      · exact absurd (ei.trans ej.symm) (hp i j _ _ h)
      · exact h
      · exact absurd (ej.trans ei.symm) (hp j i _ _ h)
    subst this
    rw [← Array.getElem?_toList]; exact hj

theorem entryStore_ok (r : Rel ρ h w) {m s v : G} {M S V : Value} (hm : RV ρ (m.ev vars stk) M) (hS : RV ρ (s.ev vars stk) S) (hV : RV ρ (v.ev vars stk) V) (t : TypeId) {kk : KK} 
    (hn : NF (entryStoreC kk m s v k vars stk h)) : OpOkU ρ h w k vars stk (entryStoreC kk m s v k vars stk h) ((Instr.entryStore t M S V).run P w) := by
  unfold entryStoreC at hn ⊢
  cases hv : m.ev vars stk with
  | map b =>
    rw [hv] at hm hn
    cases hs : s.ev vars stk with
    | tok p =>
      rw [hs] at hS hn
      simp only at hn ⊢
      cases hm with
      | map _ l hb =>
      cases hS with
      | tok _ lt hp =>
      cases ho : h.obj b with
      | none => rw [ho] at hn; exact absurd rfl (hn _)
      | some o =>
      rw [ho] at hn
      cases o with
      | mp es tk =>
        cases tk with
        | none => exact absurd rfl (hn _)
        | some qk =>
          obtain ⟨q, key⟩ := qk
          simp only at hn ⊢
          obtain ⟨hpq, he⟩ := ifR_inv hn
          rw [he] at hn ⊢
          have hpq : p = q := by simpa [posEq] using hpq
          subst hpq
          have ob := r.obj b _ ho l hb
          cases ob with
          | mp _ _ ces clock hw hmr =>
          cases hf : findKey (eqK kk key) es with
          | none => rw [hf] at hn; exact absurd rfl (hn _)
          | some o =>
          rw [hf] at hn
          cases o with
          | none => exact absurd rfl (hn _)
          | some v0 =>
          simp only
          obtain ⟨l1, r1, q, hes, hl, hq⟩ := findKey_some hf
          subst hes
          obtain ⟨σ, s1, s2, s3, s4⟩ := hmr.perm
          obtain ⟨lo, hlo, hor⟩ := s4 p key rfl
          have hnk : key ≠ .undef := by
            rintro rfl
            have := eqK_U hq
            rcases eqU_true this with rfl | ⟨n, mm, x, h, _⟩
            · cases this
            · cases h
          have hnt : key ≠ .tup [] := by
            rintro rfl
            have := eqK_U hq
            rcases eqU_true this with rfl | ⟨n, mm, x, h, _⟩
            · cases this
            · cases h
          obtain ⟨i, m', v', h1, h2, h3⟩ := hor.resolve_right fun h => h.elim (fun h => hnk h.1) (fun h => hnt h.1)
          rw [hp] at hlo; cases hlo
          have dist := hmr.dist
          rw [List.map_append, List.map_cons, List.pairwise_append, List.pairwise_cons] at dist
          have hi : i = l1.length ∧ key = q := by
            rcases Nat.lt_trichotomy i l1.length with h | h | h
            · rw [List.getElem?_append_left h] at h2
              have := hl (key, v') (List.mem_of_getElem? h2)
              have e2 := dist.2.2 key (List.mem_map.2 ⟨_, List.mem_of_getElem? h2, rfl⟩) q List.mem_cons_self
              rw [eqK_U hq] at e2; cases e2
            · subst h
              rw [List.getElem?_append_right (Nat.le_refl _), Nat.sub_self] at h2
              cases h2; exact ⟨rfl, rfl⟩
            · rw [List.getElem?_append_right (by omega), show i - l1.length = (i - l1.length - 1) + 1 by omega, List.getElem?_cons_succ] at h2
              have e2 := dist.2.1.1 key (List.mem_map.2 ⟨_, List.mem_of_getElem? h2, rfl⟩)
              rw [eqU_symm, eqK_U hq] at e2; cases e2
          obtain ⟨rfl, rfl⟩ := hi
          obtain ⟨rk, rv⟩ := s3 _ _ _ _ h2 h1
          obtain ⟨j, j1, j2⟩ := findIdx_born hmr.born (s1.mem_iff.1 (List.mem_of_getElem? h1)) h3
          obtain ⟨w', t1, t2⟩ := run_setMap (P := P) (w := w) hw (ces.modify j fun e => { e with val := V }) clock
          refine ⟨_, ρ, w', rfl, t2.stp r ho hb _ (.mp _ _ _ _ t2.at' ?_), ?_⟩
          · rw [putKey_mid _ _ hl hq]
            exact map_mid (fun _ _ e => e) hmr (eqK_U hq) j2 s1 s2 h1 s3 (m' := { m' with val := V }) rfl rk hV rfl (fun p key h => by cases h)
          · simp only [Instr.entryStore, Sem.run_bind, run_getMap hw, Result.andThen_ok, asInt, asIntOf, Sem.run_pure, j1, t1]
      | _ => exact absurd rfl (hn _)
    | _ => rw [hs] at hn; exact absurd rfl (hn _)
  | _ => rw [hv] at hn; exact absurd rfl (hn _)
end
end Go.Ev
namespace Go.Ev
set_option autoImplicit false
variable [Rounds]
open Go

/-! ranges over maps of many entries -/
theorem nodup_len : ∀ (s b : List Nat), s.Nodup → (∀ x ∈ s, x ∈ b) → s.length ≤ b.length
  | [], _, _, _ => Nat.zero_le _
  | a :: t, b, hn, hs => by
    have ha := hs a List.mem_cons_self
    have hn' := List.nodup_cons.1 hn
    have := nodup_len t (b.erase a) hn'.2 fun x hx => (List.mem_erase_of_ne (fun (e : x = a) => hn'.1 (e ▸ hx))).2 (hs x (List.mem_cons_of_mem _ hx))
    rw [List.length_erase_of_mem ha] at this
    have hb : 0 < b.length := List.length_pos_of_mem ha
    simp only [List.length_cons]
    omega
theorem nodup_cover (s b : List Nat) (hn : s.Nodup) (hs : ∀ x ∈ s, x ∈ b) (hl : b.length ≤ s.length) : ∀ x ∈ b, x ∈ s := by
  intro x hx
  rcases Classical.em (x ∈ s) with h | h
  · exact h
  · have := nodup_len s (b.erase x) hn fun y hy => (List.mem_erase_of_ne (fun (e : y = x) => h (e ▸ hy))).2 (hs y hy)
    rw [List.length_erase_of_mem hx] at this
    have hb : 0 < b.length := List.length_pos_of_mem hx
    omega

theorem symL_len (q p : Pos) : ∀ (n j : Nat), (symL q p n j).length = n
  | 0, _ => rfl
  | n + 1, j => by simp only [symL, List.length_cons, symL_len]
theorem symL_get (q p : Pos) : ∀ (n j i : Nat), i < n → (symL q p n j)[i]? = some (.sym q p (j + i))
  | 0, _, _, h => absurd h (Nat.not_lt_zero _)
  | n + 1, j, 0, _ => rfl
  | n + 1, j, i + 1, h => by
    show (symL q p n (j + 1))[i]? = _
    rw [symL_get q p n (j + 1) i (by omega), show j + 1 + i = j + (i + 1) by omega]

section
variable {P : Program} {ρ : Emb} {h : AH} {w : World} {k : K} {vars stk : List AV}
theorem cells_one {y : Value} (h : y.oneCell' = true) : y.cells = #[y] := by cases y <;> first | rfl | cases h
/-- what stands for an entry's key, or value -/
theorem symAV_ok {key k' : AV} {Y : Value} (hs : sameSh key k' = true) (hr : RV ρ k' Y) : Y.cells.size = avSize key ∧ ∀ {ρ' : Emb} (q p : Pos) (j : Nat) (lq l : Loc), ρ' q = some lq → ρ' p = some l → (∀ i, i < Y.cells.size → l.vals[j + i]? = Y.cells[i]?) → RV ρ' (symAV q p j key) Y := by
  have one : avOne key = true → avOne k' = true → Y.cells.size = 1 ∧ ∀ {ρ' : Emb} (q p : Pos) (j : Nat) (lq l : Loc), ρ' q = some lq → ρ' p = some l → (∀ i, i < Y.cells.size → l.vals[j + i]? = Y.cells[i]?) → RV ρ' (.sym q p j) Y := by
    intro _ h2
    obtain ⟨a, b⟩ := avOne_cells hr h2
    rw [b]
    refine ⟨rfl, fun q p j lq l hq hl hv => .sym q p j lq hq l hl Y ?_ a⟩
    have := hv 0 (by simp)
    simpa using this
  cases key with
  | agg n l =>
    cases k' with
    | agg m l' =>
      simp only [sameSh, Bool.and_eq_true, beq_iff] at hs
      obtain ⟨rfl, h1, h2⟩ := hs
      rw [len_eq] at h1 h2
      cases hr with
      | agg _ cs hl hc hv =>
        refine ⟨?_, fun q p j lq l1 hq hl1 hv1 => ?_⟩
        · show cs.size = _
          rw [← hl]; exact h2
        · have h3 : symAV q p j (.agg l'.length l) = .agg (symL q p l'.length j).length (symL q p l'.length j) := by rw [symL_len]; rfl
          rw [h3]
          refine .agg _ cs (by rw [symL_len, hl]) hc fun i x y hx hy => ?_
          have hi := (Array.getElem?_eq_some_iff.1 hy).1
          rw [symL_get _ _ _ _ _ (by rw [hl]; exact hi)] at hx
          cases hx
          refine .sym q p _ lq hq l1 hl1 y ?_ (hc i y hy)
          rw [hv1 i hi]; exact hy
    | _ => simp [sameSh] at hs
  | _ =>
    cases k' with
    | agg m l' => simp [sameSh] at hs
    | _ =>
      simp only [sameSh, Bool.and_eq_true] at hs
      exact one hs.1 hs.2
theorem shapes_at {key v : AV} {es : List (AV × AV)} (h : shapes ((key, v) :: es) = true) {k' v' : AV} (hm : (k', v') ∈ (key, v) :: es) : sameSh key k' = true ∧ sameSh v v' = true := by
  have := List.all_eq_true.1 h _ hm
  simpa using this
/-- the map has not been turned since the range began -/
theorem many_entries {e1 e2 : AV × AV} {es : List (AV × AV)} {p : Pos} {ces : Array MapEntry} {clock : Nat} (hmr : MapRel ρ (e1 :: e2 :: es) (some (p, .tup [])) ces clock) : ∃ l, ρ p = some l ∧ clock = l.sh ∧ ces = l.ces := by
  obtain ⟨σ, s1, s2, s3, s4⟩ := hmr.perm
  obtain ⟨l, l1, l2⟩ := s4 p _ rfl
  refine ⟨l, l1, ?_⟩
  rcases l2 with ⟨i, m', v', h1, h2, h3⟩ | ⟨h0, _⟩ | ⟨_, h2, h3⟩
  · exfalso
    have dist := hmr.dist
    have no : ∀ x : AV, eqU (.tup []) x ≠ some false ∧ eqU x (.tup []) ≠ some false := fun x => by cases x <;> simp [eqU, eq1]
    simp only [List.map_cons, List.pairwise_cons] at dist
    obtain ⟨d1, d2, d3⟩ := dist
    cases i with
    | zero =>
      cases h2
      exact (no _).1 (d1 e2.1 List.mem_cons_self)
    | succ i =>
      have h2 : (e2 :: es)[i]? = some (.tup [], v') := by simpa using h2
      have hm : AV.tup [] ∈ (e2 :: es).map (·.1) := List.mem_map.2 ⟨_, List.mem_of_getElem? h2, rfl⟩
      exact (no _).2 (d1 (AV.tup []) (by simpa using hm))
  · cases h0
  · exact ⟨h2, h3⟩

/-- one more has come -/
theorem IterRel.push {l : Loc} {es : List (AV × AV)} {gs : List Pos} {n : Nat} {seen : Array Nat} (hi : IterRel ρ l es gs (n + 1) seen) {ρ' : Emb} (hle : ρ.le ρ') {g : Pos} {lg : Loc} (hg : ρ' g = some lg) {m : MapEntry} (hm : m ∈ l.ces.toList)
    (hs : m.born ∉ seen.toList) (hv : lg.vals = m.key.cells.toList ++ m.val.cells.toList) : IterRel ρ' l es (gs ++ [g]) n (seen.push m.born) where
  perm := (hi.mono hle).perm
  born := hi.born
  clock := hi.clock
  shape := hi.shape
  len := by rw [List.length_append]; have := hi.len; simp; omega
  hseen := by rw [Array.size_push, hi.hseen]; simp
  nodup := by
    rw [Array.toList_push, List.nodup_append]
    refine ⟨hi.nodup, by simp, fun a ha b hb => ?_⟩
    rw [List.mem_singleton.1 hb]
    exact fun e => hs (e ▸ ha)
  grp := by
    intro i x hx
    rcases Nat.lt_or_ge i gs.length with h | h
    · rw [List.getElem?_append_left h] at hx
      obtain ⟨lg', m', a, b, c, d⟩ := (hi.mono hle).grp i x hx
      refine ⟨lg', m', a, b, ?_, d⟩
      rw [Array.getElem?_push, if_neg (by rw [hi.hseen]; omega)]; exact c
    · rw [List.getElem?_append_right h] at hx
      have h0 : i - gs.length = 0 := by
        rcases Nat.eq_zero_or_pos (i - gs.length) with h0 | h0
        · exact h0
        · rw [List.getElem?_eq_none (by simp; omega)] at hx; cases hx
      rw [h0] at hx
      cases hx
      refine ⟨lg, m, hg, hm, ?_, hv⟩
      rw [Array.getElem?_push, if_pos (by rw [hi.hseen]; omega)]
theorem IterRel.size {l : Loc} {es : List (AV × AV)} {gs : List Pos} {n : Nat} {seen : Array Nat} (hi : IterRel ρ l es gs n seen) : l.ces.size = es.length := by
  obtain ⟨σ, s1, s2, _⟩ := hi.perm
  rw [← s2, s1.length_eq, Array.length_toList]
theorem IterRel.seenIn {l : Loc} {es : List (AV × AV)} {gs : List Pos} {n : Nat} {seen : Array Nat} (hi : IterRel ρ l es gs n seen) : ∀ x ∈ seen.toList, x ∈ l.ces.toList.map (·.born) := by
  intro x hx
  obtain ⟨i, hx⟩ := List.mem_iff_getElem?.1 hx
  rw [Array.getElem?_toList] at hx
  have h1 := (Array.getElem?_eq_some_iff.1 hx).1
  rw [hi.hseen] at h1
  obtain ⟨lg, m, _, b, c, _⟩ := hi.grp i gs[i] (List.getElem?_eq_getElem h1)
  rw [hx] at c
  cases c
  exact List.mem_map.2 ⟨m, b, rfl⟩
/-- each entry is like the first -/
theorem IterRel.like {l : Loc} {key v : AV} {es : List (AV × AV)} {gs : List Pos} {n : Nat} {seen : Array Nat} (hi : IterRel ρ l ((key, v) :: es) gs n seen) {m : MapEntry} (hm : m ∈ l.ces.toList) : ∃ k' v', sameSh key k' = true ∧ sameSh v v' = true ∧ RV ρ k' m.key ∧ RV ρ v' m.val := by
  obtain ⟨σ, s1, s2, s3⟩ := hi.perm
  obtain ⟨i, hi'⟩ := List.mem_iff_getElem?.1 (s1.mem_iff.2 hm)
  have h1 := (List.getElem?_eq_some_iff.1 hi').1
  rw [s2] at h1
  have h2 := List.getElem?_eq_getElem h1
  obtain ⟨a, b⟩ := s3 i _ _ m h2 hi'
  obtain ⟨c, d⟩ := shapes_at hi.shape (List.mem_of_getElem? h2)
  exact ⟨_, _, c, d, a, b⟩
theorem IterRel.vals {l : Loc} {key v : AV} {es : List (AV × AV)} {gs : List Pos} {n : Nat} {seen : Array Nat} (hi : IterRel ρ l ((key, v) :: es) gs n seen) {m : MapEntry} (hm : m ∈ l.ces.toList) {ρ' : Emb} (q g : Pos) {lq lg : Loc} (hq : ρ' q = some lq) (hg : ρ' g = some lg) (hv : lg.vals = m.key.cells.toList ++ m.val.cells.toList) :
    RV ρ' (symAV q g 0 key) m.key ∧ RV ρ' (symAV q g (avSize key) v) m.val := by
  obtain ⟨k', v', a, b, c, d⟩ := hi.like hm
  obtain ⟨e1, e2⟩ := symAV_ok a c
  obtain ⟨_, f2⟩ := symAV_ok b d
  refine ⟨e2 q g 0 lq lg hq hg fun i hi => ?_, f2 q g _ lq lg hq hg fun i hi => ?_⟩
  · rw [hv, Nat.zero_add, List.getElem?_append_left (by simpa using hi), Array.getElem?_toList]
  · rw [hv, List.getElem?_append_right (by rw [Array.length_toList, e1]; omega), Array.length_toList, e1, Nat.add_sub_cancel_left, Array.getElem?_toList]

theorem run_chooseMap {n : Nat} (hn : 0 < n) : ∃ i w', (choose (.mapNext n)).run P w = .ok i w' ∧ i < n ∧ Drawn w w' := by
  show ∃ i w', (if (Question.mapNext n).forced = true then _ else _) = _ ∧ _
  by_cases h : n ≤ 1
  · refine ⟨0, w, ?_, hn, .refl w⟩
    simp [choose, Sem.run, Question.forced, h]
  · refine ⟨w.tape w.drawn (.mapNext n) % n, { w with drawn := w.drawn + 1 }, ?_, Nat.mod_lt _ hn, rfl, rfl, rfl, rfl, Nat.le_succ _⟩
    simp [choose, Sem.run, Question.forced, Question.cut, h]
end
end Go.Ev
namespace Go.Ev
set_option autoImplicit false
variable [Rounds]
open Go

section
variable {P : Program} {ρ : Emb} {h : AH} {w : World} {k : K} {vars stk : List AV}
theorem posEq_eq' {a b : Pos} (h : posEq a b = true) : a = b := by simpa [posEq] using h
theorem run_newIter (o : Go.Obj) : (newObj o).run P w = .ok w.heap.size (w.alloc o) := by rw [run_newObj]; rfl
theorem rangeMap_ok (r : Rel ρ h w) {x : G} {X : Value} (hx : RV ρ (x.ev vars stk) X) {t kt el : TypeId} (ht : P.underlying t = some (.map kt el)) (hn : NF (rangeMap x k vars stk h)) :
    OpOk ρ h w k vars stk (rangeMap x k vars stk h) ((Instr.range t X).run P w) := by
  unfold rangeMap at hn ⊢
  split at hn
  · rename_i hv
    rw [hv] at hx
    cases hx
    refine ⟨_, _, ρ.set h.nx ⟨w.heap.size, 0, 0, 0, #[], []⟩, w.alloc (.mapIter none 0 #[] 0), .pointer (some ⟨w.heap.size, 0, none⟩), rfl, stp_new r _ _ _ rfl (.mi0 _ _ 0 0 #[] (by show (w.heap.push _)[w.heap.size]? = _; simp)), .miter _ _ (Emb.set_same _ _ _), ?_⟩
    simp only [Instr.range, underlying, Sem.run_bind, run_program, Result.andThen_ok, ht, Sem.run_pure, run_newIter]
  · rename_i b hv
    rw [hv] at hx
    cases hx with
    | map _ l hb =>
    split at hn
    · rename_i tk ho
      have ob := r.obj b _ ho l hb
      cases ob with
      | mp _ _ ces clock hw hmr =>
      have st := stp_new r (.mi (some b) [.undef] .undef) (.mapIter (some l.cb) clock #[] clock) ⟨w.heap.size, clock, 0, 0, #[], []⟩ rfl
        (.mi b l [.undef] .undef #[] (by show (w.heap.push _)[w.heap.size]? = _; simp) (Emb.le_set _ r.nx_none _ _ hb) (fun h => by cases h) (fun _ => rfl))
      refine ⟨_, _, _, _, .pointer (some ⟨w.heap.size, 0, none⟩), rfl, st, .miter _ _ (Emb.set_same _ _ _), ?_⟩
      simp only [Instr.range, underlying, Sem.run_bind, run_program, Result.andThen_ok, ht, Sem.run_pure, run_getMap hw, run_newIter]
    · rename_i key v tk ho
      have ob := r.obj b _ ho l hb
      cases ob with
      | mp _ _ ces clock hw hmr =>
      obtain ⟨σ, s1, s2, s3, _⟩ := hmr.perm
      have hσ : ∃ m, σ = [m] := by
        match σ, s2 with
        | [m], _ => exact ⟨m, rfl⟩
      obtain ⟨m, rfl⟩ := hσ
      have hces : ces.toList = [m] := (List.singleton_perm.1 s1).symm ▸ rfl
      have st := stp_new r (.mi (some b) [key] .undef) (.mapIter (some l.cb) clock #[] clock) ⟨w.heap.size, clock, m.born, 0, #[], []⟩ rfl
        (.mi b l [key] .undef #[] (by show (w.heap.push _)[w.heap.size]? = _; simp) (Emb.le_set _ r.nx_none _ _ hb) (fun h => by cases h) (fun _ => rfl))
      have hb' := st.le b l hb
      have hne : b ≠ h.nx := by rintro rfl; rw [r.nx_none] at hb; cases hb
      have ho' : (h.new (.mi (some b) [key] .undef)).obj b = some (.mp [(key, v)] tk) := by rw [AH.obj_new, if_neg hne]; exact ho
      have hw' : (w.alloc (.mapIter (some l.cb) clock #[] clock)).heap[l.cb]? = some (.map ces clock) := by
        show (w.heap.push _)[l.cb]? = _
        have := (Array.getElem?_eq_some_iff.1 hw).1
        rw [Array.getElem?_push, if_neg (by omega)]; exact hw
      have st2 := stp_put st.rel ho' hb' (.mp [(key, v)] (some (h.nx, .undef))) (w.alloc (.mapIter (some l.cb) clock #[] clock)) rfl rfl rfl rfl (fun _ _ => rfl) (.mp _ _ ces clock hw' ⟨⟨[m], s1, rfl, fun i k v m hi hm => let ⟨a, b⟩ := s3 i k v m hi hm; ⟨a.mono st.le, b.mono st.le⟩, fun p key' he => by
          cases he
          exact ⟨_, Emb.set_same _ _ _, .inr <| .inl ⟨rfl, rfl, fun m' hm' => by rw [hces] at hm'; rw [List.mem_singleton.1 hm']⟩⟩⟩, hmr.dist, hmr.born, hmr.clock⟩)
      refine ⟨_, _, _, _, .pointer (some ⟨w.heap.size, 0, none⟩), rfl, st.trans st2, .miter _ _ (Emb.set_same _ _ _), ?_⟩
      simp only [Instr.range, underlying, Sem.run_bind, run_program, Result.andThen_ok, ht, Sem.run_pure, run_getMap hw, run_newIter]
    · rename_i es tk hne1 hne2 ho
      obtain ⟨hsh, he⟩ := ifR_inv hn
      rw [he] at hn ⊢
      have ob := r.obj b _ ho l hb
      cases ob with
      | mp _ _ ces clock hw hmr =>
      have hle := Emb.le_set (⟨w.heap.size, clock, 0, 0, ces, []⟩ : Loc) r.nx_none
      have hmr' := hmr.mono hle
      have st := stp_new r (.ms b es [] (len es)) (.mapIter (some l.cb) clock #[] clock) ⟨w.heap.size, clock, 0, 0, ces, []⟩ rfl
        (.ms b l es [] (len es) #[] (by show (w.heap.push _)[w.heap.size]? = _; simp) (hle _ _ hb)
          ⟨let ⟨σ, h1, h2, h3, _⟩ := hmr'.perm; ⟨σ, h1, h2, h3⟩, hmr.born, hmr.clock, hsh, by rw [len_eq]; simp, rfl, by simp, fun i g hg => by simp at hg⟩)
      have hb' := st.le b l hb
      have hne : b ≠ h.nx := by rintro rfl; rw [r.nx_none] at hb; cases hb
      have ho' : (h.new (.ms b es [] (len es))).obj b = some (.mp es tk) := by rw [AH.obj_new, if_neg hne]; exact ho
      have hw' : (w.alloc (.mapIter (some l.cb) clock #[] clock)).heap[l.cb]? = some (.map ces clock) := by
        show (w.heap.push _)[l.cb]? = _
        have := (Array.getElem?_eq_some_iff.1 hw).1
        rw [Array.getElem?_push, if_neg (by omega)]; exact hw
      have st2 := stp_put st.rel ho' hb' (.mp es (some (h.nx, .tup []))) (w.alloc (.mapIter (some l.cb) clock #[] clock)) rfl rfl rfl rfl (fun _ _ => rfl) (.mp _ _ ces clock hw'
        ⟨let ⟨σ, h1, h2, h3, _⟩ := hmr'.perm; ⟨σ, h1, h2, h3, fun p key' he => by
          cases he
          exact ⟨_, Emb.set_same _ _ _, .inr <| .inr ⟨rfl, rfl, rfl⟩⟩⟩, hmr.dist, hmr.born, hmr.clock⟩)
      refine ⟨_, _, _, _, .pointer (some ⟨w.heap.size, 0, none⟩), rfl, st.trans st2, .miter _ _ (Emb.set_same _ _ _), ?_⟩
      simp only [Instr.range, underlying, Sem.run_bind, run_program, Result.andThen_ok, ht, Sem.run_pure, run_getMap hw, run_newIter]
    · exact absurd rfl (hn _)
  · exact absurd rfl (hn _)
theorem run_getIter {r : Nat} {a : Option Nat} {b d : Nat} {c : Array Nat} (h : w.heap[r]? = some (.mapIter a b c d)) : (getObj r).run P w = .ok (.mapIter a b c d) w := by simp [getObj, Sem.run, h]
theorem run_setIter {r : Nat} {a : Option Nat} {b d : Nat} {c : Array Nat} (h : w.heap[r]? = some (.mapIter a b c d)) (a' : Option Nat) (b' d' : Nat) (c' : Array Nat) : ∃ w', (setObj r (.mapIter a' b' c' d')).run P w = .ok () w' ∧ OnlyAt w w' r (.mapIter a' b' c' d') := by
  have hr := (Array.getElem?_eq_some_iff.1 h).1
  refine ⟨{ w with heap := w.heap.setIfInBounds r (.mapIter a' b' c' d') }, by simp [setObj, Sem.run, h], rfl, rfl, rfl, by simp, fun k hk => ?_, by simp [hr], Nat.le_refl _⟩
  show (w.heap.setIfInBounds r _)[k]? = _
  rw [Array.getElem?_setIfInBounds_ne]; exact fun e => hk e.symm
theorem one_entry {key v : AV} {tk : Option (Pos × AV)} {ces : Array MapEntry} {clock : Nat} (hmr : MapRel ρ [(key, v)] tk ces clock) : ∃ m, ces = #[m] ∧ RV ρ key m.key ∧ RV ρ v m.val ∧ m.born < clock ∧ ∀ p, tk = some (p, .undef) → key ≠ .undef → ∃ l, ρ p = some l ∧ clock = l.sh ∧ m.born = l.sz := by
  obtain ⟨σ, s1, s2, s3, s4⟩ := hmr.perm
  have hσ : ∃ m, σ = [m] := by
    match σ, s2 with
    | [m], _ => exact ⟨m, rfl⟩
  obtain ⟨m, rfl⟩ := hσ
  have hces : ces.toList = [m] := (List.singleton_perm.1 s1).symm ▸ rfl
  have hc : ces = #[m] := Array.ext' hces
  obtain ⟨a, b⟩ := s3 0 key v m rfl rfl
  refine ⟨m, hc, a, b, hmr.clock m (by rw [hces]; simp), fun p hp hk => ?_⟩
  obtain ⟨l, l1, l2⟩ := s4 p _ hp
  rcases l2 with ⟨i, m', v', h1, h2, h3⟩ | ⟨_, h2, h3⟩ | ⟨h0, _⟩
  · exfalso
    cases i with
    | zero => cases h2; exact hk rfl
    | succ i => simp at h2
  · exact ⟨l, l1, h2, h3 m (by rw [hces]; simp)⟩
  · cases h0
theorem tup1 {a : AV} {A : Value} (h1 : RV ρ a A) : RV ρ (.tup [a]) (.tuple #[A]) := by
  refine .tup _ _ rfl fun j x y hx hy => ?_
  match j with
  | 0 => cases hx; cases hy; exact h1
  | j + 1 => simp at hx
theorem tup3 {a b c : AV} {A B C : Value} (h1 : RV ρ a A) (h2 : RV ρ b B) (h3 : RV ρ c C) : RV ρ (.tup [a, b, c]) (.tuple #[A, B, C]) := by
  refine .tup _ _ rfl fun j x y hx hy => ?_
  match j with
  | 0 => cases hx; cases hy; exact h1
  | 1 => cases hx; cases hy; exact h2
  | 2 => cases hx; cases hy; exact h3
  | j + 3 => simp at hx
theorem forced1 : (Question.mapNext 1).forced = true := rfl
theorem run_choose1 : (choose (.mapNext 1)).run P w = .ok 0 w := by simp [choose, Sem.run, Question.forced]
theorem run_next_end {c m since : Nat} {seen : Array Nat} {ces : Array MapEntry} {ty : TypeId} (hw : w.heap[c]? = some (.mapIter (some m) since seen since)) (hwm : w.heap[m]? = some (.map ces since)) (hc : ∀ e ∈ ces.toList, e.born < since)
    (hall : ∀ e ∈ ces, seen.contains e.born = true) : (Instr.next (.pointer (some ⟨c, 0, none⟩)) false ty).run P w = .ok (.tuple #[.bool false]) w := by
  have hleft : ces.filter (fun e => !seen.contains e.born) = #[] := by
    rw [Array.filter_eq_empty_iff]
    intro e he
    have := hall e he
    simpa using this
  have hnb : (!seen.isEmpty && !ces.isEmpty && ces.all (·.born ≥ since)) = false := by
    cases hE : ces.isEmpty with
    | true => simp
    | false =>
      have hx : ∃ e, e ∈ ces.toList := by
        cases hl : ces.toList with
        | nil => have : ces = #[] := Array.ext' hl; subst this; simp at hE
        | cons e l => exact ⟨e, by simp⟩
      obtain ⟨e, he⟩ := hx
      have h1 := hc e he
      have : ces.all (·.born ≥ since) = false := by
        rw [Bool.eq_false_iff]
        intro hcon
        rw [Array.all_eq_true_iff_forall_mem] at hcon
        have := hcon e (Array.mem_toList_iff.1 he)
        simp at this; omega
      simp [this]
  simp only [Instr.next, Sem.run_bind, Result.andThen_ok, run_getIter hw, run_getMap hwm, hnb, hleft]
  simp [forced1]
theorem run_next_more {c m since : Nat} {seen : Array Nat} {ces : Array MapEntry} {ty : TypeId} (hw : w.heap[c]? = some (.mapIter (some m) since seen since)) (hwm : w.heap[m]? = some (.map ces since)) (hc : ∀ e ∈ ces.toList, e.born < since)
    (hex : ∃ e ∈ ces.toList, e.born ∉ seen.toList) : ∃ e w1 w', e ∈ ces.toList ∧ e.born ∉ seen.toList ∧ (Instr.next (.pointer (some ⟨c, 0, none⟩)) false ty).run P w = .ok (.tuple #[.bool true, e.key, e.val]) w' ∧
    Drawn w w1 ∧ OnlyAt w1 w' c (.mapIter (some m) since (seen.push e.born) since) := by
  obtain ⟨e0, he0, hs0⟩ := hex
  have hnb : (!seen.isEmpty && !ces.isEmpty && ces.all (·.born ≥ since)) = false := by
    have h1 := hc e0 he0
    have : ces.all (·.born ≥ since) = false := by
      rw [Bool.eq_false_iff]
      intro hcon
      rw [Array.all_eq_true_iff_forall_mem] at hcon
      have := hcon e0 (Array.mem_toList_iff.1 he0)
      simp at this; omega
    simp [this]
  obtain ⟨left, hleft⟩ : ∃ left, ces.filter (fun e => !seen.contains e.born) = left := ⟨_, rfl⟩
  have hmem : ∀ e ∈ left, e ∈ ces.toList ∧ e.born ∉ seen.toList := fun e he => by
    rw [← hleft, Array.mem_filter] at he
    refine ⟨Array.mem_toList_iff.2 he.1, ?_⟩
    have := he.2
    simpa using this
  have hpos : 0 < left.size := by
    have : e0 ∈ left := by
      rw [← hleft, Array.mem_filter]
      refine ⟨Array.mem_toList_iff.1 he0, ?_⟩
      simpa using hs0
    rcases Nat.eq_zero_or_pos left.size with h0 | h0
    · rw [Array.eq_empty_of_size_eq_zero h0] at this; simp at this
    · exact h0
  have hold : left.filter (·.born < since) = left := by
    rw [Array.filter_eq_self]
    intro e he
    simpa using hc e (hmem e he).1
  have hnew : left.filter (·.born ≥ since) = #[] := by
    rw [Array.filter_eq_empty_iff]
    intro e he
    have := hc e (hmem e he).1
    simp; omega
  have hne : left.isEmpty = false := by
    cases hE : left.isEmpty with
    | false => rfl
    | true => have := Array.isEmpty_iff.1 hE; subst this; simp at hpos
  obtain ⟨i, w1, r1, r2, r3⟩ := run_chooseMap (P := P) (w := w) hpos
  have hw1 : w1.heap[c]? = some (.mapIter (some m) since seen since) := by rw [r3.heap]; exact hw
  obtain ⟨w', t1, t2⟩ := run_setIter (P := P) hw1 (some m) since since (seen.push left[i].born)
  refine ⟨left[i], w1, w', (hmem _ (Array.getElem_mem r2)).1, (hmem _ (Array.getElem_mem r2)).2, ?_, r3, t2⟩
  simp only [Instr.next, Sem.run_bind, Result.andThen_ok, run_getIter hw, run_getMap hwm, hnb, hleft, hold, hnew, hne]
  simp [r1, r2, t1]
theorem nextMap_ok (r : Rel ρ h w) {x : G} {X : Value} (hx : RV ρ (x.ev vars stk) X) (ty : TypeId) (hn : NF (nextMap x k vars stk h)) :
    OpOk ρ h w k vars stk (nextMap x k vars stk h) ((Instr.next X false ty).run P w) := by
  unfold nextMap at hn ⊢
  split at hn
  · rename_i b hv
    rw [hv] at hx
    cases hx with
    | miter _ l hb =>
    split at hn
    · rename_i rest cur ho
      have ob := r.obj b _ ho l hb
      cases ob with
      | mi0 _ _ since last seen hw =>
      refine OpOk.same r (v := .tup [.ff]) (y := .tuple #[.bool false]) rfl (tup1 .ff) ?_
      simp only [Instr.next, Sem.run_bind, Result.andThen_ok, run_getIter hw, Sem.run_pure]
    · rename_i m rest cur ho
      have ob := r.obj b _ ho l hb
      cases ob with
      | mi _ lb _ _ seen hw hlb h1 h2 =>
      split at hn
      · rename_i tk hm
        have om := r.obj m _ hm lb hlb
        cases om with
        | mp _ _ ces clock hwm hmr =>
        have hces : ces = #[] := by
          obtain ⟨σ, s1, s2, _⟩ := hmr.perm
          have : σ = [] := List.length_eq_zero_iff.1 s2
          subst this
          exact Array.ext' (List.nil_perm.1 s1)
        subst hces
        refine OpOk.same r (v := .tup [.ff]) (y := .tuple #[.bool false]) rfl (tup1 .ff) ?_
        simp [Instr.next, run_getIter hw, run_getMap hwm, forced1]
      · rename_i key v p hm
        obtain ⟨hp, he⟩ := ifR_inv hn
        rw [he] at hn ⊢
        have hp : p = b := posEq_eq' hp
        subst hp
        obtain ⟨hu, he2⟩ := onVal_inv hn
        rw [he2] at hn ⊢
        have om := r.obj m _ hm lb hlb
        cases om with
        | mp _ _ ces clock hwm hmr =>
        obtain ⟨e, rfl, k1, k2, k3, k4⟩ := one_entry hmr
        obtain ⟨l', l1, l2, l3⟩ := k4 p rfl hu
        rw [hb] at l1; cases l1
        cases rest with
        | nil =>
          have hs := h1 rfl
          subst hs
          refine OpOk.same r (v := .tup [.ff]) (y := .tuple #[.bool false]) rfl (tup1 .ff) ?_
          have hnb : ¬ (l.sh ≤ l.sz) := by omega
          simp [Instr.next, run_getIter hw, run_getMap hwm, l3, hnb, forced1]
        | cons q rest =>
          have hs := h2 (by simp)
          subst hs
          obtain ⟨w', t1, t2⟩ := run_setIter (P := P) hw (some lb.cb) l.sh clock (#[].push e.born)
          refine ⟨.tup [.tt, key, v], _, ρ, w', .tuple #[.bool true, e.key, e.val], rfl, t2.stp r ho hb (.mi (some m) [] key) (.mi m lb [] key #[l.sz] ?_ hlb (fun _ => rfl) (fun h => absurd rfl h)), tup3 .tt k1 k2, ?_⟩
          · rw [← l3]; have := t2.at'; rw [l2] at this; exact this
          · have hlt : e.born < l.sh := by omega
            have hnb : ¬ (l.sh ≤ e.born) := by omega
            have t1' : (setObj l.cb (.mapIter (some lb.cb) l.sh #[e.born] clock)).run P w = .ok () w' := t1
            simp [Instr.next, run_getIter hw, run_getMap hwm, hlt, hnb, forced1, t1']
      · exact absurd rfl (hn _)
    · rename_i m es gs ho
      have ob := r.obj b _ ho l hb
      cases ob with
      | ms _ lb _ _ _ seen hw hlb hi =>
      split at hn
      case h_2 => exact absurd rfl (hn _)
      rename_i p hm
      obtain ⟨hp, he⟩ := ifR_inv hn
      rw [he] at hn ⊢
      have hp : p = b := posEq_eq' hp
      subst hp
      have om := r.obj m _ hm lb hlb
      cases om with
      | mp _ _ ces clock hwm hmr =>
      obtain ⟨l', l1, rfl, rfl⟩ := many_entries hmr
      rw [hb] at l1; cases l1
      refine OpOk.same r (v := .tup [.ff]) (y := .tuple #[.bool false]) rfl (tup1 .ff) ?_
      have hlen := hi.len
      have hsz := hi.size
      have hall : ∀ e ∈ l.ces, seen.contains e.born = true := fun e he => by
        have := nodup_cover _ _ hi.nodup hi.seenIn (by rw [List.length_map, Array.length_toList, Array.length_toList, hi.hseen, hsz]; omega) e.born (List.mem_map.2 ⟨e, Array.mem_toList_iff.2 he, rfl⟩)
        simpa using this
      exact run_next_end hw hwm hi.clock hall
    · rename_i m key v es gs n ho
      have ob := r.obj b _ ho l hb
      cases ob with
      | ms _ lb _ _ _ seen hw hlb hi =>
      split at hn
      case h_2 => exact absurd rfl (hn _)
      rename_i p hm
      obtain ⟨hp, he⟩ := ifR_inv hn
      rw [he] at hn ⊢
      have hp : p = b := posEq_eq' hp
      subst hp
      have om := r.obj m _ hm lb hlb
      cases om with
      | mp _ _ ces clock hwm hmr =>
      obtain ⟨l', l1, rfl, rfl⟩ := many_entries hmr
      rw [hb] at l1; cases l1
      have hlen := hi.len
      have hsz := hi.size
      have hex : ∃ e ∈ l.ces.toList, e.born ∉ seen.toList := by
        rcases Classical.em (∃ e ∈ l.ces.toList, e.born ∉ seen.toList) with h | h
        · exact h
        · exfalso
          have := nodup_len _ seen.toList hi.born fun x hx => by
            obtain ⟨e, he, rfl⟩ := List.mem_map.1 hx
            exact Classical.byContradiction fun hc => h ⟨e, he, hc⟩
          rw [List.length_map, Array.length_toList, Array.length_toList, hi.hseen, hsz] at this
          omega
      obtain ⟨e, w1, w', he, hns, hrun, hdr, hat⟩ := run_next_more hw hwm hi.clock hex
      have st := stp_bump r ⟨0, 0, 0, 0, #[], e.key.cells.toList ++ e.val.cells.toList⟩
      have hb' := st.le _ _ hb
      have t2 := hat.drawn hdr
      have hg : (ρ.set h.nx ⟨0, 0, 0, 0, #[], e.key.cells.toList ++ e.val.cells.toList⟩) h.nx = some ⟨0, 0, 0, 0, #[], e.key.cells.toList ++ e.val.cells.toList⟩ := Emb.set_same _ _ _
      have st2 := t2.stp st.rel (by rw [AH.obj_bump]; exact ho) hb' (.ms m ((key, v) :: es) (gs ++ [h.nx]) n) (.ms m lb _ _ _ _ t2.at' (st.le _ _ hlb) (hi.push st.le hg he hns rfl))
      obtain ⟨v1, v2⟩ := hi.vals he p h.nx hb' hg rfl
      exact ⟨_, _, _, w', .tuple #[.bool true, e.key, e.val], rfl, st.trans st2, tup3 .tt v1 v2, hrun⟩
    · exact absurd rfl (hn _)
  · exact absurd rfl (hn _)
theorem lastP_get : ∀ (gs : List Pos) {g : Pos}, lastP gs = some g → ∃ i, gs[i]? = some g ∧ i + 1 = gs.length
  | [], _, h => by cases h
  | [x], _, h => by cases h; exact ⟨0, rfl, rfl⟩
  | x :: y :: l, g, h => by
    obtain ⟨i, a, b⟩ := lastP_get (y :: l) (g := g) h
    exact ⟨i + 1, by simpa using a, by simp at b ⊢; omega⟩
theorem find_born {ces : Array MapEntry} (hb : (ces.toList.map (·.born)).Nodup) {e : MapEntry} (he : e ∈ ces.toList) : ces.find? (fun x => x.born == e.born) = some e := by
  rw [← Array.find?_toList]
  generalize ces.toList = l at hb he
  induction l with
  | nil => cases he
  | cons a l ih =>
    rw [List.map_cons, List.nodup_cons] at hb
    rw [List.find?_cons]
    rcases List.mem_cons.1 he with rfl | h
    · simp
    · have : a.born ≠ e.born := fun hh => hb.1 (hh ▸ List.mem_map.2 ⟨e, h, rfl⟩)
      rw [show (a.born == e.born) = false by simpa using this]
      exact ih hb.2 h
theorem entryIt_ok (r : Rel ρ h w) {x : G} {X : Value} (hx : RV ρ (x.ev vars stk) X) (hn : NF (entryC x k vars stk h)) :
    OpOk ρ h w k vars stk (entryC x k vars stk h) ((Instr.entry X).run P w) := by
  unfold entryC at hn ⊢
  split at hn
  · rename_i b hv
    rw [hv] at hx
    cases hx with
    | miter _ l hb =>
    split at hn
    · rename_i m cur ho
      have ob := r.obj b _ ho l hb
      cases ob with
      | mi _ lb _ _ seen hw hlb h1 h2 =>
      split at hn
      · rename_i key v p hm
        obtain ⟨hp, he⟩ := ifR_inv hn
        rw [he] at hn ⊢
        have hp : p = b := posEq_eq' hp
        subst hp
        obtain ⟨hu, he2⟩ := onVal_inv hn
        rw [he2] at hn ⊢
        have om := r.obj m _ hm lb hlb
        cases om with
        | mp _ _ ces clock hwm hmr =>
        obtain ⟨e, rfl, k1, k2, k3, k4⟩ := one_entry hmr
        obtain ⟨l', l1, l2, l3⟩ := k4 p rfl hu
        rw [hb] at l1; cases l1
        have hs := h1 rfl
        subst hs
        refine OpOk.same r (v := .tup [key, v]) (y := .tuple #[e.key, e.val]) rfl (tup2 k1 k2) ?_
        simp [Instr.entry, run_getIter hw, run_getMap hwm, l2, l3]
      · exact absurd rfl (hn _)
    · rename_i m key v es gs n ho
      have ob := r.obj b _ ho l hb
      cases ob with
      | ms _ lb _ _ _ seen hw hlb hi =>
      split at hn
      case h_2 => exact absurd rfl (hn _)
      rename_i p g hm hg
      obtain ⟨hp, he⟩ := ifR_inv hn
      rw [he] at hn ⊢
      have hp : p = b := posEq_eq' hp
      subst hp
      have om := r.obj m _ hm lb hlb
      cases om with
      | mp _ _ ces clock hwm hmr =>
      obtain ⟨l', l1, rfl, rfl⟩ := many_entries hmr
      rw [hb] at l1; cases l1
      obtain ⟨i, hi1, hi2⟩ := lastP_get gs hg
      obtain ⟨lg, e, g1, g2, g3, g4⟩ := hi.grp i g hi1
      obtain ⟨v1, v2⟩ := hi.vals g2 p g hb g1 g4
      refine OpOk.same r (v := .tup [symAV p g 0 key, symAV p g (avSize key) v]) (y := .tuple #[e.key, e.val]) rfl (tup2 v1 v2) ?_
      have hback : seen.back? = some e.born := by
        rw [Array.back?_eq_getElem?, hi.hseen, ← hi2, Nat.add_sub_cancel]; exact g3
      have hfind : l.ces.find? (fun x => x.born == e.born) = some e := find_born hi.born g2
      simp only [Instr.entry, Sem.run_bind, Result.andThen_ok, run_getIter hw, run_getMap hwm, hback, hfind]
      simp
    · exact absurd rfl (hn _)
  · exact absurd rfl (hn _)
end
end Go.Ev
