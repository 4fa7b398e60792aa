/- A part of the proof that CheckEnds returns true at every number: EvMap8 EvMap9 EvMs EvMap10 EvApp1 EvApp2 EvApp3 EvOps18 EvDisp1 EvDisp2 EvFloat EvEnv EvOper EvStep EvYield EvPlain EvAlloc EvDraw1. Conditions: none. -/
import Derived.Test.YtbdgggffdcgjbaaGreatDoorE01
import Derived.Laws.Append
import Derived.Laws.BytesArg
import Derived.RangeFuncIn
import Derived.RangeFuncRecord
import Derived.Orders
set_option linter.all false
set_option linter.unusedVariables false
set_option linter.unusedSectionVars false
set_option linter.unusedSimpArgs false
namespace Go.Ev
set_option autoImplicit false
variable [Rounds]
open Go

section
variable {P : Program} {ρ : Emb} {h : AH} {w : World} {k : K} {vars stk : List AV}

theorem run_getMap {r : Nat} {es : Array MapEntry} {c : Nat} (h : w.heap[r]? = some (.map es c)) : (getObj r).run P w = .ok (.map es c) w := by simp [getObj, Sem.run, h]
/-- another world, but for the block r and what is drawn -/
structure OnlyAt (w w' : World) (r : Nat) (o : Go.Obj) : Prop where
  os : w'.os = w.os
  tape : w'.tape = w.tape
  output : w'.output = w.output
  size : w'.heap.size = w.heap.size
  rest : ∀ k, k ≠ r → w'.heap[k]? = w.heap[k]?
  at' : w'.heap[r]? = some o
  dr : w.drawn ≤ w'.drawn
theorem run_setMap {r : Nat} {es : Array MapEntry} {c : Nat} (h : w.heap[r]? = some (.map es c)) (es' : Array MapEntry) (c' : Nat) : ∃ w', (setObj r (.map es' c')).run P w = .ok () w' ∧ OnlyAt w w' r (.map es' c') := by
  have hr := (Array.getElem?_eq_some_iff.1 h).1
  refine ⟨{ w with heap := w.heap.setIfInBounds r (.map es' c') }, by simp [setObj, Sem.run, h], rfl, rfl, rfl, by simp, fun k hk => ?_, by simp [hr], Nat.le_refl _⟩
  show (w.heap.setIfInBounds r _)[k]? = _
  rw [Array.getElem?_setIfInBounds_ne]; exact fun e => hk e.symm
/-- something is drawn -/
structure Drawn (w w' : World) : Prop where
  os : w'.os = w.os
  tape : w'.tape = w.tape
  output : w'.output = w.output
  heap : w'.heap = w.heap
  dr : w.drawn ≤ w'.drawn
theorem Drawn.refl (w : World) : Drawn w w := ⟨rfl, rfl, rfl, rfl, Nat.le_refl _⟩
theorem OnlyAt.drawn {w₁ w₂ : World} {r : Nat} {o : Go.Obj} (a : Drawn w w₁) (b : OnlyAt w₁ w₂ r o) : OnlyAt w w₂ r o :=
  ⟨b.os.trans a.os, b.tape.trans a.tape, b.output.trans a.output, by rw [b.size, a.heap], fun k hk => by rw [b.rest k hk, a.heap], b.at', Nat.le_trans a.dr b.dr⟩
theorem run_keyStays {q key : AV} {Q K : Value} (h : eqU key q = some true) (hQ : RV ρ q Q) (hK : RV ρ key K) : ∃ K' w', (Instr.keyThatStays Q K).run P w = .ok K' w' ∧ Drawn w w' ∧ RV ρ key K' := by
  unfold Instr.keyThatStays
  by_cases e : Instr.sameBits 10000 Q K = true
  · rw [if_pos e]; exact ⟨K, w, rfl, .refl w, hK⟩
  · rw [if_neg e]
    have h1 : ∃ n w', (choose (.extern "map.whichKeyStays" 2)).run P w = .ok n w' ∧ Drawn w w' := ⟨_, _, rfl, rfl, rfl, rfl, rfl, Nat.le_succ _⟩
    obtain ⟨n, w', h1, h2⟩ := h1
    simp only [Sem.run_bind, h1, Result.andThen_ok, Sem.run_pure]
    refine ⟨_, w', rfl, h2, ?_⟩
    split
    · exact hK
    · exact eqU_rv (by rw [eqU_symm]; exact h) hQ hK
theorem OnlyAt.stp (r : Rel ρ h w) {p : Pos} {o : Obj} {l : Loc} (hp : h.obj p = some o) (hl : ρ p = some l) {w' : World} {co : Go.Obj} (a : OnlyAt w w' l.cb co) (o' : Obj) (ho : ObjRel ρ w' l o') : Stp ρ h w ρ (h.put p o') w' :=
  stp_put r hp hl o' w' a.os a.tape a.output a.size a.rest ho a.dr
end

section
variable {P : Program} {ρ : Emb} {h : AH} {w : World} {k : K} {vars stk : List AV}
theorem failK_nf {k : K} {vars stk : List AV} {h : AH} : ¬ NF (failK k vars stk h) := fun hn => hn _ rfl
theorem mapUpdate_ok (r : Rel ρ h w) {m key v : G} {M K V : Value} (hm : RV ρ (m.ev vars stk) M) (hK : RV ρ (key.ev vars stk) K) (hV : RV ρ (v.ev vars stk) V) {t kt el : TypeId} (ht : P.underlying t = some (.map kt el)) {kk : KK} (hk : kkOf P kt = some kk)
    (hn : NF (mapUpdateC kk m key v k vars stk h)) : OpOkU ρ h w k vars stk (mapUpdateC kk m key v k vars stk h) ((Instr.mapUpdate t M K V).run P w) := by
  unfold mapUpdateC at hn ⊢
  obtain ⟨hc, he⟩ := ifR_inv hn
  rw [he] at hn ⊢
  rcases onMap_inv hn with hv | ⟨b, hv⟩ <;> rw [hv] at hm hn ⊢
  · exact absurd rfl (hn _)
  cases hm with
  | map _ l hb =>
  change NF (onMp (mapUpdate2 b (eqK kk (key.ev vars stk)) (key.ev vars stk) (v.ev vars stk) k vars stk h) (h.obj b)) at hn
  change OpOkU ρ h w k vars stk (onMp (mapUpdate2 b (eqK kk (key.ev vars stk)) (key.ev vars stk) (v.ev vars stk) k vars stk h) (h.obj b)) _
  obtain ⟨es, tk, ho, he2⟩ := onMp_inv hn
  rw [he2] at hn ⊢
  unfold mapUpdate2 at hn ⊢
  obtain ⟨o, hf, he3⟩ := optR_inv hn
  rw [he3]
  have ob := r.obj b _ ho l hb
  cases ob with
  | mp _ _ ces clock hw hmr =>
  cases o with
  | none =>
    obtain ⟨w', s1, s2⟩ := run_setMap (P := P) hw (ces.push { key := K, val := V, born := clock }) (clock + 1)
    refine ⟨_, ρ, w', rfl, s2.stp r ho hb _ (.mp _ _ _ _ s2.at' ?_), ?_⟩
    · rw [putKey_new _ _ (findKey_none hf)]
      exact map_new (fun _ _ e => e) hmr (fun p hp => eqK_U (findKey_none hf p hp)) rfl hK hV (fun p key h => by cases h)
    · simp only [Instr.mapUpdate, underlying, Sem.run_bind, run_program, Result.andThen_ok, ht, Sem.run_pure, run_getMap hw, checkKey_ok hk hK hc, find_none hmr hk hK hf, s1]
  | some o =>
    obtain ⟨el1, r1, q, i, e, hes, hl, hq, hr, hi, hrk, hrv, σ, s1, s2, s3, s4⟩ := find_some (w := w) (P := P) hmr hk hK hf
    subst hes
    obtain ⟨K', w1, g1, g2, g3⟩ := run_keyStays (P := P) (w := w) (eqK_U hq) hrk hK
    obtain ⟨w', t1, t2⟩ := run_setMap (P := P) (w := w1) (by rw [g2.heap]; exact hw) (ces.modify i fun e => { e with key := K', val := V }) clock
    have t2 := t2.drawn g2
    refine ⟨_, ρ, w', rfl, t2.stp r ho hb _ (.mp _ _ _ _ t2.at' ?_), ?_⟩
    · rw [putKey_mid _ _ hl hq]
      exact map_mid (fun _ _ e => e) hmr (eqK_U hq) hi s1 s2 s3 s4 (m' := { e with key := K', val := V }) rfl g3 hV rfl (fun p key h => by cases h)
    · simp only [Instr.mapUpdate, underlying, Sem.run_bind, run_program, Result.andThen_ok, ht, Sem.run_pure, run_getMap hw, checkKey_ok hk hK hc, hr, hi, Option.map_some, Option.getD_some, g1, t1]
theorem delete_ok (r : Rel ρ h w) {m key : G} {M K : Value} (hm : RV ρ (m.ev vars stk) M) (hK : RV ρ (key.ev vars stk) K) {t kt el : TypeId} (ht : P.underlying t = some (.map kt el)) {kk : KK} (hk : kkOf P kt = some kk) (t1 t2 : TypeId)
    (hn : NF (deleteC kk m key k vars stk h)) : OpOk ρ h w k vars stk (deleteC kk m key k vars stk h) ((Builtin.delete_ #[t, t1] t2 #[M, K]).run P w) := by
  unfold deleteC at hn ⊢
  obtain ⟨hc, he⟩ := ifR_inv hn
  rw [he] at hn ⊢
  rcases onMap_inv hn with hv | ⟨b, hv⟩ <;> rw [hv] at hm hn ⊢
  · exact absurd rfl (hn _)
  cases hm with
  | map _ l hb =>
  change NF (onMp (delete2 b (eqK kk (key.ev vars stk)) k vars stk h) (h.obj b)) at hn
  change OpOk ρ h w k vars stk (onMp (delete2 b (eqK kk (key.ev vars stk)) k vars stk h) (h.obj b)) _
  obtain ⟨es, tk, ho, he2⟩ := onMp_inv hn
  rw [he2] at hn ⊢
  unfold delete2 at hn ⊢
  obtain ⟨o, hf, he3⟩ := optR_inv hn
  rw [he3]
  have ob := r.obj b _ ho l hb
  cases ob with
  | mp _ _ ces clock hw hmr =>
  cases o with
  | none =>
    obtain ⟨w', s1, s2⟩ := run_setMap (P := P) hw ces clock
    refine ⟨.tup [], _, ρ, w', .tuple #[], rfl, s2.stp r ho hb _ (.mp _ _ _ _ s2.at' ?_), .tup [] #[] rfl (by simp), ?_⟩
    · rw [delKey_new (findKey_none hf)]
      exact map_tok hmr
    · simp [Builtin.delete_, underlying, Sem.run_bind, run_program, Result.andThen_ok, ht, Sem.run_pure, run_getMap hw, checkKey_ok hk hK hc, find_none hmr hk hK hf, s1]
  | some o =>
    obtain ⟨el1, r1, q, i, e, hes, hl, hq, hr, hi, hrk, hrv, σ, s1, s2, s3, s4⟩ := find_some (w := w) (P := P) hmr hk hK hf
    subst hes
    obtain ⟨w', t1, t2⟩ := run_setMap (P := P) (w := w) hw (ces.eraseIdxIfInBounds i) clock
    refine ⟨.tup [], _, ρ, w', .tuple #[], rfl, t2.stp r ho hb _ (.mp _ _ _ _ t2.at' ?_), .tup [] #[] rfl (by simp), ?_⟩
    · rw [delKey_mid hl hq]
      exact map_del hmr hi s1 s2 s3 s4
    · simp [Builtin.delete_, underlying, Sem.run_bind, run_program, Result.andThen_ok, ht, Sem.run_pure, run_getMap hw, checkKey_ok hk hK hc, hr, hi, t1]
end
end Go.Ev
namespace Go.Ev
set_option autoImplicit false
variable [Rounds]
open Go

section
variable {P : Program} {ρ : Emb} {h : AH} {w : World} {k : K} {vars stk : List AV}
theorem AH.obj_bump (h : AH) (q : Pos) : (h.bump).obj q = h.obj q := by cases h; rfl
theorem AH.nx_bump (h : AH) : (h.bump).nx = h.nx.succ := by cases h; rfl
theorem stp_bump (r : Rel ρ h w) (l : Loc) : Stp ρ h w (ρ.set h.nx l) h.bump w := by
  have hle := Emb.le_set l r.nx_none
  have ne : ∀ {p}, h.obj p ≠ none → p ≠ h.nx := fun hp e => hp (e ▸ r.nx_free)
  refine ⟨hle, ⟨?_, ?_, ?_, ?_⟩, ?_, rfl, rfl, rfl, Nat.le_refl _, fun _ _ _ => rfl, ?_, ?_, Nat.le_refl _⟩
  · intro p o hp m hm
    rw [AH.obj_bump] at hp
    have e := ne (p := p) (by simp [hp])
    exact (r.obj p o hp m (by simpa [Emb.set, e] using hm)).mono hle
  · intro p q m n hp hq hm hn e
    rw [AH.obj_bump] at hp hq
    exact r.inj p q m n hp hq (by simpa [Emb.set, ne hp] using hm) (by simpa [Emb.set, ne hq] using hn) e
  · intro p m hm
    rw [AH.nx_bump, Pos.num_succ]
    by_cases e : p = h.nx
    · subst e; omega
    · have := r.fresh1 p m (by simpa [Emb.set, e] using hm); omega
  · intro p hp
    rw [AH.obj_bump] at hp
    rw [AH.nx_bump, Pos.num_succ]
    have := r.fresh2 p hp; omega
  · rw [AH.nx_bump, Pos.num_succ]; omega
  · intro p l' hp hl'
    rw [AH.obj_bump] at hp
    exact .inr ⟨p, l', hp, by simpa [Emb.set, ne hp] using hl', rfl⟩
  · intro p hp e
    have ne : p ≠ h.nx := fun e => by subst e; omega
    exact ⟨by simp [Emb.set, ne, e], by rw [AH.obj_bump]⟩

theorem mapEntry_ok (r : Rel ρ h w) {m key : G} {M K : Value} (hm : RV ρ (m.ev vars stk) M) (hK : RV ρ (key.ev vars stk) K) {t kt el : TypeId} (ht : P.underlying t = some (.map kt el)) {kk : KK} (hk : kkOf P kt = some kk)
    {z : AV} (hz : zeroA P el = some z) (hn : NF (mapEntryC kk z m key k vars stk h)) : OpOk ρ h w k vars stk (mapEntryC kk z m key k vars stk h) ((Instr.mapEntry t M K).run P w) := by
  obtain ⟨zi, Z, hi, hZ, _, hzr⟩ := zero_cells (ρ := ρ) hz
  unfold mapEntryC at hn ⊢
  cases hv : m.ev vars stk with
  | map b =>
    rw [hv] at hm hn
    simp only at hn ⊢
    cases hm with
    | map _ l hb =>
    cases ho : h.obj b with
    | none => rw [ho] at hn; exact absurd rfl (hn _)
    | some o =>
    rw [ho] at hn
    cases o with
    | mp es tk =>
      simp only at hn ⊢
      cases hc : chkK kk (key.ev vars stk) with
      | false => rw [hc] at hn; exact absurd rfl (hn _)
      | true =>
      rw [hc] at hn
      simp only [cond_true] at hn ⊢
      have ob := r.obj b _ ho l hb
      cases ob with
      | mp _ _ ces clock hw hmr =>
      cases hf : findKey (eqK kk (key.ev vars stk)) es with
      | none => rw [hf] at hn; exact absurd rfl (hn _)
      | some o =>
        cases o with
        | none =>
          have st := stp_bump r ⟨clock, 0, 0, 0, #[], []⟩
          have hb' := st.le b l hb
          obtain ⟨w', s1, s2⟩ := run_setMap (P := P) hw (ces.push { key := K, val := Z, born := clock }) (clock + 1)
          have st2 := s2.stp st.rel (by rw [AH.obj_bump]; exact ho) hb' (.mp (putKey (eqK kk (key.ev vars stk)) (key.ev vars stk) z es) (some (h.nx, key.ev vars stk))) (.mp _ _ _ _ s2.at' (by
            rw [putKey_new _ _ (findKey_none hf)]
            exact map_new st.le hmr (fun p hp => eqK_U (findKey_none hf p hp)) rfl (hK.mono st.le) (hzr.mono st.le) (fun p key h => by cases h; exact ⟨_, Emb.set_same _ _ _, rfl, rfl⟩)))
          refine ⟨.tup [z, .tok h.nx], _, _, w', .tuple #[Z, goInt clock], rfl, st.trans st2, tup2 (hzr.mono st.le) (.tok h.nx ⟨clock, 0, 0, 0, #[], []⟩ (Emb.set_same _ _ _)), ?_⟩
          simp only [Instr.mapEntry, underlying, Sem.run_bind, run_program, Result.andThen_ok, ht, Sem.run_pure, run_getMap hw, checkKey_ok hk hK hc, find_none hmr hk hK hf, run_zero hi hZ, s1]
        | some v =>
          obtain ⟨el1, r1, q, i, e, hes, hl, hq, hr, hi, hrk, hrv, σ, s1, s2, s3, s4⟩ := find_some (w := w) (P := P) hmr hk hK hf
          subst hes
          have st := stp_bump r ⟨e.born, 0, 0, 0, #[], []⟩
          have hb' := st.le b l hb
          obtain ⟨K', w1, g1, g2, g3⟩ := run_keyStays (P := P) (w := w) (eqK_U hq) hrk hK
          obtain ⟨w', t1, t2⟩ := run_setMap (P := P) (w := w1) (by rw [g2.heap]; exact hw) (ces.modify i fun e => { e with key := K' }) clock
          have t2 := t2.drawn g2
          have st2 := t2.stp st.rel (by rw [AH.obj_bump]; exact ho) hb' (.mp (putKey (eqK kk (key.ev vars stk)) (key.ev vars stk) v (el1 ++ (q, v) :: r1)) (some (h.nx, key.ev vars stk))) (.mp _ _ _ _ t2.at' (by
            rw [putKey_mid _ _ hl hq]
            exact map_mid st.le hmr (eqK_U hq) hi s1 s2 s3 s4 (m' := { e with key := K' }) rfl (g3.mono st.le) (hrv.mono st.le) rfl (fun p key h => by cases h; exact ⟨_, Emb.set_same _ _ _, rfl, rfl⟩)))
          refine ⟨.tup [v, .tok h.nx], _, _, w', .tuple #[e.val, goInt e.born], rfl, st.trans st2, tup2 (hrv.mono st.le) (.tok h.nx ⟨e.born, 0, 0, 0, #[], []⟩ (Emb.set_same _ _ _)), ?_⟩
          simp only [Instr.mapEntry, underlying, Sem.run_bind, run_program, Result.andThen_ok, ht, Sem.run_pure, run_getMap hw, checkKey_ok hk hK hc, hr, hi, Option.map_some, Option.getD_some, g1, t1]
    | _ => exact absurd rfl (hn _)
  | _ => rw [hv] at hn; exact absurd rfl (hn _)

theorem findIdx_born {ces : Array MapEntry} (hb : (ces.toList.map (·.born)).Nodup) {n : Nat} {m : MapEntry} (hm : m ∈ ces.toList) (hn : m.born = n) :
    ∃ i, ces.findIdx? (fun e => (e.born : Int) == (n : Int)) = some i ∧ ces[i]? = some m := by
  cases hf : ces.findIdx? (fun e => (e.born : Int) == (n : Int)) with
  | none =>
    rw [Array.findIdx?_eq_none_iff] at hf
    have := hf m (Array.mem_toList_iff.1 hm)
    simp [hn] at this
  | some i =>
    refine ⟨i, rfl, ?_⟩
    obtain ⟨h1, h2, _⟩ := Array.findIdx?_eq_some_iff_getElem.1 hf
    have h2 : ces[i].born = n := by simp at h2; omega
    obtain ⟨j, hj⟩ := List.mem_iff_getElem?.1 hm
    obtain ⟨hj1, hj2⟩ := List.getElem?_eq_some_iff.1 hj
    have hp := List.pairwise_iff_getElem.1 hb
    have ei : (ces.toList.map (·.born))[i]'(by simpa using h1) = n := by rw [List.getElem_map, Array.getElem_toList, h2]
    have ej : (ces.toList.map (·.born))[j]'(by simpa using hj1) = n := by rw [List.getElem_map, hj2, hn]
    have this : i = j := by
      rcases Nat.lt_trichotomy i j with h | h | h
      · exact absurd (ei.trans ej.symm) (hp i j _ _ h)
      · exact h
      · exact absurd (ej.trans ei.symm) (hp j i _ _ h)
    subst this
    rw [← Array.getElem?_toList]; exact hj

theorem entryStore_ok (r : Rel ρ h w) {m s v : G} {M S V : Value} (hm : RV ρ (m.ev vars stk) M) (hS : RV ρ (s.ev vars stk) S) (hV : RV ρ (v.ev vars stk) V) (t : TypeId) {kk : KK} 
    (hn : NF (entryStoreC kk m s v k vars stk h)) : OpOkU ρ h w k vars stk (entryStoreC kk m s v k vars stk h) ((Instr.entryStore t M S V).run P w) := by
  unfold entryStoreC at hn ⊢
  cases hv : m.ev vars stk with
  | map b =>
    rw [hv] at hm hn
    cases hs : s.ev vars stk with
    | tok p =>
      rw [hs] at hS hn
      simp only at hn ⊢
      cases hm with
      | map _ l hb =>
      cases hS with
      | tok _ lt hp =>
      cases ho : h.obj b with
      | none => rw [ho] at hn; exact absurd rfl (hn _)
      | some o =>
      rw [ho] at hn
      cases o with
      | mp es tk =>
        cases tk with
        | none => exact absurd rfl (hn _)
        | some qk =>
          obtain ⟨q, key⟩ := qk
          simp only at hn ⊢
          obtain ⟨hpq, he⟩ := ifR_inv hn
          rw [he] at hn ⊢
          have hpq : p = q := by simpa [posEq] using hpq
          subst hpq
          have ob := r.obj b _ ho l hb
          cases ob with
          | mp _ _ ces clock hw hmr =>
          cases hf : findKey (eqK kk key) es with
          | none => rw [hf] at hn; exact absurd rfl (hn _)
          | some o =>
          rw [hf] at hn
          cases o with
          | none => exact absurd rfl (hn _)
          | some v0 =>
          simp only
          obtain ⟨l1, r1, q, hes, hl, hq⟩ := findKey_some hf
          subst hes
          obtain ⟨σ, s1, s2, s3, s4⟩ := hmr.perm
          obtain ⟨lo, hlo, hor⟩ := s4 p key rfl
          have hnk : key ≠ .undef := by
            rintro rfl
            have := eqK_U hq
            rcases eqU_true this with rfl | ⟨n, mm, x, h, _⟩
            · cases this
            · cases h
          have hnt : key ≠ .tup [] := by
            rintro rfl
            have := eqK_U hq
            rcases eqU_true this with rfl | ⟨n, mm, x, h, _⟩
            · cases this
            · cases h
          obtain ⟨i, m', v', h1, h2, h3⟩ := hor.resolve_right fun h => h.elim (fun h => hnk h.1) (fun h => hnt h.1)
          rw [hp] at hlo; cases hlo
          have dist := hmr.dist
          rw [List.map_append, List.map_cons, List.pairwise_append, List.pairwise_cons] at dist
          have hi : i = l1.length ∧ key = q := by
            rcases Nat.lt_trichotomy i l1.length with h | h | h
            · rw [List.getElem?_append_left h] at h2
              have := hl (key, v') (List.mem_of_getElem? h2)
              have e2 := dist.2.2 key (List.mem_map.2 ⟨_, List.mem_of_getElem? h2, rfl⟩) q List.mem_cons_self
              rw [eqK_U hq] at e2; cases e2
            · subst h
              rw [List.getElem?_append_right (Nat.le_refl _), Nat.sub_self] at h2
              cases h2; exact ⟨rfl, rfl⟩
            · rw [List.getElem?_append_right (by omega), show i - l1.length = (i - l1.length - 1) + 1 by omega, List.getElem?_cons_succ] at h2
              have e2 := dist.2.1.1 key (List.mem_map.2 ⟨_, List.mem_of_getElem? h2, rfl⟩)
              rw [eqU_symm, eqK_U hq] at e2; cases e2
          obtain ⟨rfl, rfl⟩ := hi
          obtain ⟨rk, rv⟩ := s3 _ _ _ _ h2 h1
          obtain ⟨j, j1, j2⟩ := findIdx_born hmr.born (s1.mem_iff.1 (List.mem_of_getElem? h1)) h3
          obtain ⟨w', t1, t2⟩ := run_setMap (P := P) (w := w) hw (ces.modify j fun e => { e with val := V }) clock
          refine ⟨_, ρ, w', rfl, t2.stp r ho hb _ (.mp _ _ _ _ t2.at' ?_), ?_⟩
          · rw [putKey_mid _ _ hl hq]
            exact map_mid (fun _ _ e => e) hmr (eqK_U hq) j2 s1 s2 h1 s3 (m' := { m' with val := V }) rfl rk hV rfl (fun p key h => by cases h)
          · simp only [Instr.entryStore, Sem.run_bind, run_getMap hw, Result.andThen_ok, asInt, asIntOf, Sem.run_pure, j1, t1]
      | _ => exact absurd rfl (hn _)
    | _ => rw [hs] at hn; exact absurd rfl (hn _)
  | _ => rw [hv] at hn; exact absurd rfl (hn _)
end
end Go.Ev
namespace Go.Ev
set_option autoImplicit false
variable [Rounds]
open Go

/-! ranges over maps of many entries -/
theorem nodup_len : ∀ (s b : List Nat), s.Nodup → (∀ x ∈ s, x ∈ b) → s.length ≤ b.length
  | [], _, _, _ => Nat.zero_le _
  | a :: t, b, hn, hs => by
    have ha := hs a List.mem_cons_self
    have hn' := List.nodup_cons.1 hn
    have := nodup_len t (b.erase a) hn'.2 fun x hx => (List.mem_erase_of_ne (fun (e : x = a) => hn'.1 (e ▸ hx))).2 (hs x (List.mem_cons_of_mem _ hx))
    rw [List.length_erase_of_mem ha] at this
    have hb : 0 < b.length := List.length_pos_of_mem ha
    simp only [List.length_cons]
    omega
theorem nodup_cover (s b : List Nat) (hn : s.Nodup) (hs : ∀ x ∈ s, x ∈ b) (hl : b.length ≤ s.length) : ∀ x ∈ b, x ∈ s := by
  intro x hx
  rcases Classical.em (x ∈ s) with h | h
  · exact h
  · have := nodup_len s (b.erase x) hn fun y hy => (List.mem_erase_of_ne (fun (e : y = x) => h (e ▸ hy))).2 (hs y hy)
    rw [List.length_erase_of_mem hx] at this
    have hb : 0 < b.length := List.length_pos_of_mem hx
    omega

theorem symL_len (q p : Pos) : ∀ (n j : Nat), (symL q p n j).length = n
  | 0, _ => rfl
  | n + 1, j => by simp only [symL, List.length_cons, symL_len]
theorem symL_get (q p : Pos) : ∀ (n j i : Nat), i < n → (symL q p n j)[i]? = some (.sym q p (j + i))
  | 0, _, _, h => absurd h (Nat.not_lt_zero _)
  | n + 1, j, 0, _ => rfl
  | n + 1, j, i + 1, h => by
    show (symL q p n (j + 1))[i]? = _
    rw [symL_get q p n (j + 1) i (by omega), show j + 1 + i = j + (i + 1) by omega]

section
variable {P : Program} {ρ : Emb} {h : AH} {w : World} {k : K} {vars stk : List AV}
theorem cells_one {y : Value} (h : y.oneCell' = true) : y.cells = #[y] := by cases y <;> first | rfl | cases h
/-- what stands for an entry's key, or value -/
theorem symAV_ok {key k' : AV} {Y : Value} (hs : sameSh key k' = true) (hr : RV ρ k' Y) : Y.cells.size = avSize key ∧ ∀ {ρ' : Emb} (q p : Pos) (j : Nat) (lq l : Loc), ρ' q = some lq → ρ' p = some l → (∀ i, i < Y.cells.size → l.vals[j + i]? = Y.cells[i]?) → RV ρ' (symAV q p j key) Y := by
  have one : avOne key = true → avOne k' = true → Y.cells.size = 1 ∧ ∀ {ρ' : Emb} (q p : Pos) (j : Nat) (lq l : Loc), ρ' q = some lq → ρ' p = some l → (∀ i, i < Y.cells.size → l.vals[j + i]? = Y.cells[i]?) → RV ρ' (.sym q p j) Y := by
    intro _ h2
    obtain ⟨a, b⟩ := avOne_cells hr h2
    rw [b]
    refine ⟨rfl, fun q p j lq l hq hl hv => .sym q p j lq hq l hl Y ?_ a⟩
    have := hv 0 (by simp)
    simpa using this
  cases key with
  | agg n l =>
    cases k' with
    | agg m l' =>
      simp only [sameSh, Bool.and_eq_true, beq_iff] at hs
      obtain ⟨rfl, h1, h2⟩ := hs
      rw [len_eq] at h1 h2
      cases hr with
      | agg _ cs hl hc hv =>
        refine ⟨?_, fun q p j lq l1 hq hl1 hv1 => ?_⟩
        · show cs.size = _
          rw [← hl]; exact h2
        · have h3 : symAV q p j (.agg l'.length l) = .agg (symL q p l'.length j).length (symL q p l'.length j) := by rw [symL_len]; rfl
          rw [h3]
          refine .agg _ cs (by rw [symL_len, hl]) hc fun i x y hx hy => ?_
          have hi := (Array.getElem?_eq_some_iff.1 hy).1
          rw [symL_get _ _ _ _ _ (by rw [hl]; exact hi)] at hx
          cases hx
          refine .sym q p _ lq hq l1 hl1 y ?_ (hc i y hy)
          rw [hv1 i hi]; exact hy
    | _ => simp [sameSh] at hs
  | _ =>
    cases k' with
    | agg m l' => simp [sameSh] at hs
    | _ =>
      simp only [sameSh, Bool.and_eq_true] at hs
      exact one hs.1 hs.2
theorem shapes_at {key v : AV} {es : List (AV × AV)} (h : shapes ((key, v) :: es) = true) {k' v' : AV} (hm : (k', v') ∈ (key, v) :: es) : sameSh key k' = true ∧ sameSh v v' = true := by
  have := List.all_eq_true.1 h _ hm
  simpa using this
/-- the map has not been turned since the range began -/
theorem many_entries {e1 e2 : AV × AV} {es : List (AV × AV)} {p : Pos} {ces : Array MapEntry} {clock : Nat} (hmr : MapRel ρ (e1 :: e2 :: es) (some (p, .tup [])) ces clock) : ∃ l, ρ p = some l ∧ clock = l.sh ∧ ces = l.ces := by
  obtain ⟨σ, s1, s2, s3, s4⟩ := hmr.perm
  obtain ⟨l, l1, l2⟩ := s4 p _ rfl
  refine ⟨l, l1, ?_⟩
  rcases l2 with ⟨i, m', v', h1, h2, h3⟩ | ⟨h0, _⟩ | ⟨_, h2, h3⟩
  · exfalso
    have dist := hmr.dist
    have no : ∀ x : AV, eqU (.tup []) x ≠ some false ∧ eqU x (.tup []) ≠ some false := fun x => by cases x <;> simp [eqU, eq1]
    simp only [List.map_cons, List.pairwise_cons] at dist
    obtain ⟨d1, d2, d3⟩ := dist
    cases i with
    | zero =>
      cases h2
      exact (no _).1 (d1 e2.1 List.mem_cons_self)
    | succ i =>
      have h2 : (e2 :: es)[i]? = some (.tup [], v') := by simpa using h2
      have hm : AV.tup [] ∈ (e2 :: es).map (·.1) := List.mem_map.2 ⟨_, List.mem_of_getElem? h2, rfl⟩
      exact (no _).2 (d1 (AV.tup []) (by simpa using hm))
  · cases h0
  · exact ⟨h2, h3⟩

/-- one more has come -/
theorem IterRel.push {l : Loc} {es : List (AV × AV)} {gs : List Pos} {n : Nat} {seen : Array Nat} (hi : IterRel ρ l es gs (n + 1) seen) {ρ' : Emb} (hle : ρ.le ρ') {g : Pos} {lg : Loc} (hg : ρ' g = some lg) {m : MapEntry} (hm : m ∈ l.ces.toList)
    (hs : m.born ∉ seen.toList) (hv : lg.vals = m.key.cells.toList ++ m.val.cells.toList) : IterRel ρ' l es (gs ++ [g]) n (seen.push m.born) where
  perm := (hi.mono hle).perm
  born := hi.born
  clock := hi.clock
  shape := hi.shape
  len := by rw [List.length_append]; have := hi.len; simp; omega
  hseen := by rw [Array.size_push, hi.hseen]; simp
  nodup := by
    rw [Array.toList_push, List.nodup_append]
    refine ⟨hi.nodup, by simp, fun a ha b hb => ?_⟩
    rw [List.mem_singleton.1 hb]
    exact fun e => hs (e ▸ ha)
  grp := by
    intro i x hx
    rcases Nat.lt_or_ge i gs.length with h | h
    · rw [List.getElem?_append_left h] at hx
      obtain ⟨lg', m', a, b, c, d⟩ := (hi.mono hle).grp i x hx
      refine ⟨lg', m', a, b, ?_, d⟩
      rw [Array.getElem?_push, if_neg (by rw [hi.hseen]; omega)]; exact c
    · rw [List.getElem?_append_right h] at hx
      have h0 : i - gs.length = 0 := by
        rcases Nat.eq_zero_or_pos (i - gs.length) with h0 | h0
        · exact h0
        · rw [List.getElem?_eq_none (by simp; omega)] at hx; cases hx
      rw [h0] at hx
      cases hx
      refine ⟨lg, m, hg, hm, ?_, hv⟩
      rw [Array.getElem?_push, if_pos (by rw [hi.hseen]; omega)]
theorem IterRel.size {l : Loc} {es : List (AV × AV)} {gs : List Pos} {n : Nat} {seen : Array Nat} (hi : IterRel ρ l es gs n seen) : l.ces.size = es.length := by
  obtain ⟨σ, s1, s2, _⟩ := hi.perm
  rw [← s2, s1.length_eq, Array.length_toList]
theorem IterRel.seenIn {l : Loc} {es : List (AV × AV)} {gs : List Pos} {n : Nat} {seen : Array Nat} (hi : IterRel ρ l es gs n seen) : ∀ x ∈ seen.toList, x ∈ l.ces.toList.map (·.born) := by
  intro x hx
  obtain ⟨i, hx⟩ := List.mem_iff_getElem?.1 hx
  rw [Array.getElem?_toList] at hx
  have h1 := (Array.getElem?_eq_some_iff.1 hx).1
  rw [hi.hseen] at h1
  obtain ⟨lg, m, _, b, c, _⟩ := hi.grp i gs[i] (List.getElem?_eq_getElem h1)
  rw [hx] at c
  cases c
  exact List.mem_map.2 ⟨m, b, rfl⟩
/-- each entry is like the first -/
theorem IterRel.like {l : Loc} {key v : AV} {es : List (AV × AV)} {gs : List Pos} {n : Nat} {seen : Array Nat} (hi : IterRel ρ l ((key, v) :: es) gs n seen) {m : MapEntry} (hm : m ∈ l.ces.toList) : ∃ k' v', sameSh key k' = true ∧ sameSh v v' = true ∧ RV ρ k' m.key ∧ RV ρ v' m.val := by
  obtain ⟨σ, s1, s2, s3⟩ := hi.perm
  obtain ⟨i, hi'⟩ := List.mem_iff_getElem?.1 (s1.mem_iff.2 hm)
  have h1 := (List.getElem?_eq_some_iff.1 hi').1
  rw [s2] at h1
  have h2 := List.getElem?_eq_getElem h1
  obtain ⟨a, b⟩ := s3 i _ _ m h2 hi'
  obtain ⟨c, d⟩ := shapes_at hi.shape (List.mem_of_getElem? h2)
  exact ⟨_, _, c, d, a, b⟩
theorem IterRel.vals {l : Loc} {key v : AV} {es : List (AV × AV)} {gs : List Pos} {n : Nat} {seen : Array Nat} (hi : IterRel ρ l ((key, v) :: es) gs n seen) {m : MapEntry} (hm : m ∈ l.ces.toList) {ρ' : Emb} (q g : Pos) {lq lg : Loc} (hq : ρ' q = some lq) (hg : ρ' g = some lg) (hv : lg.vals = m.key.cells.toList ++ m.val.cells.toList) :
    RV ρ' (symAV q g 0 key) m.key ∧ RV ρ' (symAV q g (avSize key) v) m.val := by
  obtain ⟨k', v', a, b, c, d⟩ := hi.like hm
  obtain ⟨e1, e2⟩ := symAV_ok a c
  obtain ⟨_, f2⟩ := symAV_ok b d
  refine ⟨e2 q g 0 lq lg hq hg fun i hi => ?_, f2 q g _ lq lg hq hg fun i hi => ?_⟩
  · rw [hv, Nat.zero_add, List.getElem?_append_left (by simpa using hi), Array.getElem?_toList]
  · rw [hv, List.getElem?_append_right (by rw [Array.length_toList, e1]; omega), Array.length_toList, e1, Nat.add_sub_cancel_left, Array.getElem?_toList]

theorem run_chooseMap {n : Nat} (hn : 0 < n) : ∃ i w', (choose (.mapNext n)).run P w = .ok i w' ∧ i < n ∧ Drawn w w' := by
  show ∃ i w', (if (Question.mapNext n).forced = true then _ else _) = _ ∧ _
  by_cases h : n ≤ 1
  · refine ⟨0, w, ?_, hn, .refl w⟩
    simp [choose, Sem.run, Question.forced, h]
  · refine ⟨w.tape w.drawn (.mapNext n) % n, { w with drawn := w.drawn + 1 }, ?_, Nat.mod_lt _ hn, rfl, rfl, rfl, rfl, Nat.le_succ _⟩
    simp [choose, Sem.run, Question.forced, Question.cut, h]
end
end Go.Ev
namespace Go.Ev
set_option autoImplicit false
variable [Rounds]
open Go

section
variable {P : Program} {ρ : Emb} {h : AH} {w : World} {k : K} {vars stk : List AV}
theorem posEq_eq' {a b : Pos} (h : posEq a b = true) : a = b := by simpa [posEq] using h
theorem run_newIter (o : Go.Obj) : (newObj o).run P w = .ok w.heap.size (w.alloc o) := by rw [run_newObj]; rfl
theorem rangeMap_ok (r : Rel ρ h w) {x : G} {X : Value} (hx : RV ρ (x.ev vars stk) X) {t kt el : TypeId} (ht : P.underlying t = some (.map kt el)) (hn : NF (rangeMap x k vars stk h)) :
    OpOk ρ h w k vars stk (rangeMap x k vars stk h) ((Instr.range t X).run P w) := by
  unfold rangeMap at hn ⊢
  split at hn
  · rename_i hv
    rw [hv] at hx
    cases hx
    refine ⟨_, _, ρ.set h.nx ⟨w.heap.size, 0, 0, 0, #[], []⟩, w.alloc (.mapIter none 0 #[] 0), .pointer (some ⟨w.heap.size, 0, none⟩), rfl, stp_new r _ _ _ rfl (.mi0 _ _ 0 0 #[] (by show (w.heap.push _)[w.heap.size]? = _; simp)), .miter _ _ (Emb.set_same _ _ _), ?_⟩
    simp only [Instr.range, underlying, Sem.run_bind, run_program, Result.andThen_ok, ht, Sem.run_pure, run_newIter]
  · rename_i b hv
    rw [hv] at hx
    cases hx with
    | map _ l hb =>
    split at hn
    · rename_i tk ho
      have ob := r.obj b _ ho l hb
      cases ob with
      | mp _ _ ces clock hw hmr =>
      have st := stp_new r (.mi (some b) [.undef] .undef) (.mapIter (some l.cb) clock #[] clock) ⟨w.heap.size, clock, 0, 0, #[], []⟩ rfl
        (.mi b l [.undef] .undef #[] (by show (w.heap.push _)[w.heap.size]? = _; simp) (Emb.le_set _ r.nx_none _ _ hb) (fun h => by cases h) (fun _ => rfl))
      refine ⟨_, _, _, _, .pointer (some ⟨w.heap.size, 0, none⟩), rfl, st, .miter _ _ (Emb.set_same _ _ _), ?_⟩
      simp only [Instr.range, underlying, Sem.run_bind, run_program, Result.andThen_ok, ht, Sem.run_pure, run_getMap hw, run_newIter]
    · rename_i key v tk ho
      have ob := r.obj b _ ho l hb
      cases ob with
      | mp _ _ ces clock hw hmr =>
      obtain ⟨σ, s1, s2, s3, _⟩ := hmr.perm
      have hσ : ∃ m, σ = [m] := by
        match σ, s2 with
        | [m], _ => exact ⟨m, rfl⟩
      obtain ⟨m, rfl⟩ := hσ
      have hces : ces.toList = [m] := (List.singleton_perm.1 s1).symm ▸ rfl
      have st := stp_new r (.mi (some b) [key] .undef) (.mapIter (some l.cb) clock #[] clock) ⟨w.heap.size, clock, m.born, 0, #[], []⟩ rfl
        (.mi b l [key] .undef #[] (by show (w.heap.push _)[w.heap.size]? = _; simp) (Emb.le_set _ r.nx_none _ _ hb) (fun h => by cases h) (fun _ => rfl))
      have hb' := st.le b l hb
      have hne : b ≠ h.nx := by rintro rfl; rw [r.nx_none] at hb; cases hb
      have ho' : (h.new (.mi (some b) [key] .undef)).obj b = some (.mp [(key, v)] tk) := by rw [AH.obj_new, if_neg hne]; exact ho
      have hw' : (w.alloc (.mapIter (some l.cb) clock #[] clock)).heap[l.cb]? = some (.map ces clock) := by
        show (w.heap.push _)[l.cb]? = _
        have := (Array.getElem?_eq_some_iff.1 hw).1
        rw [Array.getElem?_push, if_neg (by omega)]; exact hw
      have st2 := stp_put st.rel ho' hb' (.mp [(key, v)] (some (h.nx, .undef))) (w.alloc (.mapIter (some l.cb) clock #[] clock)) rfl rfl rfl rfl (fun _ _ => rfl) (.mp _ _ ces clock hw' ⟨⟨[m], s1, rfl, fun i k v m hi hm => let ⟨a, b⟩ := s3 i k v m hi hm; ⟨a.mono st.le, b.mono st.le⟩, fun p key' he => by
          cases he
          exact ⟨_, Emb.set_same _ _ _, .inr <| .inl ⟨rfl, rfl, fun m' hm' => by rw [hces] at hm'; rw [List.mem_singleton.1 hm']⟩⟩⟩, hmr.dist, hmr.born, hmr.clock⟩)
      refine ⟨_, _, _, _, .pointer (some ⟨w.heap.size, 0, none⟩), rfl, st.trans st2, .miter _ _ (Emb.set_same _ _ _), ?_⟩
      simp only [Instr.range, underlying, Sem.run_bind, run_program, Result.andThen_ok, ht, Sem.run_pure, run_getMap hw, run_newIter]
    · rename_i es tk hne1 hne2 ho
      obtain ⟨hsh, he⟩ := ifR_inv hn
      rw [he] at hn ⊢
      have ob := r.obj b _ ho l hb
      cases ob with
      | mp _ _ ces clock hw hmr =>
      have hle := Emb.le_set (⟨w.heap.size, clock, 0, 0, ces, []⟩ : Loc) r.nx_none
      have hmr' := hmr.mono hle
      have st := stp_new r (.ms b es [] (len es)) (.mapIter (some l.cb) clock #[] clock) ⟨w.heap.size, clock, 0, 0, ces, []⟩ rfl
        (.ms b l es [] (len es) #[] (by show (w.heap.push _)[w.heap.size]? = _; simp) (hle _ _ hb)
          ⟨let ⟨σ, h1, h2, h3, _⟩ := hmr'.perm; ⟨σ, h1, h2, h3⟩, hmr.born, hmr.clock, hsh, by rw [len_eq]; simp, rfl, by simp, fun i g hg => by simp at hg⟩)
      have hb' := st.le b l hb
      have hne : b ≠ h.nx := by rintro rfl; rw [r.nx_none] at hb; cases hb
      have ho' : (h.new (.ms b es [] (len es))).obj b = some (.mp es tk) := by rw [AH.obj_new, if_neg hne]; exact ho
      have hw' : (w.alloc (.mapIter (some l.cb) clock #[] clock)).heap[l.cb]? = some (.map ces clock) := by
        show (w.heap.push _)[l.cb]? = _
        have := (Array.getElem?_eq_some_iff.1 hw).1
        rw [Array.getElem?_push, if_neg (by omega)]; exact hw
      have st2 := stp_put st.rel ho' hb' (.mp es (some (h.nx, .tup []))) (w.alloc (.mapIter (some l.cb) clock #[] clock)) rfl rfl rfl rfl (fun _ _ => rfl) (.mp _ _ ces clock hw'
        ⟨let ⟨σ, h1, h2, h3, _⟩ := hmr'.perm; ⟨σ, h1, h2, h3, fun p key' he => by
          cases he
          exact ⟨_, Emb.set_same _ _ _, .inr <| .inr ⟨rfl, rfl, rfl⟩⟩⟩, hmr.dist, hmr.born, hmr.clock⟩)
      refine ⟨_, _, _, _, .pointer (some ⟨w.heap.size, 0, none⟩), rfl, st.trans st2, .miter _ _ (Emb.set_same _ _ _), ?_⟩
      simp only [Instr.range, underlying, Sem.run_bind, run_program, Result.andThen_ok, ht, Sem.run_pure, run_getMap hw, run_newIter]
    · exact absurd rfl (hn _)
  · exact absurd rfl (hn _)
theorem run_getIter {r : Nat} {a : Option Nat} {b d : Nat} {c : Array Nat} (h : w.heap[r]? = some (.mapIter a b c d)) : (getObj r).run P w = .ok (.mapIter a b c d) w := by simp [getObj, Sem.run, h]
theorem run_setIter {r : Nat} {a : Option Nat} {b d : Nat} {c : Array Nat} (h : w.heap[r]? = some (.mapIter a b c d)) (a' : Option Nat) (b' d' : Nat) (c' : Array Nat) : ∃ w', (setObj r (.mapIter a' b' c' d')).run P w = .ok () w' ∧ OnlyAt w w' r (.mapIter a' b' c' d') := by
  have hr := (Array.getElem?_eq_some_iff.1 h).1
  refine ⟨{ w with heap := w.heap.setIfInBounds r (.mapIter a' b' c' d') }, by simp [setObj, Sem.run, h], rfl, rfl, rfl, by simp, fun k hk => ?_, by simp [hr], Nat.le_refl _⟩
  show (w.heap.setIfInBounds r _)[k]? = _
  rw [Array.getElem?_setIfInBounds_ne]; exact fun e => hk e.symm
theorem one_entry {key v : AV} {tk : Option (Pos × AV)} {ces : Array MapEntry} {clock : Nat} (hmr : MapRel ρ [(key, v)] tk ces clock) : ∃ m, ces = #[m] ∧ RV ρ key m.key ∧ RV ρ v m.val ∧ m.born < clock ∧ ∀ p, tk = some (p, .undef) → key ≠ .undef → ∃ l, ρ p = some l ∧ clock = l.sh ∧ m.born = l.sz := by
  obtain ⟨σ, s1, s2, s3, s4⟩ := hmr.perm
  have hσ : ∃ m, σ = [m] := by
    match σ, s2 with
    | [m], _ => exact ⟨m, rfl⟩
  obtain ⟨m, rfl⟩ := hσ
  have hces : ces.toList = [m] := (List.singleton_perm.1 s1).symm ▸ rfl
  have hc : ces = #[m] := Array.ext' hces
  obtain ⟨a, b⟩ := s3 0 key v m rfl rfl
  refine ⟨m, hc, a, b, hmr.clock m (by rw [hces]; simp), fun p hp hk => ?_⟩
  obtain ⟨l, l1, l2⟩ := s4 p _ hp
  rcases l2 with ⟨i, m', v', h1, h2, h3⟩ | ⟨_, h2, h3⟩ | ⟨h0, _⟩
  · exfalso
    cases i with
    | zero => cases h2; exact hk rfl
    | succ i => simp at h2
  · exact ⟨l, l1, h2, h3 m (by rw [hces]; simp)⟩
  · cases h0
theorem tup1 {a : AV} {A : Value} (h1 : RV ρ a A) : RV ρ (.tup [a]) (.tuple #[A]) := by
  refine .tup _ _ rfl fun j x y hx hy => ?_
  match j with
  | 0 => cases hx; cases hy; exact h1
  | j + 1 => simp at hx
theorem tup3 {a b c : AV} {A B C : Value} (h1 : RV ρ a A) (h2 : RV ρ b B) (h3 : RV ρ c C) : RV ρ (.tup [a, b, c]) (.tuple #[A, B, C]) := by
  refine .tup _ _ rfl fun j x y hx hy => ?_
  match j with
  | 0 => cases hx; cases hy; exact h1
  | 1 => cases hx; cases hy; exact h2
  | 2 => cases hx; cases hy; exact h3
  | j + 3 => simp at hx
theorem forced1 : (Question.mapNext 1).forced = true := rfl
theorem run_choose1 : (choose (.mapNext 1)).run P w = .ok 0 w := by simp [choose, Sem.run, Question.forced]
theorem run_next_end {c m since : Nat} {seen : Array Nat} {ces : Array MapEntry} {ty : TypeId} (hw : w.heap[c]? = some (.mapIter (some m) since seen since)) (hwm : w.heap[m]? = some (.map ces since)) (hc : ∀ e ∈ ces.toList, e.born < since)
    (hall : ∀ e ∈ ces, seen.contains e.born = true) : (Instr.next (.pointer (some ⟨c, 0, none⟩)) false ty).run P w = .ok (.tuple #[.bool false]) w := by
  have hleft : ces.filter (fun e => !seen.contains e.born) = #[] := by
    rw [Array.filter_eq_empty_iff]
    intro e he
    have := hall e he
    simpa using this
  have hnb : (!seen.isEmpty && !ces.isEmpty && ces.all (·.born ≥ since)) = false := by
    cases hE : ces.isEmpty with
    | true => simp
    | false =>
      have hx : ∃ e, e ∈ ces.toList := by
        cases hl : ces.toList with
        | nil => have : ces = #[] := Array.ext' hl; subst this; simp at hE
        | cons e l => exact ⟨e, by simp⟩
      obtain ⟨e, he⟩ := hx
      have h1 := hc e he
      have : ces.all (·.born ≥ since) = false := by
        rw [Bool.eq_false_iff]
        intro hcon
        rw [Array.all_eq_true_iff_forall_mem] at hcon
        have := hcon e (Array.mem_toList_iff.1 he)
        simp at this; omega
      simp [this]
  simp only [Instr.next, Sem.run_bind, Result.andThen_ok, run_getIter hw, run_getMap hwm, hnb, hleft]
  simp [forced1]
theorem run_next_more {c m since : Nat} {seen : Array Nat} {ces : Array MapEntry} {ty : TypeId} (hw : w.heap[c]? = some (.mapIter (some m) since seen since)) (hwm : w.heap[m]? = some (.map ces since)) (hc : ∀ e ∈ ces.toList, e.born < since)
    (hex : ∃ e ∈ ces.toList, e.born ∉ seen.toList) : ∃ e w1 w', e ∈ ces.toList ∧ e.born ∉ seen.toList ∧ (Instr.next (.pointer (some ⟨c, 0, none⟩)) false ty).run P w = .ok (.tuple #[.bool true, e.key, e.val]) w' ∧
    Drawn w w1 ∧ OnlyAt w1 w' c (.mapIter (some m) since (seen.push e.born) since) := by
  obtain ⟨e0, he0, hs0⟩ := hex
  have hnb : (!seen.isEmpty && !ces.isEmpty && ces.all (·.born ≥ since)) = false := by
    have h1 := hc e0 he0
    have : ces.all (·.born ≥ since) = false := by
      rw [Bool.eq_false_iff]
      intro hcon
      rw [Array.all_eq_true_iff_forall_mem] at hcon
      have := hcon e0 (Array.mem_toList_iff.1 he0)
      simp at this; omega
    simp [this]
  obtain ⟨left, hleft⟩ : ∃ left, ces.filter (fun e => !seen.contains e.born) = left := ⟨_, rfl⟩
  have hmem : ∀ e ∈ left, e ∈ ces.toList ∧ e.born ∉ seen.toList := fun e he => by
    rw [← hleft, Array.mem_filter] at he
    refine ⟨Array.mem_toList_iff.2 he.1, ?_⟩
    have := he.2
    simpa using this
  have hpos : 0 < left.size := by
    have : e0 ∈ left := by
      rw [← hleft, Array.mem_filter]
      refine ⟨Array.mem_toList_iff.1 he0, ?_⟩
      simpa using hs0
    rcases Nat.eq_zero_or_pos left.size with h0 | h0
    · rw [Array.eq_empty_of_size_eq_zero h0] at this; simp at this
    · exact h0
  have hold : left.filter (·.born < since) = left := by
    rw [Array.filter_eq_self]
    intro e he
    simpa using hc e (hmem e he).1
  have hnew : left.filter (·.born ≥ since) = #[] := by
    rw [Array.filter_eq_empty_iff]
    intro e he
    have := hc e (hmem e he).1
    simp; omega
  have hne : left.isEmpty = false := by
    cases hE : left.isEmpty with
    | false => rfl
    | true => have := Array.isEmpty_iff.1 hE; subst this; simp at hpos
  obtain ⟨i, w1, r1, r2, r3⟩ := run_chooseMap (P := P) (w := w) hpos
  have hw1 : w1.heap[c]? = some (.mapIter (some m) since seen since) := by rw [r3.heap]; exact hw
  obtain ⟨w', t1, t2⟩ := run_setIter (P := P) hw1 (some m) since since (seen.push left[i].born)
  refine ⟨left[i], w1, w', (hmem _ (Array.getElem_mem r2)).1, (hmem _ (Array.getElem_mem r2)).2, ?_, r3, t2⟩
  simp only [Instr.next, Sem.run_bind, Result.andThen_ok, run_getIter hw, run_getMap hwm, hnb, hleft, hold, hnew, hne]
  simp [r1, r2, t1]
theorem nextMap_ok (r : Rel ρ h w) {x : G} {X : Value} (hx : RV ρ (x.ev vars stk) X) (ty : TypeId) (hn : NF (nextMap x k vars stk h)) :
    OpOk ρ h w k vars stk (nextMap x k vars stk h) ((Instr.next X false ty).run P w) := by
  unfold nextMap at hn ⊢
  split at hn
  · rename_i b hv
    rw [hv] at hx
    cases hx with
    | miter _ l hb =>
    split at hn
    · rename_i rest cur ho
      have ob := r.obj b _ ho l hb
      cases ob with
      | mi0 _ _ since last seen hw =>
      refine OpOk.same r (v := .tup [.ff]) (y := .tuple #[.bool false]) rfl (tup1 .ff) ?_
      simp only [Instr.next, Sem.run_bind, Result.andThen_ok, run_getIter hw, Sem.run_pure]
    · rename_i m rest cur ho
      have ob := r.obj b _ ho l hb
      cases ob with
      | mi _ lb _ _ seen hw hlb h1 h2 =>
      split at hn
      · rename_i tk hm
        have om := r.obj m _ hm lb hlb
        cases om with
        | mp _ _ ces clock hwm hmr =>
        have hces : ces = #[] := by
          obtain ⟨σ, s1, s2, _⟩ := hmr.perm
          have : σ = [] := List.length_eq_zero_iff.1 s2
          subst this
          exact Array.ext' (List.nil_perm.1 s1)
        subst hces
        refine OpOk.same r (v := .tup [.ff]) (y := .tuple #[.bool false]) rfl (tup1 .ff) ?_
        simp [Instr.next, run_getIter hw, run_getMap hwm, forced1]
      · rename_i key v p hm
        obtain ⟨hp, he⟩ := ifR_inv hn
        rw [he] at hn ⊢
        have hp : p = b := posEq_eq' hp
        subst hp
        obtain ⟨hu, he2⟩ := onVal_inv hn
        rw [he2] at hn ⊢
        have om := r.obj m _ hm lb hlb
        cases om with
        | mp _ _ ces clock hwm hmr =>
        obtain ⟨e, rfl, k1, k2, k3, k4⟩ := one_entry hmr
        obtain ⟨l', l1, l2, l3⟩ := k4 p rfl hu
        rw [hb] at l1; cases l1
        cases rest with
        | nil =>
          have hs := h1 rfl
          subst hs
          refine OpOk.same r (v := .tup [.ff]) (y := .tuple #[.bool false]) rfl (tup1 .ff) ?_
          have hnb : ¬ (l.sh ≤ l.sz) := by omega
          simp [Instr.next, run_getIter hw, run_getMap hwm, l3, hnb, forced1]
        | cons q rest =>
          have hs := h2 (by simp)
          subst hs
          obtain ⟨w', t1, t2⟩ := run_setIter (P := P) hw (some lb.cb) l.sh clock (#[].push e.born)
          refine ⟨.tup [.tt, key, v], _, ρ, w', .tuple #[.bool true, e.key, e.val], rfl, t2.stp r ho hb (.mi (some m) [] key) (.mi m lb [] key #[l.sz] ?_ hlb (fun _ => rfl) (fun h => absurd rfl h)), tup3 .tt k1 k2, ?_⟩
          · rw [← l3]; have := t2.at'; rw [l2] at this; exact this
          · have hlt : e.born < l.sh := by omega
            have hnb : ¬ (l.sh ≤ e.born) := by omega
            have t1' : (setObj l.cb (.mapIter (some lb.cb) l.sh #[e.born] clock)).run P w = .ok () w' := t1
            simp [Instr.next, run_getIter hw, run_getMap hwm, hlt, hnb, forced1, t1']
      · exact absurd rfl (hn _)
    · rename_i m es gs ho
      have ob := r.obj b _ ho l hb
      cases ob with
      | ms _ lb _ _ _ seen hw hlb hi =>
      split at hn
      case h_2 => exact absurd rfl (hn _)
      rename_i p hm
      obtain ⟨hp, he⟩ := ifR_inv hn
      rw [he] at hn ⊢
      have hp : p = b := posEq_eq' hp
      subst hp
      have om := r.obj m _ hm lb hlb
      cases om with
      | mp _ _ ces clock hwm hmr =>
      obtain ⟨l', l1, rfl, rfl⟩ := many_entries hmr
      rw [hb] at l1; cases l1
      refine OpOk.same r (v := .tup [.ff]) (y := .tuple #[.bool false]) rfl (tup1 .ff) ?_
      have hlen := hi.len
      have hsz := hi.size
      have hall : ∀ e ∈ l.ces, seen.contains e.born = true := fun e he => by
        have := nodup_cover _ _ hi.nodup hi.seenIn (by rw [List.length_map, Array.length_toList, Array.length_toList, hi.hseen, hsz]; omega) e.born (List.mem_map.2 ⟨e, Array.mem_toList_iff.2 he, rfl⟩)
        simpa using this
      exact run_next_end hw hwm hi.clock hall
    · rename_i m key v es gs n ho
      have ob := r.obj b _ ho l hb
      cases ob with
      | ms _ lb _ _ _ seen hw hlb hi =>
      split at hn
      case h_2 => exact absurd rfl (hn _)
      rename_i p hm
      obtain ⟨hp, he⟩ := ifR_inv hn
      rw [he] at hn ⊢
      have hp : p = b := posEq_eq' hp
      subst hp
      have om := r.obj m _ hm lb hlb
      cases om with
      | mp _ _ ces clock hwm hmr =>
      obtain ⟨l', l1, rfl, rfl⟩ := many_entries hmr
      rw [hb] at l1; cases l1
      have hlen := hi.len
      have hsz := hi.size
      have hex : ∃ e ∈ l.ces.toList, e.born ∉ seen.toList := by
        rcases Classical.em (∃ e ∈ l.ces.toList, e.born ∉ seen.toList) with h | h
        · exact h
        · exfalso
          have := nodup_len _ seen.toList hi.born fun x hx => by
            obtain ⟨e, he, rfl⟩ := List.mem_map.1 hx
            exact Classical.byContradiction fun hc => h ⟨e, he, hc⟩
          rw [List.length_map, Array.length_toList, Array.length_toList, hi.hseen, hsz] at this
          omega
      obtain ⟨e, w1, w', he, hns, hrun, hdr, hat⟩ := run_next_more hw hwm hi.clock hex
      have st := stp_bump r ⟨0, 0, 0, 0, #[], e.key.cells.toList ++ e.val.cells.toList⟩
      have hb' := st.le _ _ hb
      have t2 := hat.drawn hdr
      have hg : (ρ.set h.nx ⟨0, 0, 0, 0, #[], e.key.cells.toList ++ e.val.cells.toList⟩) h.nx = some ⟨0, 0, 0, 0, #[], e.key.cells.toList ++ e.val.cells.toList⟩ := Emb.set_same _ _ _
      have st2 := t2.stp st.rel (by rw [AH.obj_bump]; exact ho) hb' (.ms m ((key, v) :: es) (gs ++ [h.nx]) n) (.ms m lb _ _ _ _ t2.at' (st.le _ _ hlb) (hi.push st.le hg he hns rfl))
      obtain ⟨v1, v2⟩ := hi.vals he p h.nx hb' hg rfl
      exact ⟨_, _, _, w', .tuple #[.bool true, e.key, e.val], rfl, st.trans st2, tup3 .tt v1 v2, hrun⟩
    · exact absurd rfl (hn _)
  · exact absurd rfl (hn _)
theorem lastP_get : ∀ (gs : List Pos) {g : Pos}, lastP gs = some g → ∃ i, gs[i]? = some g ∧ i + 1 = gs.length
  | [], _, h => by cases h
  | [x], _, h => by cases h; exact ⟨0, rfl, rfl⟩
  | x :: y :: l, g, h => by
    obtain ⟨i, a, b⟩ := lastP_get (y :: l) (g := g) h
    exact ⟨i + 1, by simpa using a, by simp at b ⊢; omega⟩
theorem find_born {ces : Array MapEntry} (hb : (ces.toList.map (·.born)).Nodup) {e : MapEntry} (he : e ∈ ces.toList) : ces.find? (fun x => x.born == e.born) = some e := by
  rw [← Array.find?_toList]
  generalize ces.toList = l at hb he
  induction l with
  | nil => cases he
  | cons a l ih =>
    rw [List.map_cons, List.nodup_cons] at hb
    rw [List.find?_cons]
    rcases List.mem_cons.1 he with rfl | h
    · simp
    · have : a.born ≠ e.born := fun hh => hb.1 (hh ▸ List.mem_map.2 ⟨e, h, rfl⟩)
      rw [show (a.born == e.born) = false by simpa using this]
      exact ih hb.2 h
theorem entryIt_ok (r : Rel ρ h w) {x : G} {X : Value} (hx : RV ρ (x.ev vars stk) X) (hn : NF (entryC x k vars stk h)) :
    OpOk ρ h w k vars stk (entryC x k vars stk h) ((Instr.entry X).run P w) := by
  unfold entryC at hn ⊢
  split at hn
  · rename_i b hv
    rw [hv] at hx
    cases hx with
    | miter _ l hb =>
    split at hn
    · rename_i m cur ho
      have ob := r.obj b _ ho l hb
      cases ob with
      | mi _ lb _ _ seen hw hlb h1 h2 =>
      split at hn
      · rename_i key v p hm
        obtain ⟨hp, he⟩ := ifR_inv hn
        rw [he] at hn ⊢
        have hp : p = b := posEq_eq' hp
        subst hp
        obtain ⟨hu, he2⟩ := onVal_inv hn
        rw [he2] at hn ⊢
        have om := r.obj m _ hm lb hlb
        cases om with
        | mp _ _ ces clock hwm hmr =>
        obtain ⟨e, rfl, k1, k2, k3, k4⟩ := one_entry hmr
        obtain ⟨l', l1, l2, l3⟩ := k4 p rfl hu
        rw [hb] at l1; cases l1
        have hs := h1 rfl
        subst hs
        refine OpOk.same r (v := .tup [key, v]) (y := .tuple #[e.key, e.val]) rfl (tup2 k1 k2) ?_
        simp [Instr.entry, run_getIter hw, run_getMap hwm, l2, l3]
      · exact absurd rfl (hn _)
    · rename_i m key v es gs n ho
      have ob := r.obj b _ ho l hb
      cases ob with
      | ms _ lb _ _ _ seen hw hlb hi =>
      split at hn
      case h_2 => exact absurd rfl (hn _)
      rename_i p g hm hg
      obtain ⟨hp, he⟩ := ifR_inv hn
      rw [he] at hn ⊢
      have hp : p = b := posEq_eq' hp
      subst hp
      have om := r.obj m _ hm lb hlb
      cases om with
      | mp _ _ ces clock hwm hmr =>
      obtain ⟨l', l1, rfl, rfl⟩ := many_entries hmr
      rw [hb] at l1; cases l1
      obtain ⟨i, hi1, hi2⟩ := lastP_get gs hg
      obtain ⟨lg, e, g1, g2, g3, g4⟩ := hi.grp i g hi1
      obtain ⟨v1, v2⟩ := hi.vals g2 p g hb g1 g4
      refine OpOk.same r (v := .tup [symAV p g 0 key, symAV p g (avSize key) v]) (y := .tuple #[e.key, e.val]) rfl (tup2 v1 v2) ?_
      have hback : seen.back? = some e.born := by
        rw [Array.back?_eq_getElem?, hi.hseen, ← hi2, Nat.add_sub_cancel]; exact g3
      have hfind : l.ces.find? (fun x => x.born == e.born) = some e := find_born hi.born g2
      simp only [Instr.entry, Sem.run_bind, Result.andThen_ok, run_getIter hw, run_getMap hwm, hback, hfind]
      simp
    · exact absurd rfl (hn _)
  · exact absurd rfl (hn _)
end
end Go.Ev
namespace Go.Ev
set_option autoImplicit false
variable [Rounds]
open Go

section
variable {P : Program} {ρ : Emb} {h : AH} {w : World} {k : K} {vars stk : List AV}
theorem rdChunks_inv {t : PM (List AV)} : ∀ {n e : Nat} {ls : List (List AV)}, rdChunks t n e = some ls → ls.length = n ∧ ∀ j x, ls[j]? = some x → t.getN (e + j) = some x
  | 0, e, ls, hl => by cases hl; exact ⟨rfl, fun j x hx => by simp at hx⟩
  | n + 1, e, ls, hl => by
    change @Option.rec (List AV) (fun _ => Option (List (List AV))) none (fun l => @Option.rec (List (List AV)) (fun _ => Option (List (List AV))) none (fun r => some (l :: r)) (rdChunks t n (e + 1))) (t.getN e) = some ls at hl
    cases h1 : t.getN e with
    | none => rw [h1] at hl; cases hl
    | some l =>
      rw [h1] at hl
      cases h2 : rdChunks t n (e + 1) with
      | none => rw [h2] at hl; cases hl
      | some r =>
        rw [h2] at hl
        cases hl
        obtain ⟨a1, a2⟩ := rdChunks_inv h2
        refine ⟨by simp [a1], fun j x hx => ?_⟩
        cases j with
        | zero => cases hx; exact h1
        | succ j => rw [show e + (j + 1) = e + 1 + j by omega]; exact a2 j x hx
theorem getN_putChunks (new : List (List AV)) : ∀ (i : Nat) (t : PM (List AV)) (e : Nat), i + new.length < 2 ^ 39 → (putChunks new i t).getN e = if i ≤ e ∧ e < i + new.length then new[e - i]? else t.getN e := by
  induction new with
  | nil => intro i t e _; rw [if_neg (by simp)]; rfl
  | cons l r ih =>
    intro i t e hb
    simp only [List.length_cons] at hb ⊢
    show (putChunks r (i + 1) (t.setN l 40 i)).getN e = _
    rw [ih _ _ _ (by omega), PM.getN_setN _ 40 i (by omega)]
    by_cases h1 : i + 1 ≤ e ∧ e < i + 1 + r.length
    · rw [if_pos h1, if_pos (by omega), show e - i = (e - (i + 1)) + 1 by omega, List.getElem?_cons_succ]
    · rw [if_neg h1]
      by_cases h2 : e = i
      · subst h2; rw [if_pos rfl, if_pos (by omega), Nat.sub_self]; rfl
      · rw [if_neg h2, if_neg (by omega)]
/-- a chunk that stands in a row of cells -/
def Good (ρ : Emb) (c : Array Value) (base sz n e : Nat) (ls : List AV) : Prop :=
  e < n ∧ ls.length = sz ∧ ∀ (i : Nat) (a : AV), ls[i]? = some a → ∃ y, c[base + e * sz + i]? = some y ∧ y.oneCell' = true ∧ RV ρ a y
theorem put_good {new : List (List AV)} {i : Nat} {t : PM (List AV)} (hb : i + new.length < 2 ^ 39) {G : Nat → List AV → Prop} (h1 : ∀ e ls, t.getN e = some ls → ¬ (i ≤ e ∧ e < i + new.length) → G e ls)
    (h2 : ∀ j ls, new[j]? = some ls → G (i + j) ls) : ∀ e ls, (putChunks new i t).getN e = some ls → G e ls := by
  intro e ls he
  rw [getN_putChunks new i t e hb] at he
  split at he
  · rename_i hc
    have := h2 (e - i) ls he
    rwa [show i + (e - i) = e by omega] at this
  · rename_i hc
    exact h1 e ls he hc

/-- what is appended: the model's row of cells -/
structure SrcOk (P : Program) (ρ : Emb) (w : World) (sz : Nat) (X : Value) (new : List (List AV)) (news : List Value) : Prop where
  len : ∀ w', (Builtin.lenOf X).run P w' = .ok new.length w'
  size : news.length = new.length * sz
  each : ∀ j ls, new[j]? = some ls → ls.length = sz ∧ ∀ (i : Nat) (a : AV), ls[i]? = some a → ∃ y, news[j * sz + i]? = some y ∧ y.oneCell' = true ∧ RV ρ a y
  run : ∀ w', w'.heap = w.heap → (Builtin.firstCells sz new.length X).run P w' = .ok news.toArray w'
theorem SrcOk.one {sz : Nat} {X : Value} {new : List (List AV)} {news : List Value} (s : SrcOk P ρ w sz X new news) : ∀ v ∈ news, v.oneCell' = true := by
  intro v hv
  obtain ⟨q, hq⟩ := List.mem_iff_getElem?.1 hv
  have hlt : q < new.length * sz := by rw [← s.size]; exact (List.getElem?_eq_some_iff.1 hq).1
  have hpos : 0 < sz := by rcases Nat.eq_zero_or_pos sz with h | h; rw [h] at hlt; omega; exact h
  have hj : q / sz < new.length := by rwa [Nat.div_lt_iff_lt_mul hpos]
  obtain ⟨h1, h2⟩ := s.each (q / sz) _ (List.getElem?_eq_getElem hj)
  have hi : q % sz < (new[q / sz]).length := by rw [h1]; exact Nat.mod_lt _ hpos
  obtain ⟨y, y1, y2, _⟩ := h2 (q % sz) _ (List.getElem?_eq_getElem hi)
  rw [show q / sz * sz + q % sz = q by rw [Nat.mul_comm]; exact Nat.div_add_mod q sz, hq] at y1
  cases y1; exact y2
theorem src_nil {sz ln cap : Nat} (hl : ln = 0) (base : Option Addr) : SrcOk P ρ w sz (.slice base ln cap) [] [] := by
  subst hl
  refine ⟨fun w' => rfl, by simp, fun j ls h => by simp at h, fun w' _ => ?_⟩
  cases base with
  | none => rfl
  | some a => simp [Builtin.firstCells, loadCells, loadCellsFrom]
theorem src_slice (r : Rel ρ h w) {b : Pos} {e ln cap : Nat} {ex : Bool} {sz : Nat} {X : Value} (hx : RV ρ (.slice b e ln cap ex sz) X) {new : List (List AV)} (hs : rdChunks (datOf (h.obj b)) ln e = some new) :
    ∃ news, SrcOk P ρ w sz X new news := by
  obtain ⟨hlen, hch⟩ := rdChunks_inv hs
  cases hx with
  | slice _ _ _ _ _ _ l hb hsz kb off cap' h1 h2 h3 h4 h5 h6 =>
  rcases Nat.eq_zero_or_pos ln with h0 | h0
  · have : new = [] := List.length_eq_zero_iff.1 (hlen.trans h0)
    subst this
    exact ⟨[], src_nil h0 _⟩
  · obtain ⟨rfl, rfl⟩ := h4 (by omega)
    have hlast : new[ln - 1]? = some new[ln - 1] := List.getElem?_eq_getElem (by omega)
    have hl := hch _ _ hlast
    cases ho : h.obj b with
    | none => rw [ho] at hl; change (PM.e : PM (List AV)).getN _ = _ at hl; rw [PM.getN_e] at hl; cases hl
    | some o =>
    rw [ho] at hl hch
    have ob := r.obj b _ ho l hb
    cases o with
    | dat sz' m t =>
      change t.getN (e + (ln - 1)) = _ at hl
      cases ob with
      | dat _ _ _ c el fr hw hsz' hlim hfr hin hnn hc =>
      subst hsz
      subst hsz'
      have hm := (hc _ _ hl).1
      have hup : (e + ln) * l.sz ≤ m * l.sz := Nat.mul_le_mul_right _ (by omega)
      rw [Nat.add_mul] at hup
      have hcs : l.sh + e * l.sz + ln * l.sz ≤ c.size := by omega
      have hnl : ((c.extract (l.sh + e * l.sz) (l.sh + e * l.sz + ln * l.sz)).toList).length = ln * l.sz := by simp; omega
      have get : ∀ q, q < ln * l.sz → ((c.extract (l.sh + e * l.sz) (l.sh + e * l.sz + ln * l.sz)).toList)[q]? = c[l.sh + e * l.sz + q]? := by
        intro q hq
        rw [Array.getElem?_toList, Array.getElem?_extract, if_pos (by omega)]
      refine ⟨(c.extract (l.sh + e * l.sz) (l.sh + e * l.sz + ln * l.sz)).toList, fun w' => by rw [hlen]; rfl, by rw [hnl, hlen], fun j ls hj => ?_, fun w' hh => ?_⟩
      · have hj' : j < ln := by rw [← hlen]; exact (List.getElem?_eq_some_iff.1 hj).1
        obtain ⟨g1, g2, g3⟩ := hc _ _ (hch j ls hj)
        refine ⟨g2, fun i a ha => ?_⟩
        obtain ⟨y, y1, y2, y3⟩ := g3 i a ha
        have hi : i < l.sz := by rw [← g2]; exact (List.getElem?_eq_some_iff.1 ha).1
        have hlt : j * l.sz + i < ln * l.sz := by
          have : (j + 1) * l.sz ≤ ln * l.sz := Nat.mul_le_mul_right _ hj'
          rw [Nat.add_mul, Nat.one_mul] at this; omega
        refine ⟨y, ?_, y2, y3⟩
        rw [get _ hlt, ← y1, Nat.add_mul]; congr 1; omega
      · rw [hlen]
        refine run_firstCells_some w' l.sz ln _ ln cap' _ hnl fun j v hv => ?_
        have hj : j < ln * l.sz := by rw [← hnl]; exact (List.getElem?_eq_some_iff.1 hv).1
        rw [get j hj] at hv
        have hw' : w'.heap[l.cb]? = some (.cells c el fr) := by rw [hh]; exact hw
        have := cell_of hw' hv
        rw [addr_add, ← Nat.add_assoc]; exact this
    | _ => change (PM.e : PM (List AV)).getN _ = _ at hl; rw [PM.getN_e] at hl; cases hl
theorem strChunks_get : ∀ (n s j : Nat) (ls : List AV), (strChunks n s)[j]? = some ls → j < n ∧ ls = [.byte (sIdx s j)]
  | 0, s, j, ls, h => by simp [strChunks] at h
  | n + 1, s, 0, ls, h => by
    simp only [strChunks, List.getElem?_cons_zero, Option.some.injEq] at h
    refine ⟨by omega, ?_⟩
    rw [← h, sIdx_eq]; simp
  | n + 1, s, j + 1, ls, h => by
    simp only [strChunks, List.getElem?_cons_succ] at h
    obtain ⟨h1, h2⟩ := strChunks_get n (s / 256) j ls h
    refine ⟨by omega, ?_⟩
    rw [h2, sIdx_eq, sIdx_eq, Nat.div_div_eq_div_mul, Nat.pow_succ, Nat.mul_comm 256]
theorem strChunks_len : ∀ (n s : Nat), (strChunks n s).length = n
  | 0, _ => rfl
  | n + 1, s => by simp [strChunks, strChunks_len n]
theorem src_str {n ln : Nat} {X : Value} (hx : RV ρ (.str n ln) X) : ∃ news, SrcOk P ρ w 1 X (strChunks ln n) news := by
  cases hx with
  | str _ _ a1 a2 s hs =>
  have hsz : s.size = ln := by show s.data.size = ln; rw [← Array.length_toList, hs, strB_length]
  refine ⟨(s.data.map fun b => Value.int .u8 b.toNat).toList, fun w' => ?_, ?_, fun j ls hj => ?_, fun w' _ => ?_⟩
  · rw [strChunks_len, ← hsz]; rfl
  · rw [strChunks_len, ← hsz, Array.length_toList, Array.size_map, Nat.mul_one]; rfl
  · obtain ⟨h1, rfl⟩ := strChunks_get _ _ _ _ hj
    refine ⟨rfl, fun i a ha => ?_⟩
    cases i with
    | zero =>
      cases ha
      refine ⟨.int .u8 (sIdx n j : Nat), ?_, rfl, .byte _ (sIdx_lt _ _)⟩
      rw [Nat.mul_one, Nat.add_zero, Array.toList_map, List.getElem?_map, hs, strB_get _ _ _ h1]
      have hlt := sIdx_lt n j
      simp [UInt8.toNat_ofNat', Nat.mod_eq_of_lt hlt]
    | succ i => simp at ha
  · rw [strChunks_len]
    have e1 : s.extract 0 ln = s := by rw [← hsz]; exact ByteArray.extract_zero_size
    simp only [Builtin.firstCells, e1, Sem.run_pure]
theorem src_ok (r : Rel ρ h w) {sz : Nat} {x : AV} {X : Value} (hx : RV ρ x X) {new : List (List AV)} (hs : srcChunks sz x h = some new) : ∃ news, SrcOk P ρ w sz X new news := by
  unfold srcChunks at hs
  split at hs
  · cases hs; cases hx; exact ⟨[], src_nil rfl _⟩
  · rename_i b e ln cap ex z
    cases hz : Nat.beq z sz with
    | false => rw [hz] at hs; cases hs
    | true =>
      rw [hz] at hs
      have := beq_iff.1 hz
      subst this
      exact src_slice r hx hs
  · rename_i n ln
    cases hz : Nat.beq 1 sz with
    | false => rw [hz] at hs; cases hs
    | true =>
      rw [hz] at hs
      have := beq_iff.1 hz
      subst this
      cases hs
      exact src_str hx
  · cases hs
end
end Go.Ev
namespace Go.Ev
set_option autoImplicit false
variable [Rounds]
open Go

section
variable {P : Program} {ρ : Emb} {h : AH} {w : World} {k : K} {vars stk : List AV}
theorem stp_del (r : Rel ρ h w) {b : Pos} {l : Loc} (hb : ρ b = some l) : Stp ρ h w ρ (h.del b) w := by
  refine ⟨fun _ _ e => e, r.del b, by rw [AH.nx_del]; exact Nat.le_refl _, rfl, rfl, rfl, Nat.le_refl _, fun _ _ _ => rfl, fun p l' hp hl' => ?_, fun p hp e => ?_, Nat.le_refl _⟩
  · rw [AH.obj_del] at hp
    by_cases e : p = b
    · rw [if_pos e] at hp; exact absurd rfl hp
    · rw [if_neg e] at hp; exact .inr ⟨p, l', hp, hl', rfl⟩
  · refine ⟨e, ?_⟩
    rw [AH.obj_del, if_neg]
    rintro rfl; rw [hb] at e; cases e
/-- a block goes on under another name -/
theorem stp_move (r : Rel ρ h w) {b : Pos} {o : Obj} {l : Loc} (hp : h.obj b = some o) (hl : ρ b = some l) (l' : Loc) (hc : l'.cb = l.cb) (o' : Obj) {w' : World} {co : Go.Obj} (a : OnlyAt w w' l.cb co)
    (ho : ObjRel (ρ.set h.nx l') w' l' o') : Stp ρ h w (ρ.set h.nx l') ((h.del b).new o') w' := by
  have hn := r.nx_none
  have hle := Emb.le_set l' hn
  have obj : ∀ p, ((h.del b).new o').obj p = if p = h.nx then some o' else if p = b then none else h.obj p := by
    intro p
    rw [AH.obj_new, AH.nx_del, AH.obj_del]
  have old : ∀ {p}, p ≠ h.nx → ((h.del b).new o').obj p ≠ none → p ≠ b ∧ h.obj p ≠ none := by
    intro p e hq
    rw [obj, if_neg e] at hq
    by_cases e2 : p = b
    · rw [if_pos e2] at hq; exact absurd rfl hq
    · rw [if_neg e2] at hq; exact ⟨e2, hq⟩
  have ρ' : ∀ {p m}, p ≠ h.nx → (ρ.set h.nx l') p = some m → ρ p = some m := fun e hm => by simpa [Emb.set, e] using hm
  have away : ∀ {p m}, p ≠ b → h.obj p ≠ none → ρ p = some m → m.cb ≠ l.cb := fun e hq hm e' => e (r.inj _ b _ l hq (by simp [hp]) hm hl e')
  refine ⟨hle, ⟨?_, ?_, ?_, ?_⟩, ?_, a.os, a.tape, a.output, Nat.le_of_eq a.size.symm, ?_, ?_, ?_, a.dr⟩
  · intro p o2 hq m hm
    by_cases e : p = h.nx
    · subst e
      rw [obj, if_pos rfl] at hq
      rw [Emb.set_same] at hm
      cases hq; cases hm; exact ho
    · obtain ⟨e2, hq2⟩ := old e (by simp [hq])
      rw [obj, if_neg e, if_neg e2] at hq
      have hm := ρ' e hm
      exact ((r.obj p o2 hq m hm).world (a.rest _ (away e2 hq2 hm))).mono hle
  · intro p q m n hp' hq' hm hn' e
    by_cases ep : p = h.nx
    · by_cases eq : q = h.nx
      · exact ep.trans eq.symm
      · exfalso
        obtain ⟨e2, hq2⟩ := old eq hq'
        have hn2 := ρ' eq hn'
        have : m = l' := by rw [ep, Emb.set_same] at hm; exact (Option.some.inj hm).symm
        subst this
        exact away e2 hq2 hn2 (e.symm.trans hc)
    · obtain ⟨e1, hp2⟩ := old ep hp'
      have hm2 := ρ' ep hm
      by_cases eq : q = h.nx
      · exfalso
        have : n = l' := by rw [eq, Emb.set_same] at hn'; exact (Option.some.inj hn').symm
        subst this
        exact away e1 hp2 hm2 (e.trans hc)
      · obtain ⟨e2, hq2⟩ := old eq hq'
        exact r.inj p q m n hp2 hq2 hm2 (ρ' eq hn') e
  · intro p m hm
    rw [AH.nx_new, AH.nx_del, Pos.num_succ]
    by_cases e : p = h.nx
    · subst e; omega
    · have := r.fresh1 p m (ρ' e hm); omega
  · intro p hq
    rw [AH.nx_new, AH.nx_del, Pos.num_succ]
    by_cases e : p = h.nx
    · subst e; omega
    · have := r.fresh2 p (old e hq).2; omega
  · rw [AH.nx_new, AH.nx_del, Pos.num_succ]; omega
  · intro k hk hn'
    exact a.rest k fun e => hn' b l (by simp [hp]) hl e.symm
  · intro p m hq hm
    right
    by_cases e : p = h.nx
    · have : m = l' := by rw [e, Emb.set_same] at hm; exact (Option.some.inj hm).symm
      subst this
      exact ⟨b, l, by simp [hp], hl, hc.symm⟩
    · exact ⟨p, m, (old e hq).2, ρ' e hm, rfl⟩
  · intro p hlt e
    have ne : p ≠ h.nx := fun e => by subst e; omega
    have ne2 : p ≠ b := fun e' => by subst e'; rw [hl] at e; cases e
    exact ⟨by simp [Emb.set, ne, e], by rw [obj, if_neg ne, if_neg ne2]⟩

theorem onlyAt_cells {b : Nat} {c : Array Value} {el : TypeId} {fr : Nat × Nat} (hw : w.heap[b]? = some (.cells c el fr)) (o : Nat) (vs : List Value) : OnlyAt w (w.setCells b o vs) b (.cells (setL c o vs) el fr) :=
  ⟨(setCells_os _ _ _ _).1, (setCells_os _ _ _ _).2.1, (setCells_os _ _ _ _).2.2, setCells_size _ _ _ _, fun k hk => setCells_other _ _ _ _ _ hk, setCells_heap _ _ _ _ _ _ _ hw, Nat.le_of_eq (setCells_drawn _ _ _ _).symm⟩
theorem run_storeRow {b : Nat} {c : Array Value} {el : TypeId} (hw : w.heap[b]? = some (.cells c el (0, 0))) (o : Nat) (vs : List Value) (h1 : ∀ v ∈ vs, v.oneCell' = true) (hb : o + vs.length ≤ c.size) :
    (storeCells ⟨b, o, none⟩ vs).run P w = .ok () (w.setCells b o vs) := by
  have := run_storeCells_cells (P := P) b o vs 0 w (fun j hj => ?_) (fun j hj => ?_) h1
  · simpa using this
  · have : ∃ u, c[o + j]? = some u := ⟨_, Array.getElem?_eq_getElem (by omega)⟩
    obtain ⟨u, hu⟩ := this
    rw [cell_of hw (by simpa using hu)]; rfl
  · simp [World.frozen?, hw]

/-- what is common to all appends -/
structure AppT (P : Program) (t u e : TypeId) (i : TypeInfo) (Z : Value) : Prop where
  ht : P.underlying t = some (.slice e)
  hu : noIntT (P.underlying u) = true
  hi : P.info? e = some i
  hz : i.zero = some Z
  hb : i.bytes ≤ 1000000
  hs : Z.cells.size = i.size

theorem app_in {t u e ty : TypeId} {i : TypeInfo} {Z : Value} (A : AppT P t u e i Z) {base : Option Addr} {sLen sCap : Nat} {X : Value} {new : List (List AV)} {news : List Value} (s : SrcOk P ρ w i.size X new news) (hc : sLen + new.length ≤ sCap)
    {w' : World} (hst : (match base with | some a => storeCells (a.add (sLen * i.size)) news | none => pure () : Sem Unit).run P w = .ok () w') :
    (Builtin.append_ #[t, u] ty #[.slice base sLen sCap, X]).run P w = .ok (.slice base (sLen + new.length) sCap) w' := by
  have hu := A.hu
  cases hu' : P.underlying u with
  | none => rw [hu'] at hu; cases hu
  | some d =>
    rw [hu'] at hu
    cases base with
    | none =>
      have e := hst
      simp at e
      subst e
      cases d <;> first | (cases hu; done) | simp [Builtin.append_, run_underlying A.ht, run_underlying hu', sizeOf, typeInfo, A.hi, s.len, hc, s.run w rfl]
    | some a =>
      have e := hst
      simp at e
      cases d <;> first | (cases hu; done) | simp [Builtin.append_, run_underlying A.ht, run_underlying hu', sizeOf, typeInfo, A.hi, s.len, hc, s.run w rfl, e]
theorem app_grow {t u e ty : TypeId} {i : TypeInfo} {Z : Value} (A : AppT P t u e i Z) {base : Option Addr} {sLen sCap : Nat} {X : Value} {new : List (List AV)} {olds news : List Value} (s : SrcOk P ρ w i.size X new news) 
    (so : ∀ w', w'.heap = w.heap → (Builtin.firstCells i.size sLen (.slice base sLen sCap)).run P w' = .ok olds.toArray w') (hc : sCap < sLen + new.length) (hb : sLen + new.length ≤ 100000000) :
    ∃ n, sLen + new.length ≤ n ∧ (Builtin.append_ #[t, u] ty #[.slice base sLen sCap, X]).run P w = .ok (.slice (some ⟨w.heap.size, 0, none⟩) (sLen + new.length) n) (w.drew.alloc (.cells ((olds ++ news).toArray ++ Builtin.zeroCells Z.cells (n - (sLen + new.length))) e)) := by
  refine ⟨grownCap w (sLen + new.length) sCap e, by unfold grownCap; simp only [Question.cut]; omega, ?_⟩
  have hu := A.hu
  have hfit : Builtin.nextslicecap (sLen + new.length) sCap * i.bytes ≤ 281474976710656 := by
    refine growslice_fits hc ?_
    have := Nat.mul_le_mul hb A.hb
    omega
  cases hu' : P.underlying u with
  | none => rw [hu'] at hu; cases hu
  | some d =>
    rw [hu'] at hu
    have hn : ¬ (sLen + new.length ≤ sCap) := by omega
    have h63' : ¬ (9223372036854775807 < ((sLen : Int) + (new.length : Int))) := by omega
    have h48' : ¬ (281474976710656 < Builtin.nextslicecap (sLen + new.length) sCap * i.bytes) := by omega
    have hf := s.run w.drew rfl
    have hfo := so w.drew rfl
    cases d <;> first | (cases hu; done) | (simp [Builtin.append_, run_underlying A.ht, run_underlying hu', sizeOf, typeInfo, zeroValue, A.hi, A.hz, s.len, hn, h63', h48', Question.forced, hf, hfo, newRow, grownCap]; congr 2; apply Array.ext'; simp [List.append_assoc])
end
end Go.Ev
namespace Go.Ev
set_option autoImplicit false
variable [Rounds]
open Go

section
variable {P : Program} {ρ : Emb} {h : AH} {w : World} {k : K} {vars stk : List AV}
theorem zeroCells_size (z : Array Value) (n : Nat) : (Builtin.zeroCells z n).size = n * z.size := by simp [Builtin.zeroCells]
theorem stp_drew (r : Rel ρ h w) : Stp ρ h w ρ h w.drew := stp_same r _ rfl rfl rfl rfl (Nat.le_succ _)
theorem mul_lt_of {a b n : Nat} (h : a < n) (hb : b < 1 + 0) : True := trivial
theorem row_lt {e sz n i : Nat} (he : e < n) (hi : i < sz) : e * sz + i < n * sz := by
  have : (e + 1) * sz ≤ n * sz := Nat.mul_le_mul_right _ he
  rw [Nat.add_mul, Nat.one_mul] at this; omega
/-- a chunk in a plain row -/
def Good0 (ρ : Emb) (c : List Value) (sz e : Nat) (ls : List AV) : Prop := ls.length = sz ∧ ∀ (i : Nat) (a : AV), ls[i]? = some a → ∃ y, c[e * sz + i]? = some y ∧ y.oneCell' = true ∧ RV ρ a y
/-- a new row: the old chunks, the new ones, zeros -/
theorem grow_new (r : Rel ρ h w) {sz ln : Nat} {X : Value} {new : List (List AV)} {olds news : List Value} (s : SrcOk P ρ w sz X new news) (hol : olds.length = ln * sz) (el : TypeId) {n : Nat} (hn : ln + new.length ≤ n)
    (hb : ln + new.length ≤ 100000000) {z : Array Value} (hz : z.size = sz) (t : PM (List AV)) (ht : ∀ e ls, t.getN e = some ls → (e < ln ∧ Good0 ρ olds sz e ls) ∨ (ln ≤ e ∧ new[e - ln]? = some ls)) :
    ∃ ρ' w', w' = w.drew.alloc (.cells ((olds ++ news).toArray ++ Builtin.zeroCells z (n - (ln + new.length))) el) ∧
      Stp ρ h w ρ' (h.new (.dat sz (ln + new.length) t)) w' ∧
      RV ρ' (.slice h.nx 0 (ln + new.length) (ln + new.length) false sz) (.slice (some ⟨w.heap.size, 0, none⟩) (ln + new.length) n) := by
  have hnl := s.size
  have hcs : ((olds ++ news).toArray ++ Builtin.zeroCells z (n - (ln + new.length))).size = n * sz := by
    rw [Array.size_append, zeroCells_size, hz]
    simp only [List.size_toArray, List.length_append, hol, hnl]
    rw [← Nat.add_mul, ← Nat.add_mul]; congr 1; omega
  have hle : (ln + new.length) * sz ≤ n * sz := Nat.mul_le_mul_right _ hn
  have st0 := stp_drew r
  have get1 : ∀ q, q < olds.length → ((olds ++ news).toArray ++ Builtin.zeroCells z (n - (ln + new.length)))[q]? = olds[q]? := by
    intro q hq
    rw [Array.getElem?_append_left (by simp; omega)]
    simp only [List.getElem?_toArray]
    rw [List.getElem?_append_left hq]
  have get2 : ∀ q, q < news.length → ((olds ++ news).toArray ++ Builtin.zeroCells z (n - (ln + new.length)))[olds.length + q]? = news[q]? := by
    intro q hq
    rw [Array.getElem?_append_left (by simp; omega)]
    simp only [List.getElem?_toArray]
    rw [List.getElem?_append_right (by omega)]; congr 1; omega
  have st := stp_row st0.rel ((olds ++ news).toArray ++ Builtin.zeroCells z (n - (ln + new.length))) el sz (ln + new.length) t (by rw [hcs]; exact hle) hb (by
    intro e ls he
    rcases ht e ls he with ⟨h2, l1, l2⟩ | ⟨h1, h2⟩
    · refine ⟨by omega, l1, fun i a ha => ?_⟩
      obtain ⟨y, y1, y2, y3⟩ := l2 i a ha
      have hi : i < sz := by rw [← l1]; exact (List.getElem?_eq_some_iff.1 ha).1
      exact ⟨y, by rw [get1 _ (by rw [hol]; exact row_lt h2 hi)]; exact y1, y2, y3⟩
    · obtain ⟨l1, l2⟩ := s.each _ ls h2
      have hlt : e - ln < new.length := (List.getElem?_eq_some_iff.1 h2).1
      refine ⟨by omega, l1, fun i a ha => ?_⟩
      obtain ⟨y, y1, y2, y3⟩ := l2 i a ha
      have hi : i < sz := by rw [← l1]; exact (List.getElem?_eq_some_iff.1 ha).1
      refine ⟨y, ?_, y2, y3⟩
      have e1 : e * sz + i = olds.length + ((e - ln) * sz + i) := by
        rw [hol, ← Nat.add_assoc, ← Nat.add_mul]; congr 2; omega
      rw [e1, get2 _ (by rw [hnl]; exact row_lt hlt hi)]; exact y1)
  refine ⟨_, _, rfl, st0.trans st, ?_⟩
  exact .slice h.nx 0 _ _ false sz ⟨w.heap.size, 0, sz, _, #[], []⟩ (Emb.set_same _ _ _) rfl w.heap.size 0 n (Nat.le_refl _) hn (fun e => by cases e) (fun _ => ⟨rfl, by simp⟩) (by show 0 + 0 * sz + n * sz ≤ _; rw [hcs]; simp) (by unfold big; omega)

theorem put_nil (t : PM (List AV)) (i : Nat) : putChunks [] i t = t := rfl
theorem appNil_inv {sz : Nat} {new : List (List AV)} (hn : NF (appNil sz new k vars stk h)) : new = [] ∧ appNil sz new k vars stk h = k .nilslice vars stk h ∨
    0 < new.length ∧ new.length ≤ 100000000 ∧ appNil sz new k vars stk h = k (.slice h.nx 0 (len new) (len new) false sz) vars stk (h.new (.dat sz (len new) (putChunks new 0 .e))) := by
  cases new with
  | nil => exact .inl ⟨rfl, rfl⟩
  | cons a r =>
    right
    change NF (ifR (Nat.ble (len (a :: r)) 100000000) _) at hn
    obtain ⟨h1, h2⟩ := ifR_inv hn
    have := ble_iff.1 h1
    rw [len_eq] at this
    exact ⟨by simp, this, h2⟩

theorem append_ok (r : Rel ρ h w) {t u e ty : TypeId} {i : TypeInfo} {Z : Value} (A : AppT P t u e i Z) {s x : G} {S X : Value} (hs : RV ρ (s.ev vars stk) S) (hx : RV ρ (x.ev vars stk) X) (hn : NF (appendC i.size s x k vars stk h)) :
    OpOk ρ h w k vars stk (appendC i.size s x k vars stk h) ((Builtin.append_ #[t, u] ty #[S, X]).run P w) := by
  unfold appendC at hn ⊢
  obtain ⟨new, hnew, he⟩ := optR_inv hn
  rw [he] at hn ⊢
  obtain ⟨news, src⟩ := src_ok (P := P) r hx hnew
  unfold append1 at hn ⊢
  rcases onSlice_inv hn with hv | ⟨b, e0, ln, cap, ex, sz₂, hv⟩ <;> rw [hv] at hs hn ⊢
  · cases hs
    change NF (appNil i.size new k vars stk h) at hn
    change OpOk ρ h w k vars stk (appNil i.size new k vars stk h) _
    rcases appNil_inv hn with ⟨rfl, e1⟩ | ⟨h0, hb, e1⟩
    · rw [e1]
      refine OpOk.same r (v := .nilslice) (y := .slice none 0 0) rfl .nilslice ?_
      exact app_in (base := none) (sLen := 0) (sCap := 0) A src (Nat.le_refl _) rfl
    · rw [e1, len_eq]
      obtain ⟨n, n1, n2⟩ := app_grow (ty := ty) (base := none) (sLen := 0) (sCap := 0) (olds := []) A src (fun w' _ => rfl) (by omega) (by omega)
      obtain ⟨ρ', w', w1, w2, w3⟩ := grow_new (ln := 0) (olds := []) r src (by simp) e (n := n) n1 (by omega) A.hs (putChunks new 0 .e)
        (put_good (by omega) (fun e ls h1 _ => by rw [PM.getN_e] at h1; cases h1) (fun j ls h1 => .inr ⟨by omega, by simpa using h1⟩))
      simp only [Nat.zero_add] at w1 w2 w3 n2
      exact ⟨_, _, ρ', w', _, rfl, w2, w3, by rw [n2, w1]⟩
  · change NF (ifR (Nat.beq sz₂ i.size) (onDat (appSl1 i.size b e0 ln cap ex new k vars stk h) (h.obj b))) at hn
    change OpOk ρ h w k vars stk (ifR (Nat.beq sz₂ i.size) (onDat (appSl1 i.size b e0 ln cap ex new k vars stk h) (h.obj b))) _
    obtain ⟨c1, e1⟩ := ifR_inv hn
    rw [e1] at hn ⊢
    have := beq_iff.1 c1
    subst this
    obtain ⟨sz', m, tc, ho, e2⟩ := onDat_inv hn
    rw [e2] at hn ⊢
    have hs0 := hs
    cases hs with
    | slice _ _ _ _ _ _ l hb hsz kb off cap' g1 g2 g3 g4 g5 g6 =>
    have ob := r.obj b _ ho l hb
    cases ob with
    | dat _ _ _ c el fr hw hsz' hlim hfr hin hnn hc =>
    subst hsz'
    subst hfr
    unfold appSl1 at hn ⊢
    rw [len_eq] at hn ⊢
    have upd : ∀ {i n : Nat} (base : Nat) {t : PM (List AV)}, i + new.length < 2 ^ 39 → i + new.length ≤ n → base + n * l.sz ≤ c.size → (∀ e ls, t.getN e = some ls → ¬ (i ≤ e ∧ e < i + new.length) → Good ρ c base l.sz n e ls) →
        ∀ e ls, (putChunks new i t).getN e = some ls → Good ρ (setL c (base + i * l.sz) news) base l.sz n e ls := by
      intro i n base t hb hin hcs hold
      have hnl := src.size
      rw [← hsz] at hnl
      refine put_good hb (fun e ls h1 h2 => ?_) (fun j ls h1 => ?_)
      · obtain ⟨a1, a2, a3⟩ := hold e ls h1 h2
        refine ⟨a1, a2, fun q a ha => ?_⟩
        obtain ⟨y, y1, y2⟩ := a3 q a ha
        have hq : q < l.sz := by rw [← a2]; exact (List.getElem?_eq_some_iff.1 ha).1
        refine ⟨y, ?_, y2⟩
        rw [setL_out _ _ _ _ ?_]; exact y1
        rcases Nat.lt_or_ge e i with h3 | h3
        · left; have := row_lt h3 hq; omega
        · right
          have : (i + new.length) * l.sz ≤ e * l.sz := Nat.mul_le_mul_right _ (by omega)
          rw [Nat.add_mul] at this; omega
      · obtain ⟨a2, a3⟩ := src.each j ls h1
        rw [← hsz] at a2
        have hj : j < new.length := (List.getElem?_eq_some_iff.1 h1).1
        refine ⟨by omega, a2, fun q a ha => ?_⟩
        obtain ⟨y, y1, y2⟩ := a3 q a ha
        refine ⟨y, ?_, y2⟩
        rw [← hsz] at y1
        have e3 : base + (i + j) * l.sz + q = base + i * l.sz + (j * l.sz + q) := by rw [Nat.add_mul]; omega
        rw [e3]
        refine setL_in _ _ _ _ _ ?_ y1
        have : (i + new.length) * l.sz ≤ n * l.sz := Nat.mul_le_mul_right _ hin
        rw [Nat.add_mul] at this
        omega
    have hnl := src.size
    have hcapb : cap' * l.sz + (l.sh + e0 * l.sz) ≤ c.size := by omega
    have inpl : ln + new.length ≤ cap' → (Builtin.append_ #[t, u] ty #[.slice (some ⟨kb, off, none⟩) ln cap', X]).run P w = .ok (.slice (some ⟨kb, off, none⟩) (ln + new.length) cap') (w.setCells l.cb (l.sh + e0 * l.sz + ln * l.sz) news) := by
      intro hle
      refine app_in A src hle ?_
      rcases Nat.eq_zero_or_pos new.length with h0 | h0
      · have : news = [] := List.length_eq_zero_iff.1 (by rw [hnl, h0, Nat.zero_mul])
        subst this; rfl
      · obtain ⟨rfl, rfl⟩ := g4 (by omega)
        show (storeCells (Addr.add ⟨l.cb, l.sh + e0 * l.sz, none⟩ (ln * i.size)) news).run P w = _
        rw [addr_add', ← hsz]
        refine run_storeRow hw _ _ src.one ?_
        rw [hnl, ← hsz]
        have : (ln + new.length) * l.sz ≤ cap' * l.sz := Nat.mul_le_mul_right _ hle
        rw [Nat.add_mul] at this; omega
    have oat := onlyAt_cells hw (l.sh + e0 * l.sz + ln * l.sz) news
    have olds : ∃ olds : List Value, olds.length = ln * i.size ∧ (∀ q, q < ln * i.size → olds[q]? = c[l.sh + e0 * l.sz + q]?) ∧ ∀ w', w'.heap = w.heap → (Builtin.firstCells i.size ln (.slice (some ⟨kb, off, none⟩) ln cap')).run P w' = .ok olds.toArray w' := by
      have hlc : ln * l.sz ≤ cap' * l.sz := Nat.mul_le_mul_right _ (by omega)
      have hl : ((c.extract (l.sh + e0 * l.sz) (l.sh + e0 * l.sz + ln * l.sz)).toList).length = ln * l.sz := by simp; omega
      have get : ∀ q, q < ln * l.sz → ((c.extract (l.sh + e0 * l.sz) (l.sh + e0 * l.sz + ln * l.sz)).toList)[q]? = c[l.sh + e0 * l.sz + q]? := by
        intro q hq
        rw [Array.getElem?_toList, Array.getElem?_extract, if_pos (by omega)]
      rw [← hsz]
      refine ⟨_, hl, get, fun w' hh => run_firstCells_some w' l.sz ln _ ln cap' _ hl fun j v hv => ?_⟩
      have hj : j < ln * l.sz := by rw [← hl]; exact (List.getElem?_eq_some_iff.1 hv).1
      have h0 : cap' ≠ 0 := by rintro rfl; simp at hlc; omega
      obtain ⟨rfl, rfl⟩ := g4 h0
      rw [get j hj] at hv
      have hw' : w'.heap[l.cb]? = some (.cells c el (0, 0)) := by rw [hh]; exact hw
      have := cell_of hw' hv
      rw [addr_add']; exact this
    obtain ⟨olds, o1, o2, o3⟩ := olds
    -- the copy, whatever the tree
    have copy : ∀ (h₁ : AH) (st : Stp ρ h w ρ h₁ w) (tt : PM (List AV)), cap' < ln + new.length → ln + new.length ≤ 100000000 → (∀ e ls, tt.getN e = some ls → ¬ (ln ≤ e ∧ e < ln + new.length) → e < ln ∧ Good ρ c (l.sh + e0 * l.sz) l.sz ln e ls) →
        OpOk ρ h w k vars stk (k (.slice h₁.nx 0 (ln + new.length) (ln + new.length) false i.size) vars stk (h₁.new (.dat i.size (ln + new.length) (putChunks new ln tt)))) ((Builtin.append_ #[t, u] ty #[.slice (some ⟨kb, off, none⟩) ln cap', X]).run P w) := by
      intro h₁ st tt hlt hb8 hold
      obtain ⟨n, n1, n2⟩ := app_grow (ty := ty) A src o3 hlt hb8
      obtain ⟨ρ', w', w1, w2, w3⟩ := grow_new st.rel src o1 e (n := n) n1 hb8 A.hs (putChunks new ln tt)
        (put_good (by omega) (fun e ls h1 h2 => by
          obtain ⟨q1, q2, q3, q4⟩ := hold e ls h1 h2
          refine .inl ⟨q1, by rw [← hsz]; exact q3, fun i' a ha => ?_⟩
          obtain ⟨y, y1, y2⟩ := q4 i' a ha
          have hi' : i' < l.sz := by rw [← q3]; exact (List.getElem?_eq_some_iff.1 ha).1
          refine ⟨y, ?_, y2⟩
          rw [o2 _ (by rw [← hsz]; exact row_lt q1 hi'), ← hsz, ← Nat.add_assoc]; exact y1) (fun j ls h1 => .inr ⟨by omega, by rw [Nat.add_sub_cancel_left]; exact h1⟩))
      exact ⟨_, _, ρ', w', _, rfl, st.trans w2, w3, by rw [n2, w1]⟩
    -- the move, whatever the tree
    have move : ∀ (tt : PM (List AV)), ex = false → cap < ln + new.length → ln + new.length ≤ 100000000 → (∀ e ls, tt.getN e = some ls → ¬ (ln ≤ e ∧ e < ln + new.length) → e < ln ∧ Good ρ c (l.sh + e0 * l.sz) l.sz ln e ls) →
        OpOk ρ h w k vars stk (k (.slice (h.del b).nx 0 (ln + new.length) (ln + new.length) false i.size) vars stk ((h.del b).new (.dat i.size (ln + new.length) (putChunks new ln tt)))) ((Builtin.append_ #[t, u] ty #[.slice (some ⟨kb, off, none⟩) ln cap', X]).run P w) := by
      intro tt hex hlt hb8 hold
      rcases Nat.lt_or_ge cap' (ln + new.length) with hc' | hc'
      · exact copy (h.del b) (stp_del r hb) tt hc' hb8 hold
      · rw [AH.nx_del]
        have hle := Emb.le_set (⟨l.cb, l.sh + e0 * l.sz, l.sz, l.lim, #[], []⟩ : Loc) r.nx_none
        have hnc : (ln + new.length) * l.sz ≤ cap' * l.sz := Nat.mul_le_mul_right _ hc'
        have st := stp_move r ho hb ⟨l.cb, l.sh + e0 * l.sz, l.sz, l.lim, #[], []⟩ rfl (.dat i.size (ln + new.length) (putChunks new ln tt)) oat
          (.dat _ _ _ _ el (0, 0) oat.at' hsz (by rw [setL_size]; exact hlim) rfl (by rw [← hsz]; show l.sh + e0 * l.sz + _ ≤ l.lim; omega) hb8 (by
            intro e ls he
            rw [← hsz]
            obtain ⟨q1, q2, q3⟩ := upd (n := ln + new.length) (l.sh + e0 * l.sz) (by omega) (Nat.le_refl _) (by omega) (fun e ls h1 h2 => by obtain ⟨p1, p2, p3⟩ := hold e ls h1 h2; exact ⟨by omega, p3⟩) e ls he
            exact ⟨q1, q2, fun i' a ha => let ⟨y, y1, y2, y3⟩ := q3 i' a ha; ⟨y, y1, y2, y3.mono hle⟩⟩))
        refine ⟨_, _, _, _, _, rfl, st, ?_, inpl hc'⟩
        exact .slice h.nx 0 _ _ false i.size ⟨l.cb, l.sh + e0 * l.sz, l.sz, l.lim, #[], []⟩ (Emb.set_same _ _ _) hsz kb off cap' (Nat.le_refl _) hc' (fun e => by cases e) (fun e => by obtain ⟨a1, a2⟩ := g4 e; exact ⟨a1, by simpa using a2⟩)
          (by show l.sh + e0 * l.sz + 0 * l.sz + cap' * l.sz ≤ l.lim; omega) (by unfold big; omega)
    cases hb1 : Nat.ble (Nat.add ln new.length) cap with
    | true =>
      rw [hb1] at hn
      change NF (ifR (Nat.ble (Nat.add (Nat.add e0 ln) new.length) m) _) at hn
      obtain ⟨c2, e3⟩ := ifR_inv hn
      have hcap : ln + new.length ≤ cap := ble_iff.1 hb1
      have hm : e0 + ln + new.length ≤ m := ble_iff.1 c2
      show OpOk ρ h w k vars stk (ifR (Nat.ble (Nat.add (Nat.add e0 ln) new.length) m) _) _
      rw [e3]
      refine ⟨_, _, ρ, _, _, rfl, oat.stp r ho hb (.dat l.sz m (putChunks new (Nat.add e0 ln) tc)) ?_, ?_, inpl (by omega)⟩
      · refine .dat _ _ _ _ el (0, 0) oat.at' rfl (by rw [setL_size]; exact hlim) rfl hin hnn ?_
        intro e ls he
        have := upd (i := e0 + ln) (n := m) l.sh (by omega) hm (by omega) (fun e ls h1 _ => hc e ls h1) e ls he
        rw [Nat.add_mul, ← Nat.add_assoc] at this; exact this
      · exact .slice b e0 _ cap ex i.size l hb hsz kb off cap' hcap g2 g3 g4 g5 (by show ln + new.length ≤ _; unfold big; omega)
    | false =>
      rw [hb1] at hn
      have hcap : cap < ln + new.length := by
        rcases Nat.lt_or_ge cap (ln + new.length) with h | h
        · exact h
        · exact absurd (ble_iff.2 h) (by rw [show Nat.ble (ln + new.length) cap = false from hb1]; simp)
      change NF (appSl2 i.size (ln + new.length) m b e0 ln ex new k vars stk h tc) at hn
      change OpOk ρ h w k vars stk (appSl2 i.size (ln + new.length) m b e0 ln ex new k vars stk h tc) _
      unfold appSl2 at hn ⊢
      have cp : ∀ {h₁ : AH} (st : Stp ρ h w ρ h₁ w) (go : ∀ (tt : PM (List AV)), ln + new.length ≤ 100000000 → (∀ e ls, tt.getN e = some ls → ¬ (ln ≤ e ∧ e < ln + new.length) → e < ln ∧ Good ρ c (l.sh + e0 * l.sz) l.sz ln e ls) →
          OpOk ρ h w k vars stk (k (.slice h₁.nx 0 (ln + new.length) (ln + new.length) false i.size) vars stk (h₁.new (.dat i.size (ln + new.length) (putChunks new ln tt)))) ((Builtin.append_ #[t, u] ty #[.slice (some ⟨kb, off, none⟩) ln cap', X]).run P w)),
          NF (optR (appCopy i.size (ln + new.length) ln new k vars stk h₁) (rdChunks tc ln e0)) → OpOk ρ h w k vars stk (optR (appCopy i.size (ln + new.length) ln new k vars stk h₁) (rdChunks tc ln e0)) ((Builtin.append_ #[t, u] ty #[.slice (some ⟨kb, off, none⟩) ln cap', X]).run P w) := by
        intro h₁ st go hn
        obtain ⟨old, hold, e3⟩ := optR_inv hn
        rw [e3] at hn ⊢
        unfold appCopy at hn ⊢
        obtain ⟨c2, e4⟩ := ifR_inv hn
        rw [e4]
        have h8 := ble_iff.1 c2
        obtain ⟨q1, q2⟩ := rdChunks_inv hold
        refine go _ h8 fun e ls he hne => ?_
        rw [getN_putChunks old 0 .e e (by omega)] at he
        split at he
        · rename_i hc2
          have := hc _ _ (q2 (e - 0) ls he)
          refine ⟨by omega, by omega, this.2.1, fun i' a ha => ?_⟩
          obtain ⟨y, y1, y2⟩ := this.2.2 i' a ha
          refine ⟨y, ?_, y2⟩
          rw [← y1, Nat.sub_zero, Nat.add_mul]; congr 1; omega
        · rw [PM.getN_e] at he; cases he
      cases ex with
      | true =>
        have := g3 rfl
        exact cp (Stp.refl r) (fun tt h8 ho => copy h (Stp.refl r) tt (by omega) h8 ho) hn
      | false =>
        cases he0 : Nat.beq e0 0 with
        | false => rw [he0] at hn; exact cp (stp_del r hb) (fun tt h8 ho => move tt rfl hcap h8 ho) hn
        | true =>
          rw [he0] at hn
          have hz := beq_iff.1 he0
          subst hz
          change NF (ifR (and (Nat.ble m (ln + new.length)) (Nat.ble (ln + new.length) 100000000)) _) at hn
          obtain ⟨c2, e3⟩ := ifR_inv hn
          show OpOk ρ h w k vars stk (ifR (and (Nat.ble m (ln + new.length)) (Nat.ble (ln + new.length) 100000000)) _) _
          rw [e3]
          have c3 := Bool.and_eq_true_iff.1 c2
          have hm := ble_iff.1 c3.1
          have h8 := ble_iff.1 c3.2
          have := move tc rfl hcap h8 (fun e ls he hne => by
            obtain ⟨p1, p2, p3⟩ := hc e ls he
            have : e < ln := by omega
            exact ⟨this, this, p2, by simpa using p3⟩)
          rw [AH.nx_del] at this
          exact this
end
end Go.Ev
namespace Go.Ev
set_option autoImplicit false
variable [Rounds]
open Go

section
variable {P : Program} {ρ : Emb} {h : AH} {w : World} {k : K} {vars stk : List AV}
theorem strStr_ok (r : Rel ρ h w) {x : G} {X : Value} (hx : RV ρ (x.ev vars stk) X) {s d : TypeId} (hs : P.underlying s = some .string) (hd : P.underlying d = some .string) (hn : NF (strStrC x k vars stk h)) :
    OpOk ρ h w k vars stk (strStrC x k vars stk h) ((convert s d X).run P w) := by
  unfold strStrC at hn ⊢
  obtain ⟨n, ln, hv⟩ := onStr_inv hn
  rw [hv] at hx ⊢
  refine OpOk.same r (v := .str n ln) (y := X) rfl hx ?_
  cases hx
  simp [convert, run_underlying hs, run_underlying hd]
def nB : List Nat → Nat
  | [] => 0
  | c :: l => c + 256 * nB l
theorem nB_str : ∀ (xs : List Nat), (∀ x ∈ xs, x < 256) → nB xs = strNat (xs.map UInt8.ofNat)
  | [], _ => rfl
  | c :: l, hx => by
    have h1 := hx c List.mem_cons_self
    rw [nB, nB_str l fun x h => hx x (List.mem_cons_of_mem _ h)]
    simp [strNat, UInt8.toNat_ofNat', Nat.mod_eq_of_lt h1]
/-- bytes that are read one by one -/
theorem rdBytes_inv {b : Pos} : ∀ {n e r : Nat}, rdBytes b h n e = some r → ∃ xs : List Nat, xs.length = n ∧ r = nB xs ∧ ∀ j x, xs[j]? = some x → rd b (e + j) h = some [.byte x]
  | 0, e, r, hr => by cases hr; exact ⟨[], rfl, rfl, by simp⟩
  | n + 1, e, r, hr => by
    unfold rdBytes at hr
    split at hr
    · rename_i c hc
      cases h2 : rdBytes b h n (e + 1) with
      | none => rw [h2] at hr; cases hr
      | some q =>
        rw [h2] at hr
        obtain ⟨xs, x1, x2, x3⟩ := rdBytes_inv h2
        simp only [Option.map_some, Option.some.injEq] at hr
        refine ⟨c :: xs, by simp [x1], by rw [← hr, x2]; rfl, fun j x hj => ?_⟩
        cases j with
        | zero => cases hj; exact hc
        | succ j => rw [show e + (j + 1) = e + 1 + j by omega]; exact x3 j x hj
    · cases hr
theorem bytes_rel (xs : List Nat) (hx : ∀ x ∈ xs, x < 256) (hl : xs.length ≤ big) : RV ρ (.str (nB xs) xs.length) (.string (strOfNums (xs.map Int.ofNat))) := by
  have e1 : (strOfNums (xs.map Int.ofNat)).data.toList = xs.map UInt8.ofNat := by
    rw [strOfNums_data, List.map_map]; rfl
  rw [nB_str xs hx]
  refine .str _ _ ?_ hl _ ?_
  · have := strNat_lt (xs.map UInt8.ofNat); simpa using this
  · rw [e1]
    have := strB_strNat (xs.map UInt8.ofNat)
    rw [List.length_map] at this
    exact this.symm
theorem bytesStr_ok (r : Rel ρ h w) {x : G} {X : Value} (hx : RV ρ (x.ev vars stk) X) {s d e : TypeId} (hs : P.underlying s = some (.slice e)) (he : P.underlying e = some (.int .u8)) (hd : P.underlying d = some .string) (hn : NF (bytesStrC x k vars stk h)) :
    OpOk ρ h w k vars stk (bytesStrC x k vars stk h) ((convert s d X).run P w) := by
  unfold bytesStrC at hn ⊢
  split at hn
  · rename_i hv
    rw [hv] at hx
    cases hx
    exact OpOk.same r (v := .str 0 0) rfl (bytes_rel [] (by simp) (by simp)) (run_convert_bytes_nil w s e hs he _ _ d hd)
  · rename_i b e0 ln cap ex z hv
    rw [hv] at hx
    cases hx with
    | slice _ _ _ _ _ _ l hb hsz kb off cap' g1 g2 g3 g4 g5 g6 =>
    cases hr : rdBytes b h ln e0 with
    | none => rw [hr] at hn; exact absurd rfl (hn _)
    | some n =>
    obtain ⟨xs, x1, rfl, x3⟩ := rdBytes_inv hr
    have cells : ∀ (j x : Nat), xs[j]? = some x → x < 256 ∧ w.cell? ⟨kb, off + j, none⟩ = some (.int .u8 x) := by
      intro j x hj
      have hlt : j < ln := by rw [← x1]; exact (List.getElem?_eq_some_iff.1 hj).1
      obtain ⟨rfl, rfl⟩ := g4 (by omega)
      obtain ⟨sz, m, t, ho, hg⟩ := rd_inv (x3 j x hj)
      have ob := r.obj b _ ho l hb
      cases ob with
      | dat _ _ _ c el fr hw hsz' hlim hfr hin hnn hc =>
      obtain ⟨_, c2, c3⟩ := hc _ _ hg
      obtain ⟨y, y1, _, y3⟩ := c3 0 _ rfl
      have : l.sz = 1 := by rw [hsz', ← c2]; rfl
      rw [← hsz', this] at y1
      cases y3 with
      | byte _ hb8 =>
      refine ⟨hb8, ?_⟩
      have := cell_of hw y1
      rw [← this]; congr 2
      rw [‹l.sz = 1›]; omega
    subst x1
    refine OpOk.same r (v := .str (nB xs) xs.length) rfl (bytes_rel xs (fun x hm => ?_) g6) (run_convert_bytes_arg w s e hs he kb off xs.length cap' (xs.map Int.ofNat) (by simp) (fun i hi => ?_) d hd)
    · obtain ⟨j, hj⟩ := List.mem_iff_getElem?.1 hm
      exact (cells j x hj).1
    · rw [(cells i _ (List.getElem?_eq_getElem hi)).2]
      simp [List.getD, hi]
  · exact absurd rfl (hn _)
theorem clear_ok (r : Rel ρ h w) {x : G} {X : Value} (hx : RV ρ (x.ev vars stk) X) {t e ty : TypeId} (ht : P.underlying t = some (.slice e)) {z : AV} (hz : zeroA P e = some z) (hs : avOk (P.cellsOf e) z = true) (hn : NF (clearC (P.cellsOf e) (avCells z) x k vars stk h)) :
    OpOk ρ h w k vars stk (clearC (P.cellsOf e) (avCells z) x k vars stk h) ((Builtin.clear_ #[t] ty #[X]).run P w) := by
  obtain ⟨i, Z, hi, hZ, _, hzr⟩ := zero_cells (ρ := ρ) hz
  obtain ⟨hcl, hcr⟩ := avOk_cells hzr hs
  have hZs : Z.cells.size = P.cellsOf e := by rw [← hcr.1, hcl]
  unfold clearC at hn ⊢
  split at hn
  · rename_i hv
    rw [hv] at hx
    cases hx
    refine OpOk.same r (v := .tup []) (y := .tuple #[]) rfl (.tup [] #[] rfl (by simp)) ?_
    simp [Builtin.clear_, run_underlying ht]
  · rename_i b e0 ln cap ex z' hv
    rw [hv] at hx
    cases hx with
    | slice _ _ _ _ _ _ l hb hsz kb off cap' g1 g2 g3 g4 g5 g6 =>
    cases ho : h.obj b with
    | none => rw [ho] at hn; exact absurd rfl (hn _)
    | some o =>
    rw [ho] at hn
    cases o with
    | dat sz n t' =>
      simp only at hn ⊢
      obtain ⟨c1, e1⟩ := ifR_inv hn
      rw [e1]
      have c2 := Bool.and_eq_true_iff.1 c1
      have hz' := beq_iff.1 c2.1
      have hle : e0 + ln ≤ n := ble_iff.1 c2.2
      have ob := r.obj b _ ho l hb
      cases ob with
      | dat _ _ _ c el fr hw hsz' hlim hfr hin hnn hc =>
      subst hsz'
      subst hfr
      subst hz'
      rcases Nat.eq_zero_or_pos ln with h0 | h0
      · subst h0
        refine ⟨.tup [], _, ρ, w, .tuple #[], rfl, ?_, .tup [] #[] rfl (by simp), ?_⟩
        · exact stp_put r ho hb _ w rfl rfl rfl rfl (fun _ _ => rfl) (.dat _ _ _ c el (0, 0) hw rfl hlim rfl hin hnn hc)
        · simp [Builtin.clear_, run_underlying ht]
      · obtain ⟨rfl, rfl⟩ := g4 (by omega)
        have hsz2 : l.sz = P.cellsOf e := hsz
        have hnl : ((Builtin.zeroCells Z.cells ln).toList).length = ln * l.sz := by rw [Array.length_toList, zeroCells_size, hZs, hsz2]
        have hup : (e0 + ln) * l.sz ≤ n * l.sz := Nat.mul_le_mul_right _ hle
        rw [Nat.add_mul] at hup
        have hzg : ∀ q, q < ln * l.sz → (Builtin.zeroCells Z.cells ln).toList[q]? = Z.cells[q % l.sz]? := by
          intro q hq
          have hp : 0 < l.sz := by rcases Nat.eq_zero_or_pos l.sz with h | h; rw [h] at hq; omega; exact h
          have hm : q % l.sz < Z.cells.size := by rw [hZs, ← hsz2]; exact Nat.mod_lt _ hp
          simp only [Builtin.zeroCells, hZs, ← hsz2, Array.toList_map, Array.toList_range, List.getElem?_map, List.getElem?_range hq, Option.map_some]
          rw [Array.getElem?_eq_getElem hm, getElem!_pos Z.cells (q % l.sz) hm]
        have hone : ∀ v ∈ (Builtin.zeroCells Z.cells ln).toList, v.oneCell' = true := by
          intro v hv
          obtain ⟨q, hq⟩ := List.mem_iff_getElem?.1 hv
          have hlt : q < ln * l.sz := by rw [← hnl]; exact (List.getElem?_eq_some_iff.1 hq).1
          rw [hzg q hlt] at hq
          have hp : 0 < l.sz := by rcases Nat.eq_zero_or_pos l.sz with h | h; rw [h] at hlt; omega; exact h
          have hm : q % l.sz < (avCells z).length := by rw [hcl, ← hsz2]; exact Nat.mod_lt _ hp
          exact (hcr.2 _ _ v (List.getElem?_eq_getElem hm) hq).2
        have oat := onlyAt_cells hw (l.sh + e0 * l.sz) (Builtin.zeroCells Z.cells ln).toList
        refine ⟨.tup [], _, ρ, _, .tuple #[], rfl, oat.stp r ho hb _ (.dat _ _ _ _ el (0, 0) oat.at' rfl (by rw [setL_size]; exact hlim) rfl hin hnn ?_), .tup [] #[] rfl (by simp), ?_⟩
        · intro e1 ls he
          rw [getN_zero _ _ _ _ _ (by omega)] at he
          by_cases hc3 : e0 ≤ e1 ∧ e1 < e0 + ln
          · rw [if_pos hc3] at he
            cases he
            refine ⟨by omega, by rw [hcl, hsz2], fun i' a ha => ?_⟩
            have hi' : i' < l.sz := by rw [hsz2, ← hcl]; exact (List.getElem?_eq_some_iff.1 ha).1
            have hq : (e1 - e0) * l.sz + i' < ln * l.sz := row_lt (by omega) hi'
            have hzz : Z.cells[i']? = some (Z.cells[i']'(by rw [hZs, ← hsz2]; exact hi')) := Array.getElem?_eq_getElem _
            obtain ⟨r1, r2⟩ := hcr.2 i' a _ ha hzz
            refine ⟨_, ?_, r2, r1⟩
            have e5 : l.sh + e1 * l.sz + i' = l.sh + e0 * l.sz + ((e1 - e0) * l.sz + i') := by
              have : e1 * l.sz = e0 * l.sz + (e1 - e0) * l.sz := by rw [← Nat.add_mul]; congr 1; omega
              omega
            rw [e5]
            refine setL_in _ _ _ _ _ (by rw [hnl]; omega) ?_
            rw [hzg _ hq, ← hzz]; congr 1
            rw [Nat.mul_comm, Nat.mul_add_mod, Nat.mod_eq_of_lt hi']
          · rw [if_neg hc3] at he
            obtain ⟨d1, d2, d3⟩ := hc e1 ls he
            refine ⟨d1, d2, fun i' a ha => ?_⟩
            obtain ⟨y, y1, y2⟩ := d3 i' a ha
            have hi' : i' < l.sz := by rw [← d2]; exact (List.getElem?_eq_some_iff.1 ha).1
            refine ⟨y, ?_, y2⟩
            rw [setL_out _ _ _ _ ?_]; exact y1
            rw [hnl]
            rcases Nat.lt_or_ge e1 e0 with h3 | h3
            · left; have := row_lt h3 hi'; omega
            · right
              have : (e0 + ln) * l.sz ≤ e1 * l.sz := Nat.mul_le_mul_right _ (by omega)
              rw [Nat.add_mul] at this; omega
        · have hst := run_storeRow (P := P) hw (l.sh + e0 * l.sz) _ hone (by rw [hnl]; omega)
          have hne : ln ≠ 0 := by omega
          have := run_zero (P := P) (w := w) hi hZ
          cases ln with
          | zero => exact absurd rfl hne
          | succ ln => simp [Builtin.clear_, run_underlying ht, this, hst]
    | _ => exact absurd rfl (hn _)
  · exact absurd rfl (hn _)
theorem move_ok (r : Rel ρ h w) {x : G} {X : Value} (hx : RV ρ (x.ev vars stk) X) : OpOk ρ h w k vars stk (moveC x k vars stk h) (.ok X w) := OpOk.same r rfl hx rfl
end
end Go.Ev
namespace Go.Ev
set_option autoImplicit false
variable [Rounds]
open Go

/-- operations that neither call nor panic -/
def plainC : COp → Bool
  | .callS .. | .callV .. | .callM .. | .panic _ | .defer .. | .recover _ | .bad _ | .callY .. => false
  | _ => true
def NextOk (ρ : Emb) (h : AH) (w : World) (k : K) (vars stk : List AV) (r : R) (run : Result Next) : Prop :=
  ∃ v h' ρ' w' n, r = k v vars stk h' ∧ Stp ρ h w ρ' h' w' ∧ run = .ok n w' ∧ ((∃ y, n = .value y ∧ RV ρ' v y) ∨ (n = .skip ∧ v = .undef))

section
variable {P : Program} {ρ : Emb} {h : AH} {w : World} {k : K} {vars stk : List AV}
theorem next_v {r : R} {s : Sem Value} (a : OpOk ρ h w k vars stk r (s.run P w)) : NextOk ρ h w k vars stk r ((do pure (.value (← s)) : Sem Next).run P w) := by
  obtain ⟨v, h', ρ', w', y, h1, h2, h3, h4⟩ := a
  exact ⟨v, h', ρ', w', .value y, h1, h2, by simp only [Sem.run_bind, h4, Result.andThen_ok, Sem.run_pure], .inl ⟨y, rfl, h3⟩⟩
theorem next_u {r : R} {s : Sem Unit} (a : OpOkU ρ h w k vars stk r (s.run P w)) : NextOk ρ h w k vars stk r ((do s; pure .skip : Sem Next).run P w) := by
  obtain ⟨h', ρ', w', h1, h2, h4⟩ := a
  exact ⟨.undef, h', ρ', w', .skip, h1, h2, by simp only [Sem.run_bind, h4, Result.andThen_ok, Sem.run_pure], .inr ⟨rfl, rfl⟩⟩

/-- what the operands of an operation are -/
def EvOk (P : Program) (L : List Nat) (e : SEnv) (ρ : Emb) (vars stk : List AV) (ev : Operand → Value) (op : Op) : Prop := ∀ x ∈ op.operands, RV ρ ((res L e x).ev vars stk) (ev x)

theorem elemT_inv {t e : TypeId} (h : elemT P t = some e) : P.underlying t = some (.slice e) := by
  unfold elemT at h
  split at h
  · rename_i hu; cases h; exact hu
  · cases h
theorem builtin_ok (L : List Nat) (e : SEnv) (r : Rel ρ h w) {b : Builtin} {ts : Array TypeId} {args : List Operand} {ev : Operand → Value} (hev : ∀ x ∈ args, RV ρ ((res L e x).ev vars stk) (ev x)) {c : COp} (hc : cBuiltin P L b ts (args.map (res L e)) = c)
    (hp : plainC c = true) {rec : Rec} (hn : NF (runOp c rec k vars stk h)) (hsz : ts.size = args.length) (ty : TypeId) (cs : Array Bool) :
    NextOk ρ h w k vars stk (runOp c rec k vars stk h) ((builtin b ts ty cs (args.map ev).toArray).run P w) := by
  match args, hev, hsz with
  | [], _, _ => 
    cases b <;> simp only [List.map_nil, cBuiltin] at hc <;> (subst hc; cases hp)
  | [x], hev, hsz =>
    have hx := hev x (by simp)
    obtain ⟨t, rfl⟩ : ∃ t, ts = #[t] := by
      obtain ⟨l⟩ := ts
      match l, hsz with
      | [t], _ => exact ⟨t, rfl⟩
    cases b <;> simp only [List.map_cons, List.map_nil, cBuiltin] at hc <;> first | (subst hc; cases hp; done) | skip
    · split at hc <;> first | (subst hc; cases hp; done) | skip
      rename_i e' he'
      split at hc <;> first | (subst hc; cases hp; done) | skip
      rename_i z hz
      split at hc <;> first | (subst hc; cases hp; done) | skip
      rename_i hk
      subst hc
      exact next_v (clear_ok r hx (elemT_inv (by simpa using he')) hz hk hn)
    · have hd : ∀ d, (#[t] : Array TypeId)[0]?.bind P.underlying = some d → P.underlying t = some d := fun d h => by simpa using h
      split at hc <;> first | (subst hc; cases hp; done) | skip
      all_goals rename_i hu; subst hc
      · exact next_v (len_ok r hx rfl (hd _ hu) (lk := .str) rfl hn)
      · exact next_v (len_ok r hx rfl (hd _ hu) (lk := .slice) ⟨_, rfl⟩ hn)
      · exact next_v (len_ok r hx rfl (hd _ hu) (lk := .map) ⟨_, _, rfl⟩ hn)
  | [x, y], hev, hsz =>
    have hx := hev x (by simp)
    have hy := hev y (by simp)
    obtain ⟨t, u, rfl⟩ : ∃ t u, ts = #[t, u] := by
      obtain ⟨l⟩ := ts
      match l, hsz with
      | [t, u], _ => exact ⟨t, u, rfl⟩
    cases b <;> simp only [List.map_cons, List.map_nil, cBuiltin] at hc <;> first | (subst hc; cases hp; done) | skip
    · split at hc <;> first | (subst hc; cases hp; done) | skip
      rename_i e' he'
      split at hc <;> first | (subst hc; cases hp; done) | skip
      rename_i z i hz hi
      split at hc <;> first | (subst hc; cases hp; done) | skip
      rename_i hk
      subst hc
      obtain ⟨i', Z, hi', hZ, hz', hzr⟩ := zero_cells (ρ := ρ) hz
      rw [hi] at hi'; cases hi'
      obtain ⟨hcl, hcr⟩ := avOk_cells hzr hk.2.1
      exact next_v (append_ok r ⟨elemT_inv (by simpa using he'), by simpa using hk.2.2, hi, hZ, hk.1, by rw [← hcr.1, hcl]⟩ hx hy hn)
    · have hd : ∀ d, (#[t, u] : Array TypeId)[0]?.bind P.underlying = some d → P.underlying t = some d := fun d h => by simpa using h
      split at hc <;> first | (subst hc; cases hp; done) | skip
      rename_i kt el hu
      split at hc <;> first | (subst hc; cases hp; done) | skip
      rename_i kk hk
      subst hc
      exact next_v (delete_ok r hx hy (hd _ hu) hk u ty hn)
    · subst hc; exact next_v (max_ok r hx hy _ _ hn)
    · subst hc; exact next_v (min_ok r hx hy _ _ hn)
  | x :: y :: z :: l, _, _ => cases b <;> simp only [List.map_cons, cBuiltin] at hc <;> (subst hc; cases hp)
theorem cBuiltin_kind {L : List Nat} {b : Builtin} {ts : Array TypeId} {args : List G} {c : COp} (hc : cBuiltin P L b ts args = c) : plainC c = true ∨ ∃ n, c = .bad n := by
  match args with
  | [] => cases b <;> simp only [cBuiltin] at hc <;> (subst hc; exact .inr ⟨_, rfl⟩)
  | [x] =>
    cases b <;> simp only [cBuiltin] at hc
    all_goals (repeat' split at hc)
    all_goals (subst hc; first | exact .inl rfl | exact .inr ⟨_, rfl⟩)
  | [x, y] =>
    cases b <;> simp only [cBuiltin] at hc
    all_goals (repeat' split at hc)
    all_goals (subst hc; first | exact .inl rfl | exact .inr ⟨_, rfl⟩)
  | x :: y :: z :: l => cases b <;> simp only [cBuiltin] at hc <;> (subst hc; exact .inr ⟨_, rfl⟩)
end
end Go.Ev
namespace Go.Ev
set_option autoImplicit false
variable [Rounds]
theorem mkCallS_or (f : Nat) (l : List G) : mkCallS f l = .bad 157 ∨ (f ≠ baseY ∧ mkCallS f l = .callS f l) := by
  unfold mkCallS
  cases hb : Nat.beq f baseY with
  | true => exact .inl rfl
  | false => exact .inr ⟨fun e => (by rw [e] at hb; cases hb), rfl⟩
open Go

section
variable {P : Program} {ρ : Emb} {h : AH} {w : World} {k : K} {vars stk : List AV}
theorem grel_of {L : List Nat} {e : SEnv} {ev : Operand → Value} : ∀ (ps : List (Nat × Operand)), (∀ p ∈ ps, RV ρ ((res L e p.2).ev vars stk) (ev p.2)) →
    GRel ρ vars stk (ps.map fun p => (p.1, res L e p.2)) (ps.map fun p => (p.1, ev p.2))
  | [], _ => .nil
  | p :: ps, h => .cons _ _ _ _ _ (h p List.mem_cons_self) (grel_of ps fun q hq => h q (List.mem_cons_of_mem _ hq))
theorem brel_of {L : List Nat} {e : SEnv} {ev : Operand → Value} (x : Option Operand) (h : ∀ y, x = some y → RV ρ ((res L e y).ev vars stk) (ev y)) : BRel ρ vars stk (x.map (res L e)) (x.map ev) := by
  cases x with
  | none => trivial
  | some y => exact h y rfl
theorem list_of {L : List Nat} {e : SEnv} {ev : Operand → Value} (xs : Array Operand) (h : ∀ y ∈ xs, RV ρ ((res L e y).ev vars stk) (ev y)) :
    (xs.toList.map (res L e)).length = (xs.map ev).size ∧ ∀ (i : Nat) (g : G) (X : Value), (xs.toList.map (res L e))[i]? = some g → (xs.map ev)[i]? = some X → RV ρ (g.ev vars stk) X := by
  refine ⟨by simp, fun i g X hg hX => ?_⟩
  rw [List.getElem?_map] at hg
  rw [Array.getElem?_map] at hX
  rw [Array.getElem?_toList] at hg
  cases hx : xs[i]? with
  | none => rw [hx] at hg; cases hg
  | some x =>
    rw [hx] at hg hX
    cases hg; cases hX
    exact h x (Array.mem_of_getElem? hx)
theorem notIface {d : TypeDesc} (h : ∀ ms, d ≠ .interface ms) : (d matches .interface _) = false := by
  cases d <;> first | rfl | exact absurd rfl (h _)

theorem cOp_ok (L : List Nat) (e : SEnv) (r : Rel ρ h w) (o : Oper) (ev : Operand → Value) (hev : EvOk P L e ρ vars stk ev o.op) {c : COp} (hc : cOp P L e o.op = c) (hp : plainC c = true) {rec : Rec}
    (hn : NF (runOp c rec k vars stk h)) : NextOk ρ h w k vars stk (runOp c rec k vars stk h) ((execOp ev o).run P w) := by
  obtain ⟨dst, op, type, pos, after, guard⟩ := o
  unfold EvOk at hev
  cases op <;> simp only [cOp] at hc <;> first | (subst hc; cases hp; done) | skip
  case move x =>
    subst hc
    obtain ⟨v, h', ρ', w', y, h1, h2, h3, h4⟩ := move_ok (k := k) (vars := vars) (stk := stk) r (hev x (by simp [Op.operands]))
    exact ⟨v, h', ρ', w', .value y, h1, h2, by cases h4; simp [execOp, Sem.run_pure], .inl ⟨y, rfl, h3⟩⟩
  case assign x =>
    subst hc
    obtain ⟨v, h', ρ', w', y, h1, h2, h3, h4⟩ := move_ok (k := k) (vars := vars) (stk := stk) r (hev x (by simp [Op.operands]))
    exact ⟨v, h', ρ', w', .value y, h1, h2, by cases h4; simp [execOp, Sem.run_pure], .inl ⟨y, rfl, h3⟩⟩
  case pick c a b =>
    subst hc
    obtain ⟨v, h', ρ', w', y, h1, h2, h3, h4⟩ := pick_ok (P := P) (k := k) (vars := vars) (stk := stk) r (hev c (by simp [Op.operands])) (hev a (by simp [Op.operands])) (hev b (by simp [Op.operands])) hn
    refine ⟨v, h', ρ', w', .value y, h1, h2, ?_, .inl ⟨y, rfl, h3⟩⟩
    simp only [execOp, Sem.run_bind, Sem.run_pure] at h4 ⊢
    cases hb : (asBool (ev c)).run P w with
    | ok b w1 => rw [hb] at h4; simp only [Result.andThen_ok] at h4 ⊢; cases h4; rfl
    | halt x w1 => rw [hb] at h4; cases h4
  case alloc t =>
    split at hc <;> first | (subst hc; cases hp; done) | skip
    · rename_i z n hz hk
      subst hc
      obtain ⟨i, Z, hi, hZ, _, hzr⟩ := zero_cells (ρ := ρ) hz
      exact next_v (boxA_gen (x := .cst z) r hzr hn t (run_alloc hi hZ _))
    · rename_i z hz hk
      subst hc
      obtain ⟨i, Z, hi, hZ, _, hzr⟩ := zero_cells (ρ := ρ) hz
      exact next_v (boxO_gen (x := .cst z) r hzr hn t (run_alloc hi hZ _))
  case box t x =>
    have hx := hev x (by simp [Op.operands])
    split at hc <;> first | (subst hc; cases hp; done) | skip
    · subst hc; exact next_v (boxA_gen r hx hn t (run_box t _))
    · subst hc; exact next_v (boxO_gen r hx hn t (run_box t _))
  case build t ps =>
    have hg := grel_of (ρ := ρ) (vars := vars) (stk := stk) (L := L) (e := e) (ev := ev) ps.toList (fun p hp => hev p.2 (by simp only [Op.operands]; exact List.mem_toArray.2 (List.mem_map.2 ⟨p, hp, rfl⟩)))
    have hg' : GRel ρ vars stk (ps.toList.map fun p => (p.1, res L e p.2)) (ps.map fun p => (p.1, ev p.2)).toList := by rw [Array.toList_map]; exact hg
    split at hc <;> first | (subst hc; cases hp; done) | skip
    · rename_i fs z hu hz
      split at hc <;> first | (subst hc; cases hp; done) | skip
      rename_i pl hpl
      split at hc <;> first | (subst hc; cases hp; done) | skip
      rename_i l hl
      unfold cTuple at hc
      split at hc <;> first | (subst hc; cases hp; done) | skip
      rename_i hk
      subst hc
      refine next_v (build_ok r hz (pl := fun i => pl[i]?) hg' ?_ hk (fun Z cells hz hf => buildStruct_run hu hpl Z cells hz hf) hn)
      rw [← hl, List.mapM_map]
      rfl
    · rename_i n el z hu hz
      split at hc <;> first | (subst hc; cases hp; done) | skip
      rename_i i hi
      unfold cTuple at hc
      split at hc <;> first | (subst hc; cases hp; done) | skip
      rename_i hk
      subst hc
      refine next_v (build_ok r hz (pl := fun j => some (j * i.size, i.size, isAggT P el)) hg' ?_ hk (fun Z cells hz hf => buildArray_run hu hi Z cells hz hf) hn)
      rw [List.mapM_map]
      generalize ps.toList = q
      induction q with
      | nil => rfl
      | cons p q ih => rw [List.mapM_cons, ih]; rfl
  case buildSlice t n ps =>
    have hg := grel_of (ρ := ρ) (vars := vars) (stk := stk) (L := L) (e := e) (ev := ev) ps.toList (fun p hp => hev p.2 (by simp only [Op.operands]; exact List.mem_toArray.2 (List.mem_map.2 ⟨p, hp, rfl⟩)))
    have hg' : GRel ρ vars stk (ps.toList.map fun p => (p.1, res L e p.2)) (ps.map fun p => (p.1, ev p.2)).toList := by rw [Array.toList_map]; exact hg
    split at hc <;> first | (subst hc; cases hp; done) | skip
    rename_i el hel
    split at hc <;> first | (subst hc; cases hp; done) | skip
    rename_i z i hz hi
    split at hc <;> first | (subst hc; cases hp; done) | skip
    rename_i hk
    subst hc
    exact next_v (buildSlice_ok r (elemT_inv hel) hz hi hg' hk hn)
  case load t a =>
    have hx := hev a (by simp [Op.operands])
    split at hc <;> first | (subst hc; cases hp; done) | skip
    · rename_i hk; subst hc; exact next_v (ldAgg_ok r hx hn hk)
    · rename_i hk; subst hc; exact next_v (ldOne_ok r hx hn hk)
  case store t a x =>
    have ha := hev a (by simp [Op.operands])
    have hx := hev x (by simp [Op.operands])
    split at hc <;> first | (subst hc; cases hp; done) | skip
    · rename_i hk; subst hc; exact next_u (stAgg_ok r ha hx hn hk)
    · rename_i hk; subst hc; exact next_u (stOne_ok r ha hx hn hk)
  case nilCheck x =>
    subst hc
    obtain ⟨v, y, h1, h2, h3⟩ := nilCheck_ok (P := P) r (hev x (by simp [Op.operands])) hn (ρ₁ := ev) (o := ⟨dst, .nilCheck x, type, pos, after, guard⟩) rfl rfl
    exact ⟨v, h, ρ, w, .value y, h1, Stp.refl r, h3, .inl ⟨y, rfl, h2⟩⟩
  case binOp op t x y yt =>
    have hx := hev x (by simp [Op.operands])
    have hy := hev y (by simp [Op.operands])
    unfold cBin at hc
    split at hc
    · subst hc; exact next_v (bin_ok r hx hy (t := t) (xo := x) (yo := y) hn)
    · subst hc; exact next_v (bin_ok r hx hy (t := t) (xo := x) (yo := y) hn)
    · split at hc <;> first | (subst hc; cases hp; done) | skip
      · rename_i hek; subst hc; exact next_v (eq_ok r hx hy (.inl ⟨rfl, rfl⟩) hek hn)
      · rename_i hek; subst hc; exact next_v (eq_ok r hx hy (.inr ⟨rfl, rfl⟩) hek hn)
  case unOp op t x => subst hc; exact next_v (un_ok r (hev x (by simp [Op.operands])) hn)
  case convert s d x =>
    have hx := hev x (by simp [Op.operands])
    split at hc <;> first | (subst hc; cases hp; done) | skip
    · rename_i hs hd; subst hc; exact next_v (conv_ok r hx hs hd hn)
    · rename_i hs hd; subst hc; exact next_v (strStr_ok r hx hs hd hn)
    · rename_i hs hd
      split at hc <;> first | (subst hc; cases hp; done) | skip
      rename_i he
      subst hc; exact next_v (bytesStr_ok r hx hs he hd hn)
  case makeInterface t x =>
    have hx := hev x (by simp [Op.operands])
    split at hc <;> first | (subst hc; cases hp; done) | skip
    rename_i d hne hd
    subst hc
    exact next_v (iface_ok r hx hd (by cases d <;> first | rfl | exact absurd rfl (hne _)))
  case makeFunc f a c =>
    subst hc
    obtain ⟨a1, a2⟩ := list_of (ρ := ρ) (vars := vars) (stk := stk) (L := L) (e := e) (ev := ev) a (fun y hy => hev y (by simp [Op.operands, hy]))
    obtain ⟨c1, c2⟩ := list_of (ρ := ρ) (vars := vars) (stk := stk) (L := L) (e := e) (ev := ev) c (fun y hy => hev y (by simp [Op.operands, hy]))
    exact next_v (func_ok r a1 a2 c1 c2)
  case makeMap t rs =>
    cases rs with
    | none => subst hc; exact next_v (makeMap_ok r t)
    | some x => subst hc; cases hp
  case makeSlice t l c =>
    have hl := hev l (by simp [Op.operands])
    have hcc := hev c (by simp [Op.operands])
    split at hc <;> first | (subst hc; cases hp; done) | skip
    rename_i el hel
    split at hc <;> first | (subst hc; cases hp; done) | skip
    rename_i z i hz hi
    split at hc <;> first | (subst hc; cases hp; done) | skip
    rename_i hk
    subst hc
    exact next_v (makeSlice_ok r hl hcc (elemT_inv hel) hz hi hk.1 hk.2 hn)
  case slice t x lo hi mx =>
    have hx := hev x (by simp [Op.operands])
    have hlo := brel_of (ρ := ρ) (vars := vars) (stk := stk) (L := L) (e := e) (ev := ev) lo (fun y hy => hev y (by subst hy; simp [Op.operands]))
    have hhi := brel_of (ρ := ρ) (vars := vars) (stk := stk) (L := L) (e := e) (ev := ev) hi (fun y hy => hev y (by subst hy; simp [Op.operands]))
    have hmx := brel_of (ρ := ρ) (vars := vars) (stk := stk) (L := L) (e := e) (ev := ev) mx (fun y hy => hev y (by subst hy; simp [Op.operands]))
    split at hc <;> first | (subst hc; cases hp; done) | skip
    · rename_i hu
      cases mx with
      | some _ => subst hc; cases hp
      | none => subst hc; exact next_v (sliceStr_ok r hx hlo hhi hu hn)
    · rename_i el hu
      split at hc <;> first | (subst hc; cases hp; done) | skip
      rename_i hk
      subst hc
      refine next_v (sliceSl_ok r hx hlo hhi hmx ?_ hu hk.1 hn)
      rcases hk.2 with h1 | h1
      · left; cases mx with | none => rfl | some _ => cases h1
      · right; cases hi with | none => cases h1 | some _ => simp
  case fieldAddr s x f =>
    have hx := hev x (by simp [Op.operands])
    split at hc <;> first | (subst hc; cases hp; done) | skip
    rename_i fs hs
    split at hc <;> first | (subst hc; cases hp; done) | skip
    rename_i fd hf
    split at hc <;> first | (subst hc; cases hp; done) | skip
    rename_i hz
    subst hc
    exact next_v (fieldAddr_ok r hx hs hf hz hn)
  case field s x f =>
    have hx := hev x (by simp [Op.operands])
    split at hc <;> first | (subst hc; cases hp; done) | skip
    rename_i fs hs
    split at hc <;> first | (subst hc; cases hp; done) | skip
    rename_i fd hf
    split at hc <;> first | (subst hc; cases hp; done) | skip
    · rename_i n hk; subst hc; exact next_v (field_ok r hx hs hf (n := n) (ag := true) hk hn)
    · rename_i hk; subst hc; exact next_v (field_ok r hx hs hf (n := 1) (ag := false) hk hn)
  case indexAddr t x i =>
    have hx := hev x (by simp [Op.operands])
    have hi := hev i (by simp [Op.operands])
    split at hc <;> first | (subst hc; cases hp; done) | skip
    · rename_i hu
      split at hc <;> first | (subst hc; cases hp; done) | skip
      rename_i hk; subst hc; exact next_v (indexAddrS_ok r hx hi hu hk hn)
    · rename_i hu
      split at hc <;> first | (subst hc; cases hp; done) | skip
      rename_i hk; subst hc; exact next_v (indexAddrA_ok r hx hi hu hk hn)
  case index t x i =>
    have hx := hev x (by simp [Op.operands])
    have hi := hev i (by simp [Op.operands])
    split at hc <;> first | (subst hc; cases hp; done) | skip
    rename_i hu; subst hc; exact next_v (indexStr_ok r hx hi hu hn)
  case lookup t m key ok =>
    have hm := hev m (by simp [Op.operands])
    have hk := hev key (by simp [Op.operands])
    split at hc <;> first | (subst hc; cases hp; done) | skip
    rename_i hu
    split at hc <;> first | (subst hc; cases hp; done) | skip
    rename_i hz hkk
    subst hc
    exact next_v (lookup_ok r hm hk hu hkk hz hn)
  case mapUpdate t m key v =>
    have hm := hev m (by simp [Op.operands])
    have hk := hev key (by simp [Op.operands])
    have hv := hev v (by simp [Op.operands])
    split at hc <;> first | (subst hc; cases hp; done) | skip
    rename_i hu
    split at hc <;> first | (subst hc; cases hp; done) | skip
    rename_i hkk
    subst hc
    exact next_u (mapUpdate_ok r hm hk hv hu hkk hn)
  case insert t m key v =>
    have hm := hev m (by simp [Op.operands])
    have hk := hev key (by simp [Op.operands])
    have hv := hev v (by simp [Op.operands])
    split at hc <;> first | (subst hc; cases hp; done) | skip
    rename_i hu
    split at hc <;> first | (subst hc; cases hp; done) | skip
    rename_i hkk
    subst hc
    exact next_u (mapUpdate_ok r hm hk hv hu hkk hn)
  case mapEntry t m key =>
    have hm := hev m (by simp [Op.operands])
    have hk := hev key (by simp [Op.operands])
    split at hc <;> first | (subst hc; cases hp; done) | skip
    rename_i hu
    split at hc <;> first | (subst hc; cases hp; done) | skip
    rename_i hz hkk
    subst hc
    exact next_v (mapEntry_ok r hm hk hu hkk hz hn)
  case entryStore t m s v =>
    have hm := hev m (by simp [Op.operands])
    have hs := hev s (by simp [Op.operands])
    have hv := hev v (by simp [Op.operands])
    split at hc <;> first | (subst hc; cases hp; done) | skip
    split at hc <;> first | (subst hc; cases hp; done) | skip
    subst hc
    exact next_u (entryStore_ok r hm hs hv t hn)
  case range t x =>
    have hx := hev x (by simp [Op.operands])
    split at hc <;> first | (subst hc; cases hp; done) | skip
    · rename_i hu; subst hc; exact next_v (rangeStr_ok r hx hu hn)
    · rename_i hu; subst hc; exact next_v (rangeMap_ok r hx hu hn)
  case next it s =>
    have hx := hev it (by simp [Op.operands])
    cases s with
    | true => subst hc; exact next_v (nextStr_ok r hx type hn)
    | false => subst hc; exact next_v (nextMap_ok r hx type hn)
  case entry it => subst hc; exact next_v (entryIt_ok r (hev it (by simp [Op.operands])) hn)
  case typeAssert x xt a ok =>
    have hx := hev x (by simp [Op.operands])
    split at hc <;> first | (subst hc; cases hp; done) | skip
    rename_i z d hne hz hd
    subst hc
    exact next_v (assert_ok r hx hz hd (by cases d <;> first | rfl | exact absurd rfl (hne _)) hn)
  case extract x i => subst hc; exact next_v (extract_ok r (hev x (by simp [Op.operands])) hn)
  case call c =>
    split at hc <;> first | (subst hc; cases hp; done) | (rename_i f hf; rcases mkCallS_or f (c.args.toList.map (res L e)) with h1 | ⟨_, h1⟩ <;> (rw [h1] at hc; subst hc; cases hp; done)) | skip
    rename_i b hb
    split at hc <;> first | (subst hc; cases hp; done) | skip
    rename_i hsz
    have hop : ∀ x ∈ c.args.toList, x ∈ (Op.call c).operands := by
      intro x hx
      show x ∈ c.operands
      unfold Call.operands
      rw [hb]
      simpa using hx
    have := builtin_ok L e r (b := b) (ts := c.argTypes) (args := c.args.toList) (ev := ev) (fun x hx => hev x (hop x hx)) hc hp hn (by simpa using hsz) type (c.args.map fun | .const _ => true | _ => false)
    have e1 : (List.map ev c.args.toList).toArray = c.args.map ev := Array.ext' (by rw [Array.toList_map])
    rw [e1] at this
    simp only [execOp, resolve, hb, Sem.run_bind, Sem.run_pure, Result.andThen_ok, invoke]
    exact this
  case defer c =>
    split at hc <;> (subst hc; cases hp)
end
end Go.Ev
namespace Go.Ev
set_option autoImplicit false
variable [Rounds]
open Go

def Ext (h h' : AH) : Prop := ∀ p o, h.obj p = some o → h'.obj p = some o

section
variable {P : Program} {ρ : Emb} {h : AH} {w : World} {k : K} {vars stk : List AV}
theorem rd_ext {h' : AH} (hx : Ext h h') {b : Pos} {e : Nat} {l : List AV} (hr : rd b e h = some l) : rd b e h' = some l := by
  obtain ⟨sz, n, t, h1, h2⟩ := rd_inv hr
  unfold rd
  rw [hx _ _ h1]; exact h2
theorem rdBytes_ext {h' : AH} (hx : Ext h h') {b : Pos} : ∀ {n e r : Nat}, rdBytes b h n e = some r → rdBytes b h' n e = some r
  | 0, _, _, hr => hr
  | n + 1, e, r, hr => by
    unfold rdBytes at hr ⊢
    split at hr
    · rename_i c hc
      rw [rd_ext hx hc]
      cases h2 : rdBytes b h n (e + 1) with
      | none => rw [h2] at hr; cases hr
      | some q => rw [h2] at hr; simp only [rdBytes_ext hx h2]; exact hr
    · cases hr
theorem eqEK_ext {h' : AH} (hx : Ext h h') {ek : EK} {x y : AV} {b : Bool} (hr : eqEK ek x y h = some b) : eqEK ek x y h' = some b := by
  cases ek with
  | ptr =>
    show eqPtr x y h' = some b
    change eqPtr x y h = some b at hr
    unfold eqPtr at hr ⊢
    split at hr <;> first | exact hr | skip
    · rename_i b1 e1 o1 b2 e2 o2
      cases hp : posEq b1 b2 with
      | true => rw [hp] at hr; simp only at hr ⊢; exact hr
      | false =>
        rw [hp] at hr
        simp only at hr ⊢
        split at hr
        · rename_i h1 h2
          rw [hx _ _ h1, hx _ _ h2]; exact hr
        · cases hr
  | _ => exact hr
theorem bnds_free {f : Nat → Nat → Nat → R} {lo hi mx : AV} (hn : NF (bnds f lo hi mx k vars stk h)) : ∃ l u m, lo = .nat l ∧ hi = .nat u ∧ mx = .nat m ∧ NF (f l u m) := by
  obtain ⟨l, u, m, h1, h2, h3, h4⟩ := bnds_inv hn
  exact ⟨l, u, m, h1, h2, h3, by rw [← h4]; exact hn⟩

theorem onVal_free {v : AV} (hv : v ≠ .undef) : onVal v k vars stk h = k v vars stk h := by
  cases v <;> first | rfl | exact absurd rfl hv
theorem float_ok {c : COp} (hf : floatC c = true) {rec : Rec} (hn : NF (runOp c rec k vars stk h)) :
    ∃ v, ∀ h', (memC c = true → Ext h h') → ∀ (rec' : Rec) (k' : K), runOp c rec' k' vars stk h' = k' v vars stk h' := by
  cases c <;> first | (cases hf; done) | skip
  case move x => exact ⟨_, fun h' _ rec' k' => rfl⟩
  case pick c a b =>
    change NF (pickC c a b k vars stk h) at hn
    unfold pickC at hn
    rcases onBool_inv hn with hv | hv
    · exact ⟨a.ev vars stk, fun h' _ rec' k' => by show pickC c a b k' vars stk h' = _; unfold pickC; rw [hv]; rfl⟩
    · exact ⟨b.ev vars stk, fun h' _ rec' k' => by show pickC c a b k' vars stk h' = _; unfold pickC; rw [hv]; rfl⟩
  case tuple n l chk ones =>
    obtain ⟨h1, h2, _⟩ := tupleC_inv hn
    refine ⟨.agg n (evs l vars stk), fun h' _ rec' k' => ?_⟩
    show tupleC n l chk ones k' vars stk h' = _
    unfold tupleC; rw [h1, h2]; rfl
  case ldAgg n x =>
    change NF (ldAgg n x k vars stk h) at hn
    unfold ldAgg at hn
    obtain ⟨b, e, o, hv⟩ := onPtr_inv hn
    rw [hv] at hn
    change NF (onDat (ldAgg3 n e o k vars stk h) (h.obj b)) at hn
    obtain ⟨sz, m, t, ho, he⟩ := onDat_inv hn
    rw [he] at hn
    unfold ldAgg3 at hn
    cases hb : and (Nat.beq sz n) (Nat.beq o 0) with
    | true =>
      rw [hb] at hn
      obtain ⟨l, hg, _⟩ := optR_inv hn
      refine ⟨.agg n l, fun h' hx rec' k' => ?_⟩
      show ldAgg n x k' vars stk h' = _
      unfold ldAgg
      rw [hv]
      show onDat (ldAgg3 n e o k' vars stk h') (h'.obj b) = _
      rw [hx rfl _ _ ho]
      show ldAgg3 n e o k' vars stk h' sz m t = _
      unfold ldAgg3
      rw [hb, hg]; rfl
    | false =>
      rw [hb] at hn
      change NF (ldAgg4 n e o k vars stk h sz m t) at hn
      unfold ldAgg4 at hn
      obtain ⟨c1, e1⟩ := ifR_inv hn
      rw [e1] at hn
      obtain ⟨l, hg, _⟩ := optR_inv hn
      refine ⟨.agg n (takeL n (dropL o l)), fun h' hx rec' k' => ?_⟩
      show ldAgg n x k' vars stk h' = _
      unfold ldAgg
      rw [hv]
      show onDat (ldAgg3 n e o k' vars stk h') (h'.obj b) = _
      rw [hx rfl _ _ ho]
      show ldAgg3 n e o k' vars stk h' sz m t = _
      unfold ldAgg3
      rw [hb]
      show ldAgg4 n e o k' vars stk h' sz m t = _
      unfold ldAgg4
      rw [c1, hg]; rfl
  case ldOne x =>
    change NF (ldOne x k vars stk h) at hn
    unfold ldOne at hn
    obtain ⟨b, e, o, hv⟩ := onPtr_inv hn
    rw [hv] at hn
    change NF (optR (ldOne3 o k vars stk h) (rd b e h)) at hn
    obtain ⟨l, hr, he⟩ := optR_inv hn
    rw [he] at hn
    have h3 := onVal_inv (v := nth o l) (k := k) hn
    refine ⟨nth o l, fun h' hx rec' k' => ?_⟩
    show ldOne x k' vars stk h' = _
    unfold ldOne
    rw [hv]
    show optR (ldOne3 o k' vars stk h') (rd b e h') = _
    rw [rd_ext (hx rfl) hr]
    exact onVal_free h3.1
  case nilCheck x =>
    change NF (onNilck (x.ev vars stk) k vars stk h) at hn
    refine ⟨x.ev vars stk, fun h' _ rec' k' => ?_⟩
    show onNilck (x.ev vars stk) k' vars stk h' = _
    generalize x.ev vars stk = v at hn ⊢
    cases v <;> first | rfl | (exact absurd rfl (hn _)) | skip
    rename_i f a c
    cases f <;> first | rfl | (exact absurd rfl (hn _))
  case bin op x y =>
    change NF (binC op x y k vars stk h) at hn
    unfold binC at hn
    obtain ⟨a, ha, _⟩ := optR_inv hn
    exact ⟨a, fun h' _ rec' k' => by show binC op x y k' vars stk h' = _; unfold binC; rw [ha]; rfl⟩
  case eq ek neg x y =>
    change NF (eqC ek neg x y k vars stk h) at hn
    unfold eqC at hn
    obtain ⟨a, ha, _⟩ := optR_inv hn
    exact ⟨_, fun h' hx rec' k' => by show eqC ek neg x y k' vars stk h' = _; unfold eqC; rw [eqEK_ext (hx rfl) ha]; rfl⟩
  case un op x =>
    change NF (unC op x k vars stk h) at hn
    cases op <;> unfold unC at hn <;> first | (exact absurd rfl (hn _)) | skip
    · simp only at hn
      split at hn
      · rename_i kd n hv
        exact ⟨mkInt kd (kd.wrap (0 - n)), fun h' _ rec' k' => by show unC .neg x k' vars stk h' = _; unfold unC; simp only [hv]⟩
      · exact absurd rfl (hn _)
    · simp only at hn
      rcases onBool_inv hn with hv | hv
      · exact ⟨.ff, fun h' _ rec' k' => by show unC .not x k' vars stk h' = _; unfold unC; simp only [hv]; rfl⟩
      · exact ⟨.tt, fun h' _ rec' k' => by show unC .not x k' vars stk h' = _; unfold unC; simp only [hv]; rfl⟩
  case conv d x =>
    change NF (convC d x k vars stk h) at hn
    unfold convC at hn
    split at hn
    · rename_i kd n hv
      exact ⟨mkInt d (d.wrap n), fun h' _ rec' k' => by show convC d x k' vars stk h' = _; unfold convC; simp only [hv]⟩
    · exact absurd rfl (hn _)
  case bytesStr x =>
    change NF (bytesStrC x k vars stk h) at hn
    unfold bytesStrC at hn
    split at hn
    · rename_i hv
      exact ⟨.str 0 0, fun h' _ rec' k' => by show bytesStrC x k' vars stk h' = _; unfold bytesStrC; simp only [hv]⟩
    · rename_i b e len _ _ _ hv
      split at hn
      · rename_i n hr
        exact ⟨.str n len, fun h' hx rec' k' => by show bytesStrC x k' vars stk h' = _; unfold bytesStrC; simp only [hv, rdBytes_ext (hx rfl) hr]⟩
      · exact absurd rfl (hn _)
    · exact absurd rfl (hn _)
  case strStr x =>
    change NF (strStrC x k vars stk h) at hn
    unfold strStrC at hn
    obtain ⟨n, l, hv⟩ := onStr_inv hn
    exact ⟨.str n l, fun h' _ rec' k' => by show strStrC x k' vars stk h' = _; unfold strStrC; rw [hv]; rfl⟩
  case iface t x => exact ⟨_, fun h' _ rec' k' => rfl⟩
  case func f a c => exact ⟨_, fun h' _ rec' k' => rfl⟩
  case sliceStr x lo hi =>
    change NF (sliceStr x lo hi k vars stk h) at hn
    unfold sliceStr at hn
    obtain ⟨n, ln, hv⟩ := onStr_inv hn
    rw [hv] at hn
    change NF (onNat (boundLow lo vars stk) (sliceStr3 n ln (boundHigh ln hi vars stk)) k vars stk h) at hn
    obtain ⟨l, hl⟩ := onNat_inv hn
    rw [hl] at hn
    change NF (onNat (boundHigh ln hi vars stk) (sliceStr4 n ln l) k vars stk h) at hn
    obtain ⟨u, hu⟩ := onNat_inv hn
    rw [hu] at hn
    obtain ⟨c1, _⟩ := ifR_inv (show NF (ifR (and (Nat.ble l u) (Nat.ble u ln)) _) from hn)
    refine ⟨.str (sSub n l u) (Nat.sub u l), fun h' _ rec' k' => ?_⟩
    show sliceStr x lo hi k' vars stk h' = _
    unfold sliceStr
    rw [hv]
    show onNat (boundLow lo vars stk) (sliceStr3 n ln (boundHigh ln hi vars stk)) k' vars stk h' = _
    rw [hl]
    show onNat (boundHigh ln hi vars stk) (sliceStr4 n ln l) k' vars stk h' = _
    rw [hu]
    show ifR (and (Nat.ble l u) (Nat.ble u ln)) _ = _
    rw [c1]; rfl
  case sliceSl sz x lo hi mx =>
    change NF (sliceSl sz x lo hi mx k vars stk h) at hn
    unfold sliceSl at hn
    rcases onSlice_inv hn with hv | ⟨b, e, ln, cap, ex, sz₂, hv⟩ <;> rw [hv] at hn
    · change NF (sliceNil lo hi mx k vars stk h) at hn
      unfold sliceNil at hn
      obtain ⟨l, u, m, h1, h2, h3, h4⟩ := bnds_free hn
      obtain ⟨c1, _⟩ := ifR_inv h4
      refine ⟨.nilslice, fun h' _ rec' k' => ?_⟩
      show sliceSl sz x lo hi mx k' vars stk h' = _
      unfold sliceSl
      rw [hv]
      show sliceNil lo hi mx k' vars stk h' = _
      unfold sliceNil
      rw [h1, h2, h3]
      show ifR _ _ = _
      rw [c1]; rfl
    · change NF (sliceSl1 sz lo hi mx b e ln cap ex sz₂ k vars stk h) at hn
      unfold sliceSl1 at hn
      obtain ⟨l, u, m, h1, h2, h3, h4⟩ := bnds_free hn
      obtain ⟨c1, _⟩ := ifR_inv h4
      refine ⟨.slice b (Nat.add e l) (Nat.sub u l) (Nat.sub m l) (or ex mx.isSome) sz, fun h' _ rec' k' => ?_⟩
      show sliceSl sz x lo hi mx k' vars stk h' = _
      unfold sliceSl
      rw [hv]
      show sliceSl1 sz lo hi mx b e ln cap ex sz₂ k' vars stk h' = _
      unfold sliceSl1
      rw [h1, h2, h3]
      show ifR _ _ = _
      rw [c1]; rfl
  case fieldAddr off x =>
    change NF (fieldAddrC off x k vars stk h) at hn
    unfold fieldAddrC at hn
    obtain ⟨b, e, o, hv⟩ := onPtr_inv hn
    exact ⟨.ptr b e (Nat.add o off), fun h' _ rec' k' => by show fieldAddrC off x k' vars stk h' = _; unfold fieldAddrC; rw [hv]; rfl⟩
  case field off n ag x =>
    change NF (fieldC off n ag x k vars stk h) at hn
    unfold fieldC at hn
    obtain ⟨m, l, hv⟩ := onAgg_inv hn
    rw [hv] at hn
    change NF (field2 off n ag m l k vars stk h) at hn
    cases ag with
    | false =>
      have h3 := onVal_inv (show NF (onVal (nth off l) k vars stk h) from hn)
      refine ⟨nth off l, fun h' _ rec' k' => ?_⟩
      show fieldC off n false x k' vars stk h' = _
      unfold fieldC
      rw [hv]
      exact onVal_free h3.1
    | true =>
      obtain ⟨c1, _⟩ := ifR_inv (show NF (ifR (Nat.ble (Nat.add off n) (len l)) _) from hn)
      refine ⟨.agg n (takeL n (dropL off l)), fun h' _ rec' k' => ?_⟩
      show fieldC off n true x k' vars stk h' = _
      unfold fieldC
      rw [hv]
      show ifR (Nat.ble (Nat.add off n) (len l)) _ = _
      rw [c1]; rfl
  case indexAddrS sz x i =>
    change NF (indexAddrS sz x i k vars stk h) at hn
    unfold indexAddrS at hn
    obtain ⟨j, hj⟩ := onNat_inv hn
    rw [hj] at hn
    change NF (onSlice (x.ev vars stk) failK (indexAddrS2 sz j) k vars stk h) at hn
    rcases onSlice_inv hn with hv | ⟨b, e, ln, cap, ex, sz₂, hv⟩ <;> rw [hv] at hn
    · exact absurd rfl (hn _)
    · change NF (ifR (Nat.beq sz₂ sz) (ifR (Nat.ble (Nat.succ j) ln) _)) at hn
      obtain ⟨c1, e1⟩ := ifR_inv hn
      rw [e1] at hn
      obtain ⟨c2, _⟩ := ifR_inv hn
      refine ⟨.ptr b (Nat.add e j) 0, fun h' _ rec' k' => ?_⟩
      show indexAddrS sz x i k' vars stk h' = _
      unfold indexAddrS
      rw [hj]
      show onSlice (x.ev vars stk) failK (indexAddrS2 sz j) k' vars stk h' = _
      rw [hv]
      show ifR (Nat.beq sz₂ sz) (ifR (Nat.ble (Nat.succ j) ln) _) = _
      rw [c1, c2]; rfl
  case indexAddrA n sz x i =>
    change NF (indexAddrA n sz x i k vars stk h) at hn
    unfold indexAddrA at hn
    obtain ⟨j, hj⟩ := onNat_inv hn
    rw [hj] at hn
    change NF (onPtr (x.ev vars stk) (indexAddrA2 n sz j) k vars stk h) at hn
    obtain ⟨b, e, o, hv⟩ := onPtr_inv hn
    rw [hv] at hn
    obtain ⟨c1, _⟩ := ifR_inv (show NF (ifR (Nat.ble (Nat.succ j) n) _) from hn)
    refine ⟨.ptr b e (Nat.add o (Nat.mul j sz)), fun h' _ rec' k' => ?_⟩
    show indexAddrA n sz x i k' vars stk h' = _
    unfold indexAddrA
    rw [hj]
    show onPtr (x.ev vars stk) (indexAddrA2 n sz j) k' vars stk h' = _
    rw [hv]
    show ifR (Nat.ble (Nat.succ j) n) _ = _
    rw [c1]; rfl
  case indexStr x i =>
    change NF (indexStr x i k vars stk h) at hn
    unfold indexStr at hn
    obtain ⟨n, ln, hv⟩ := onStr_inv hn
    rw [hv] at hn
    change NF (onIdx (i.ev vars stk) (indexStr2 n ln) k vars stk h) at hn
    obtain ⟨j, hj⟩ := onIdx_inv hn
    rw [hj.2] at hn
    obtain ⟨c1, _⟩ := ifR_inv (show NF (ifR (Nat.ble (Nat.succ j) ln) _) from hn)
    refine ⟨.byte (sIdx n j), fun h' _ rec' k' => ?_⟩
    show indexStr x i k' vars stk h' = _
    unfold indexStr
    rw [hv]
    show onIdx (i.ev vars stk) (indexStr2 n ln) k' vars stk h' = _
    rw [onIdx_free hj.1]
    show ifR (Nat.ble (Nat.succ j) ln) _ = _
    rw [c1]; rfl
  case lookup kk z ok m key =>
    change NF (lookupC kk z ok m key k vars stk h) at hn
    unfold lookupC at hn
    obtain ⟨c1, e1⟩ := ifR_inv hn
    rw [e1] at hn
    rcases onMap_inv hn with hv | ⟨b, hv⟩ <;> rw [hv] at hn
    · refine ⟨@Bool.rec (fun _ => AV) z (.tup [z, .ff]) ok, fun h' _ rec' k' => ?_⟩
      show lookupC kk z ok m key k' vars stk h' = _
      unfold lookupC
      rw [c1, hv]; rfl
    · change NF (onMp (look2 z ok (eqK kk (key.ev vars stk)) k vars stk h) (h.obj b)) at hn
      obtain ⟨es, tk, ho, he2⟩ := onMp_inv hn
      rw [he2] at hn
      unfold look2 at hn
      obtain ⟨o, hf, _⟩ := optR_inv hn
      cases o with
      | none =>
        refine ⟨@Bool.rec (fun _ => AV) z (.tup [z, .ff]) ok, fun h' hx rec' k' => ?_⟩
        show lookupC kk z ok m key k' vars stk h' = _
        unfold lookupC
        rw [c1, hv]
        show onMp (look2 z ok (eqK kk (key.ev vars stk)) k' vars stk h') (h'.obj b) = _
        rw [hx rfl _ _ ho]
        show look2 z ok (eqK kk (key.ev vars stk)) k' vars stk h' es = _
        unfold look2
        rw [hf]; rfl
      | some v =>
        refine ⟨@Bool.rec (fun _ => AV) v (.tup [v, .tt]) ok, fun h' hx rec' k' => ?_⟩
        show lookupC kk z ok m key k' vars stk h' = _
        unfold lookupC
        rw [c1, hv]
        show onMp (look2 z ok (eqK kk (key.ev vars stk)) k' vars stk h') (h'.obj b) = _
        rw [hx rfl _ _ ho]
        show look2 z ok (eqK kk (key.ev vars stk)) k' vars stk h' es = _
        unfold look2
        rw [hf]; rfl
  case assert a z ok x =>
    change NF (assertC a z ok x k vars stk h) at hn
    unfold assertC at hn
    split at hn
    · rename_i t v hv
      cases hb : Nat.beq t a with
      | true =>
        exact ⟨cond ok (.tup [v, .tt]) v, fun h' _ rec' k' => by show assertC a z ok x k' vars stk h' = _; unfold assertC; simp only [hv, hb, cond_true]⟩
      | false =>
        rw [hb] at hn
        cases ok with
        | true => exact ⟨.tup [z, .ff], fun h' _ rec' k' => by show assertC a z true x k' vars stk h' = _; unfold assertC; simp only [hv, hb, cond_true, cond_false]⟩
        | false => exact absurd rfl (hn _)
    · rename_i hv
      cases ok with
      | true => exact ⟨.tup [z, .ff], fun h' _ rec' k' => by show assertC a z true x k' vars stk h' = _; unfold assertC; simp only [hv, cond_true]⟩
      | false => exact absurd rfl (hn _)
    · exact absurd rfl (hn _)
  case extract i x =>
    change NF (extractC i x k vars stk h) at hn
    unfold extractC at hn
    obtain ⟨l, hv⟩ := onTup_inv hn
    rw [hv] at hn
    have h3 := onVal_inv (show NF (onVal (nth i l) k vars stk h) from hn)
    refine ⟨nth i l, fun h' _ rec' k' => ?_⟩
    show extractC i x k' vars stk h' = _
    unfold extractC
    rw [hv]
    exact onVal_free h3.1
  case len lk x =>
    change NF (lenC lk x k vars stk h) at hn
    cases lk with
    | str =>
      obtain ⟨n, ln, hv⟩ := onStr_inv (show NF (onStr (x.ev vars stk) lenStr2 k vars stk h) from hn)
      exact ⟨.nat ln, fun h' _ rec' k' => by show onStr (x.ev vars stk) lenStr2 k' vars stk h' = _; rw [hv]; rfl⟩
    | slice =>
      rcases onSlice_inv (show NF (onSlice (x.ev vars stk) lenNil lenSl2 k vars stk h) from hn) with hv | ⟨b, e, ln, cap, ex, sz₂, hv⟩
      · exact ⟨.nat 0, fun h' _ rec' k' => by show onSlice (x.ev vars stk) lenNil lenSl2 k' vars stk h' = _; rw [hv]; rfl⟩
      · exact ⟨.nat ln, fun h' _ rec' k' => by show onSlice (x.ev vars stk) lenNil lenSl2 k' vars stk h' = _; rw [hv]; rfl⟩
    | map =>
      have hn' : NF (onMap (x.ev vars stk) lenNil lenMp k vars stk h) := hn
      rcases onMap_inv hn' with hv | ⟨b, hv⟩ <;> rw [hv] at hn'
      · exact ⟨.nat 0, fun h' _ rec' k' => by show onMap (x.ev vars stk) lenNil lenMp k' vars stk h' = _; rw [hv]; rfl⟩
      · change NF (onMp (lenMp2 k vars stk h) (h.obj b)) at hn'
        obtain ⟨es, tk, ho, he2⟩ := onMp_inv hn'
        rw [he2] at hn'
        obtain ⟨c1, _⟩ := ifR_inv (show NF (ifR (Nat.ble (len es) big) _) from hn')
        refine ⟨.nat (len es), fun h' hx rec' k' => ?_⟩
        show onMap (x.ev vars stk) lenNil lenMp k' vars stk h' = _
        rw [hv]
        show onMp (lenMp2 k' vars stk h') (h'.obj b) = _
        rw [hx rfl _ _ ho]
        show ifR (Nat.ble (len es) big) _ = _
        rw [c1]; rfl
  case max x y =>
    change NF (onNat (x.ev vars stk) (max1 (y.ev vars stk)) k vars stk h) at hn
    obtain ⟨a, ha⟩ := onNat_inv hn
    rw [ha] at hn
    obtain ⟨b, hb⟩ := onNat_inv (show NF (onNat (y.ev vars stk) (maxK a) k vars stk h) from hn)
    refine ⟨.nat (@Bool.rec (fun _ => Nat) a b (Nat.ble a b)), fun h' _ rec' k' => ?_⟩
    show onNat (x.ev vars stk) (max1 (y.ev vars stk)) k' vars stk h' = _
    rw [ha]
    show onNat (y.ev vars stk) (maxK a) k' vars stk h' = _
    rw [hb]; rfl
  case min x y =>
    change NF (onNat (x.ev vars stk) (min1 (y.ev vars stk)) k vars stk h) at hn
    obtain ⟨a, ha⟩ := onNat_inv hn
    rw [ha] at hn
    obtain ⟨b, hb⟩ := onNat_inv (show NF (onNat (y.ev vars stk) (minK a) k vars stk h) from hn)
    refine ⟨.nat (@Bool.rec (fun _ => Nat) b a (Nat.ble a b)), fun h' _ rec' k' => ?_⟩
    show onNat (x.ev vars stk) (min1 (y.ev vars stk)) k' vars stk h' = _
    rw [ha]
    show onNat (y.ev vars stk) (minK a) k' vars stk h' = _
    rw [hb]; rfl
end
end Go.Ev
namespace Go.Ev
set_option autoImplicit false
variable [Rounds]
open Go

section
variable {P : Program} {ρ : Emb} {h : AH} {w : World} {k : K} {vars stk : List AV} {L : List Nat} {N : Nat}
theorem idxOf_ge : ∀ {L : List Nat} {t i k : Nat}, idxOf t L k = some i → k ≤ i ∧ L[i - k]? = some t
  | [], t, i, k, h => by cases h
  | s :: r, t, i, k, h => by
    unfold idxOf at h
    split at h
    · rename_i hb
      have := beq_iff.1 hb
      subst this
      cases h
      simp
    · obtain ⟨h1, h2⟩ := idxOf_ge h
      refine ⟨by omega, ?_⟩
      rw [show i - k = (i - (k + 1)) + 1 by omega, List.getElem?_cons_succ]; exact h2
theorem idxOf_inj {t u i : Nat} (h1 : idxOf t L 0 = some i) (h2 : idxOf u L 0 = some i) : t = u := by
  have a := (idxOf_ge h1).2
  have b := (idxOf_ge h2).2
  rw [a] at b; cases b; rfl
/-- the static environment is in order -/
structure WF (L : List Nat) (N : Nat) (e : SEnv) : Prop where
  key : ∀ t sl, (t, sl) ∈ e.m → idxOf t L 0 = none
  dep : ∀ t d, (t, SL.st d) ∈ e.m → d < e.depth
  vr : ∀ t j, (t, SL.var j) ∈ e.m → ∃ u, u < N ∧ idxOf u L 0 = some j
/-- an operand whose slot, if it is one, is a slot of the function -/
def inN (N : Nat) : Operand → Bool
  | .tmp t => Nat.blt t N
  | _ => true
theorem wf0 : WF L N env0 := by
  constructor
  · intro t sl h; cases h
  · intro t d h; cases h
  · intro t d h; cases h
theorem lookupS_mem : ∀ {m : List (Nat × SL)} {t : Nat} {l : SL}, lookupS t m = some l → (t, l) ∈ m
  | (s, l) :: r, t, l', h => by
    unfold lookupS at h
    split at h
    · rename_i hb
      have := beq_iff.1 hb
      subst this
      cases h; exact List.mem_cons_self
    · exact List.mem_cons_of_mem _ (lookupS_mem h)
theorem lookupS_none_of {m : List (Nat × SL)} {t : Nat} (h : ∀ l, (t, l) ∉ m) : lookupS t m = none := by
  cases hl : lookupS t m with
  | none => rfl
  | some l => exact absurd (lookupS_mem hl) (h l)
theorem WF.none {e : SEnv} (hw : WF L N e) {t i : Nat} (hi : idxOf t L 0 = some i) : lookupS t e.m = .none :=
  lookupS_none_of fun l hm => by rw [hw.key t l hm] at hi; cases hi
theorem resT_var {e : SEnv} (hw : WF L N e) {t i : Nat} (hi : idxOf t L 0 = some i) : resT L e t = .var i := by
  unfold resT; rw [hw.none hi, hi]
/-- what a slot holds, by the static environment -/
noncomputable def sig (L : List Nat) (e : SEnv) (vars stk : List AV) (t : Nat) : AV := (resT L e t).ev vars stk
theorem ev_stk (i : Nat) : (G.stk i).ev vars stk = stk.getD i .undef := nth_eq i stk
theorem ev_var (i : Nat) : (G.var i).ev vars stk = vars.getD i .undef := nth_eq i vars
def resOf (dep : Nat) (x : Option Nat) : Option SL → G
  | some (.st d) => .stk (dep - 1 - d)
  | some (.var i) => .var i
  | some (.cst a) => .cst a
  | none => match x with
    | some i => .var i
    | none => .bad
theorem resT_eq (e : SEnv) (t : Nat) : resT L e t = resOf e.depth (idxOf t L 0) (lookupS t e.m) := by
  unfold resT resOf
  cases lookupS t e.m with
  | none => rfl
  | some l => cases l <;> rfl
theorem sig_push {e : SEnv} (hw : WF L N e) {t : Nat} (ht : idxOf t L 0 = none) (v : AV) (u : Nat) :
    sig L (e.push t) vars (v :: stk) u = if u = t then v else sig L e vars stk u := by
  unfold sig
  rw [resT_eq, resT_eq]
  have hl : lookupS u (e.push t).m = if u = t then some (.st e.depth) else lookupS u e.m := by
    show lookupS u ((t, SL.st e.depth) :: e.m) = _
    rw [lookupS]
    by_cases hu : u = t
    · subst hu; rw [Nat.beq_refl, if_pos rfl, if_pos rfl]
    · rw [if_neg hu, if_neg]
      intro hb; exact hu (beq_iff.1 hb).symm
  rw [hl]
  by_cases hu : u = t
  · rw [if_pos hu, if_pos hu]
    show (G.stk (e.depth + 1 - 1 - e.depth)).ev vars (v :: stk) = v
    rw [Nat.add_sub_cancel, Nat.sub_self]; rfl
  · rw [if_neg hu, if_neg hu]
    cases hl : lookupS u e.m with
    | none => cases idxOf u L 0 <;> rfl
    | some l =>
      cases l with
      | st d =>
        have := hw.dep u d (lookupS_mem hl)
        show (G.stk (e.depth + 1 - 1 - d)).ev vars (v :: stk) = (G.stk (e.depth - 1 - d)).ev vars stk
        rw [Nat.add_sub_cancel, ev_stk, ev_stk, show e.depth - d = (e.depth - 1 - d) + 1 by omega]; rfl
      | var i => rfl
      | cst a => rfl
theorem wf_push {e : SEnv} (hw : WF L N e) {t : Nat} (ht : idxOf t L 0 = none) : WF L N (e.push t) := by
  refine ⟨fun u sl hm => ?_, fun u d hm => ?_, fun u d hm => ?_⟩
  · rcases List.mem_cons.1 hm with h | h
    · cases h; exact ht
    · exact hw.key u sl h
  · rcases List.mem_cons.1 hm with h | h
    · cases h; exact Nat.lt_succ_self _
    · exact Nat.lt_succ_of_lt (hw.dep u d h)
  · rcases List.mem_cons.1 hm with h | h
    · cases h
    · exact hw.vr u d h
theorem lookupS_map (i : Nat) : ∀ (m : List (Nat × SL)) (u : Nat), lookupS u (m.map fun p => match p.2 with | .var j => cond (Nat.beq i j) (p.1, SL.cst .undef) p | _ => p) = (lookupS u m).map fun l => match l with | .var j => cond (Nat.beq i j) (SL.cst .undef) l | _ => l
  | [], u => rfl
  | (s, l) :: r, u => by
    rw [List.map_cons]
    have two : ∀ (a b : SL) (m : List (Nat × SL)), (Nat.beq s u = true → lookupS u ((s, a) :: m) = some a) ∧ (¬ Nat.beq s u = true → lookupS u ((s, a) :: m) = lookupS u m) := by
      intro a b m
      exact ⟨fun h => by rw [lookupS, if_pos h], fun h => by rw [lookupS, if_neg h]⟩
    have one : ∃ l', (match (s, l).2 with | .var j => cond (Nat.beq i j) ((s, l).1, SL.cst .undef) (s, l) | _ => (s, l)) = (s, l') ∧ (match l with | .var j => cond (Nat.beq i j) (SL.cst .undef) l | _ => l) = l' := by
      cases l with
      | st d => exact ⟨_, rfl, rfl⟩
      | cst a => exact ⟨_, rfl, rfl⟩
      | var j => cases hb : Nat.beq i j <;> simp [hb]
    obtain ⟨l', h1, h2⟩ := one
    rw [h1]
    by_cases hs : Nat.beq s u = true
    · rw [(two l' l' _).1 hs, (two l l _).1 hs, Option.map_some, h2]
    · rw [(two l' l' _).2 hs, (two l l _).2 hs]; exact lookupS_map i r u
theorem upd_getD (x : AV) (i j : Nat) (l : List AV) : (upd x i l).getD j .undef = if i = j ∧ i < l.length then x else l.getD j .undef := by
  rw [upd_eq]
  simp only [List.getD_eq_getElem?_getD, List.getElem?_set]
  by_cases h1 : i = j
  · subst h1
    by_cases h2 : i < l.length
    · simp [h2]
    · simp [h2]
  · simp [h1]
theorem sig_var {e : SEnv} (hw : WF L N e) {t i : Nat} (ht : idxOf t L 0 = some i) (v : AV) (u : Nat) :
    (u = t → sig L (e.noVar i) (upd v i vars) stk u = v ∨ sig L (e.noVar i) (upd v i vars) stk u = .undef) ∧
    (u ≠ t → sig L (e.noVar i) (upd v i vars) stk u = sig L e vars stk u ∨ sig L (e.noVar i) (upd v i vars) stk u = .undef) := by
  unfold sig
  rw [resT_eq, resT_eq, show lookupS u (e.noVar i).m = _ from lookupS_map i e.m u]
  refine ⟨fun hu => ?_, fun hu => ?_⟩
  · subst hu
    rw [hw.none ht, ht]
    show (G.var i).ev (upd v i vars) stk = v ∨ (G.var i).ev (upd v i vars) stk = .undef
    rw [ev_var, upd_getD]
    split
    · exact .inl rfl
    · rename_i hc
      right
      simp only [List.getD_eq_getElem?_getD, List.getElem?_eq_none (show vars.length ≤ i by omega)]; rfl
  · cases hl : lookupS u e.m with
    | none =>
      cases hj : idxOf u L 0 with
      | none => exact .inl rfl
      | some j =>
        left
        show (G.var j).ev (upd v i vars) stk = (G.var j).ev vars stk
        rw [ev_var, ev_var, upd_getD, if_neg]
        rintro ⟨rfl, _⟩
        exact hu (idxOf_inj hj ht)
    | some l =>
      cases l with
      | st d => exact .inl rfl
      | cst a => exact .inl rfl
      | var j =>
        simp only [Option.map_some]
        cases hb : Nat.beq i j with
        | true => exact .inr rfl
        | false =>
          left
          show (G.var j).ev (upd v i vars) stk = (G.var j).ev vars stk
          rw [ev_var, ev_var, upd_getD, if_neg]
          rintro ⟨rfl, _⟩
          rw [Nat.beq_refl] at hb; cases hb
theorem wf_noVar {e : SEnv} (hw : WF L N e) (i : Nat) : WF L N (e.noVar i) := by
  have inv : ∀ u sl, (u, sl) ∈ (e.noVar i).m → (u, sl) ∈ e.m ∨ (sl = .cst .undef ∧ ∃ j, (u, SL.var j) ∈ e.m) := by
    intro u sl hm
    obtain ⟨⟨s, l⟩, h1, h2⟩ := List.mem_map.1 hm
    cases l with
    | st d => cases h2; exact .inl h1
    | cst a => cases h2; exact .inl h1
    | var j =>
      cases hb : Nat.beq i j with
      | true => simp only [hb, cond_true] at h2; cases h2; exact .inr ⟨rfl, j, h1⟩
      | false => simp only [hb, cond_false] at h2; cases h2; exact .inl h1
  refine ⟨fun u sl hm => ?_, fun u d hm => ?_, fun u d hm => ?_⟩
  · rcases inv u sl hm with h | ⟨_, j, h⟩
    · exact hw.key u sl h
    · exact hw.key u _ h
  · rcases inv u _ hm with h | ⟨h, _⟩
    · exact hw.dep u d h
    · cases h
  · rcases inv u _ hm with h | ⟨h, _⟩
    · exact hw.vr u d h
    · cases h
/-- an alias -/
theorem alias_inv {e e' : SEnv} {o : Oper} (h : aliasOf L e o = some e') : o.guard = none ∧ ∃ x t, o.op = .move x ∧ o.dst = some t ∧ idxOf t L 0 = none ∧
    ((∃ i, res L e x = .stk i ∧ e' = ⟨e.depth, (t, .st (e.depth - 1 - i)) :: e.m⟩) ∨ (∃ i, res L e x = .var i ∧ e' = ⟨e.depth, (t, .var i) :: e.m⟩) ∨ (∃ a, res L e x = .cst a ∧ e' = ⟨e.depth, (t, .cst a) :: e.m⟩)) := by
  unfold aliasOf at h
  split at h
  · rename_i x t hg ho hd
    have hdd : o.dst = some t ∧ idxOf t L 0 = none := by
      unfold dstOf at hd
      split at hd
      · rename_i t' ht'
        split at hd
        · cases hd
        · rename_i hi; cases hd; exact ⟨ht', hi⟩
      · cases hd
    refine ⟨hg, x, t, ho, hdd.1, hdd.2, ?_⟩
    split at h
    · rename_i i hr; cases h; exact .inl ⟨i, hr, rfl⟩
    · rename_i i hr; cases h; exact .inr (.inl ⟨i, hr, rfl⟩)
    · rename_i a hr; cases h; exact .inr (.inr ⟨a, hr, rfl⟩)
    · cases h
  · cases h
theorem resOf_stk {dep : Nat} {x : Option Nat} {l : Option SL} {i : Nat} (h : resOf dep x l = .stk i) : ∃ d, l = some (.st d) ∧ i = dep - 1 - d := by
  cases l with
  | none => cases x <;> cases h
  | some l => cases l <;> cases h; exact ⟨_, rfl, rfl⟩
theorem resOf_var {dep : Nat} {x : Option Nat} {l : Option SL} {i : Nat} (h : resOf dep x l = .var i) : l = some (.var i) ∨ l = none ∧ x = some i := by
  cases l with
  | none => cases x <;> cases h; exact .inr ⟨rfl, rfl⟩
  | some l => cases l <;> cases h; exact .inl rfl
theorem sig_alias {e e' : SEnv} (hw : WF L N e) {o : Oper} (h : aliasOf L e o = some e') (hb : ∀ x, o.op = .move x → inN N x = true) : ∃ x t, o.guard = none ∧ o.op = .move x ∧ o.dst = some t ∧ WF L N e' ∧ ∀ u, sig L e' vars stk u = if u = t then (res L e x).ev vars stk else sig L e vars stk u := by
  obtain ⟨hg, x, t, ho, hd, hi, h3⟩ := alias_inv h
  refine ⟨x, t, hg, ho, hd, ?_, ?_⟩
  · rcases h3 with ⟨i, hr, rfl⟩ | ⟨i, hr, rfl⟩ | ⟨a, hr, rfl⟩
    · refine ⟨fun u sl hm => ?_, fun u d hm => ?_, fun u d hm => ?_⟩ <;> rcases List.mem_cons.1 hm with h | h
      · cases h; exact hi
      · exact hw.key _ _ h
      · cases h
        cases x with
        | tmp s =>
          rw [show res L e (.tmp s) = resT L e s from rfl, resT_eq] at hr
          obtain ⟨d', h1, h2⟩ := resOf_stk hr
          have := hw.dep s d' (lookupS_mem h1)
          show e.depth - 1 - i < e.depth
          omega
        | const v => cases hr
        | global g => cases hr
        | func f => cases hr
      · exact hw.dep _ _ h
      · cases h
      · exact hw.vr _ _ h
    · refine ⟨fun u sl hm => ?_, fun u d hm => ?_, fun u d hm => ?_⟩ <;> rcases List.mem_cons.1 hm with h | h
      · cases h; exact hi
      · exact hw.key _ _ h
      · cases h
      · exact hw.dep _ _ h
      · cases h
        cases x with
        | tmp s =>
          rw [show res L e (.tmp s) = resT L e s from rfl, resT_eq] at hr
          rcases resOf_var hr with h1 | ⟨_, h1⟩
          · exact hw.vr s _ (lookupS_mem h1)
          · exact ⟨s, blt_iff.1 (hb _ ho), h1⟩
        | const v => cases hr
        | global g => cases hr
        | func f => cases hr
      · exact hw.vr _ _ h
    · refine ⟨fun u sl hm => ?_, fun u d hm => ?_, fun u d hm => ?_⟩ <;> rcases List.mem_cons.1 hm with h | h
      · cases h; exact hi
      · exact hw.key _ _ h
      · cases h
      · exact hw.dep _ _ h
      · cases h
      · exact hw.vr _ _ h
  · intro u
    unfold sig
    rw [resT_eq, resT_eq]
    by_cases hu : u = t
    · subst hu
      rw [if_pos rfl]
      rcases h3 with ⟨i, hr, rfl⟩ | ⟨i, hr, rfl⟩ | ⟨a, hr, rfl⟩ <;> simp only [lookupS, Nat.beq_refl, if_true, hr, resOf]
      cases x with
      | tmp s =>
        rw [show res L e (.tmp s) = resT L e s from rfl, resT_eq] at hr
        obtain ⟨d', h1, h2⟩ := resOf_stk hr
        have := hw.dep s d' (lookupS_mem h1)
        rw [show e.depth - 1 - (e.depth - 1 - i) = i by omega]
      | const v => cases hr
      | global g => cases hr
      | func f => cases hr
    · rw [if_neg hu]
      have hb : ¬ (Nat.beq t u = true) := fun hb => hu (beq_iff.1 hb).symm
      rcases h3 with ⟨i, hr, rfl⟩ | ⟨i, hr, rfl⟩ | ⟨a, hr, rfl⟩ <;> (rw [lookupS, if_neg hb])

/-- the slots hold what the environment says -/
def EnvOk (L : List Nat) (N : Nat) (e : SEnv) (ρ : Emb) (vars stk : List AV) (a : Act) : Prop := ∀ t, t < N → RV ρ (sig L e vars stk t) (a.eval (.tmp t))
theorem EnvOk.operand {N : Nat} {e : SEnv} {a : Act} (h : EnvOk L N e ρ vars stk a) {x : Operand} (hx : inN N x = true) : RV ρ ((res L e x).ev vars stk) (a.eval x) := by
  cases x with
  | tmp t => exact h t (blt_iff.1 hx)
  | const v => exact conv_rv v
  | global g => exact .undef _
  | func f => exact .fn (.func f) [] [] #[] #[] rfl rfl (by simp) (by simp)
theorem EnvOk.mono {N : Nat} {e : SEnv} {a : Act} {ρ' : Emb} (h : EnvOk L N e ρ vars stk a) (hle : ρ.le ρ') : EnvOk L N e ρ' vars stk a := fun t ht => (h t ht).mono hle
theorem put_eval (a : Act) (t : Nat) (y : Value) (ht : t < a.tmps.size) (u : Nat) : (a.put (some t) y).eval (.tmp u) = if u = t then y else a.eval (.tmp u) := by
  show (a.tmps.setIfInBounds t y).getD u undef = _
  simp only [Array.getD_eq_getD_getElem?]
  by_cases hu : u = t
  · subst hu; simp [ht]
  · rw [if_neg hu, Array.getElem?_setIfInBounds_ne (fun e => hu e.symm)]
    show _ = a.tmps.getD u undef
    simp only [Array.getD_eq_getD_getElem?]
theorem put_size (a : Act) (d : Option Tmp) (y : Value) : (a.put d y).tmps.size = a.tmps.size := by
  cases d with
  | none => rfl
  | some t => simp [Act.put]
/-- variables and stack behind an operation -/
noncomputable def Dst.vs : Dst → AV → List AV → List AV
  | .var i, v, vars => upd v i vars
  | _, _, vars => vars
noncomputable def Dst.ss : Dst → AV → List AV → List AV
  | .push _, v, stk => v :: stk
  | _, _, stk => stk
theorem dst_k (d : Dst) (c : Clos) (rec : Rec) (v : AV) : d.k c rec v vars stk h = c rec (d.vs v vars) (d.ss v stk) h := by cases d <;> rfl
/-- what the environment says behind an operation -/
theorem sig_after {e : SEnv} (hw : WF L N e) (o : Option Tmp) (v : AV) (u : Nat) :
    (o = some u → sig L (e.after (dstOf L o)) ((dstOf L o).vs v vars) ((dstOf L o).ss v stk) u = v ∨ sig L (e.after (dstOf L o)) ((dstOf L o).vs v vars) ((dstOf L o).ss v stk) u = .undef) ∧
    (o ≠ some u → sig L (e.after (dstOf L o)) ((dstOf L o).vs v vars) ((dstOf L o).ss v stk) u = sig L e vars stk u ∨ sig L (e.after (dstOf L o)) ((dstOf L o).vs v vars) ((dstOf L o).ss v stk) u = .undef) := by
  cases o with
  | none =>
    constructor
    · intro h; cases h
    · intro _; exact .inl rfl
  | some t =>
    cases hi : idxOf t L 0 with
    | none =>
      rw [show dstOf L (some t) = .push t by simp only [dstOf, hi]]
      have := sig_push (vars := vars) (stk := stk) hw hi v u
      refine ⟨fun h => ?_, fun h => ?_⟩
      · cases h; left; exact this.trans (if_pos rfl)
      · left; exact this.trans (if_neg fun e => h (by rw [e]))
    | some i =>
      rw [show dstOf L (some t) = .var i by simp only [dstOf, hi]]
      have := sig_var (vars := vars) (stk := stk) hw hi v u
      exact ⟨fun h => this.1 (by cases h; rfl), fun h => this.2 fun e => h (by rw [e])⟩
theorem wf_after {e : SEnv} (hw : WF L N e) (o : Option Tmp) : WF L N (e.after (dstOf L o)) := by
  cases o with
  | none => exact hw
  | some t =>
    cases hi : idxOf t L 0 with
    | none => rw [show dstOf L (some t) = .push t by simp only [dstOf, hi]]; exact wf_push hw hi
    | some i => rw [show dstOf L (some t) = .var i by simp only [dstOf, hi]]; exact wf_noVar hw i
theorem EnvOk.put {e : SEnv} (hw : WF L N e) {a : Act} (he : EnvOk L N e ρ vars stk a) (o : Option Tmp) {v : AV} {y : Value} (hv : RV ρ v y) (hd : ∀ t, o = some t → t < a.tmps.size) :
    EnvOk L N (e.after (dstOf L o)) ρ ((dstOf L o).vs v vars) ((dstOf L o).ss v stk) (a.put o y) := by
  intro u hu
  have hs := sig_after (vars := vars) (stk := stk) hw o v u
  by_cases ho : o = some u
  · subst ho
    rw [put_eval a u y (hd u rfl), if_pos rfl]
    rcases hs.1 rfl with h | h <;> rw [h]
    · exact hv
    · exact .undef _
  · have : (a.put o y).eval (.tmp u) = a.eval (.tmp u) := by
      cases o with
      | none => rfl
      | some t => rw [put_eval a t y (hd t rfl), if_neg fun e => ho (by rw [e])]
    rw [this]
    rcases hs.2 ho with h | h <;> rw [h]
    · exact he u hu
    · exact .undef _
theorem EnvOk.alias {e e' : SEnv} (hw : WF L N e) {a : Act} (he : EnvOk L N e ρ vars stk a) {o : Oper} (h : aliasOf L e o = some e') {x : Operand} (hx : o.op = .move x) (hb : inN N x = true) (hd : ∀ t, o.dst = some t → t < a.tmps.size) :
    EnvOk L N e' ρ vars stk (a.put o.dst (a.eval x)) := by
  obtain ⟨x', t, hg, ho, hdst, hwf, hsig⟩ := sig_alias (vars := vars) (stk := stk) hw h (fun y hy => by rw [hx] at hy; cases hy; exact hb)
  rw [hx] at ho; cases ho
  intro u hu
  rw [hdst, put_eval a t _ (hd t hdst), hsig u]
  split
  · exact he.operand hb
  · exact he u hu
theorem EnvOk.env0 {e : SEnv} (hw : WF L N e) {a : Act} (he : EnvOk L N e ρ vars stk a) (stk' : List AV) : EnvOk L N env0 ρ vars stk' a := by
  intro u hu
  have h := he u hu
  unfold sig at h ⊢
  rw [resT_eq] at h ⊢
  show RV ρ ((resOf 0 (idxOf u L 0) none).ev vars stk') _
  cases hi : idxOf u L 0 with
  | none => exact .undef _
  | some i =>
    rw [hw.none hi, hi] at h
    exact h
/-- a change of a variable that is no slot of the function -/
theorem sig_other {e : SEnv} (hw : WF L N e) {D i : Nat} (hD : idxOf D L 0 = some i) (hND : N ≤ D) (v : AV) {t : Nat} (ht : t < N) : sig L e (upd v i vars) stk t = sig L e vars stk t := by
  have go : ∀ j, (∃ u, u < N ∧ idxOf u L 0 = some j) → (G.var j).ev (upd v i vars) stk = (G.var j).ev vars stk := by
    rintro j ⟨u, hu, hj⟩
    rw [ev_var, ev_var, upd_getD, if_neg]
    rintro ⟨rfl, _⟩
    have := idxOf_inj hj hD
    omega
  unfold sig
  rw [resT_eq]
  cases hl : lookupS t e.m with
  | none =>
    cases hi : idxOf t L 0 with
    | none => rfl
    | some j => exact go j ⟨t, ht, hi⟩
  | some l =>
    cases l with
    | st d => rfl
    | cst a => rfl
    | var j => exact go j (hw.vr t j (lookupS_mem hl))
end
end Go.Ev
namespace Go.Ev
set_option autoImplicit false
variable [Rounds]
open Go

structure ArgsRel (ρ : Emb) (args : List AV) (vs : Array Value) : Prop where
  len : args.length = vs.size
  rel : ∀ (i : Nat) (x : AV) (y : Value), args[i]? = some x → vs[i]? = some y → RV ρ x y
/-- what comes of a call, be it carried out at once, entered, or a row -/
def NextPost (P : Program) (res : Result Next) (R : Ending → World → Prop) : Prop :=
  match res with
  | .ok (.value v) w' => R (.returned v) w'
  | .ok (.enter f args) w' => Calls P f args w' R
  | .ok (.row row args) w' => Rows P row args w' fun v w'' => R (.returned v) w''
  | _ => False
def CPost (ρ : Emb) (h : AH) (w : World) (r : CR) : Ending → World → Prop
  | .returned y, w' => ∃ v h' ρ', r = .ret v h' ∧ Stp ρ h w ρ' h' w' ∧ RV ρ' v y
  | .panicked chain, w' => ∃ v h' ρ' y, r = .pan v h' ∧ chain = [{ v := y, recovered := false }] ∧ Stp ρ h w ρ' h' w' ∧ RV ρ' v y
  | .outgrown, _ => False
/-- what comes of a call of a loop's body -/
def YPost (P : Program) (vs : Array Value) (w : World) (R : Ending → World → Prop) : Prop :=
  ∃ (l : Nat) (xs : Array Value) (fn : FuncId) (tmps : Array Value) (assign body : Code), vs = #[.func (.yield l) #[] #[]] ++ xs ∧ (Instr.yield l xs).run P w = .ok (.round l fn tmps assign body) w ∧ RoundIn Fence.wide 0 P l fn tmps assign body w R
/-- what the evaluator says of calls holds -/
def RecOk (P : Program) (rec : Rec) : Prop :=
  ∀ (f : FuncId) (args : List AV) (h : AH), (∀ n, rec f args h ≠ .fail n) → ∀ (ρ : Emb) (w : World) (vs : Array Value), Rel ρ h w → ArgsRel ρ args vs →
    (f ≠ baseY → NextPost P ((callFunc f vs).run P w) (CPost ρ h w (rec f args h))) ∧ (f = baseY → YPost P vs w (CPost ρ h w (rec f args h)))
theorem noY_inv {f : Nat} {r : R} (hn : NF (noY f r)) : f ≠ baseY ∧ noY f r = r := by
  unfold noY at hn ⊢
  cases hb : Nat.beq f baseY with
  | true => rw [hb] at hn; exact absurd rfl (hn 157)
  | false => exact ⟨fun e => (by rw [e] at hb; cases hb), rfl⟩

section
variable {P : Program} {ρ : Emb} {h : AH} {w : World} {k : K} {vars stk : List AV} {L : List Nat}
theorem upon_call {o : Oper} {a : Act} {K : Act → World → Prop} {Q : Exit → Act → World → Prop} {cr : CR} {res : Result Next} (hp : NextPost P res (CPost ρ h w cr))
    (hk : ∀ v h' ρ' w' y, cr = .ret v h' → Stp ρ h w ρ' h' w' → RV ρ' v y → K (a.put o.dst y) w')
    (hq : ∀ v h' ρ' w' y, cr = .pan v h' → Stp ρ h w ρ' h' w' → RV ρ' v y → Q (.panic [{ v := y, recovered := false }]) a w') : o.upon P a K Q res := by
  cases res with
  | halt x w' => exact hp.elim
  | ok n w' =>
    cases n with
    | value v => obtain ⟨x, h', ρ', h1, h2, h3⟩ := hp; exact hk x h' ρ' w' v h1 h2 h3
    | enter f args =>
      refine Calls.mono (show Calls P f args w' _ from hp) fun e w'' he => ?_
      cases e with
      | returned y => obtain ⟨x, h', ρ', h1, h2, h3⟩ := he; exact hk x h' ρ' w'' y h1 h2 h3
      | panicked chain => obtain ⟨x, h', ρ', y, h1, rfl, h2, h3⟩ := he; exact hq x h' ρ' w'' y h1 h2 h3
      | outgrown => exact he.elim
    | row row args =>
      refine Rows.mono (show Rows P row args w' _ from hp) fun y w'' he => ?_
      obtain ⟨x, h', ρ', h1, h2, h3⟩ := he; exact hk x h' ρ' w'' y h1 h2 h3
    | _ => exact hp.elim
theorem afterCall_inv {cr : CR} (hn : NF (afterCall k vars stk cr)) : (∀ n, cr ≠ .fail n) ∧ ((∃ v h', cr = .ret v h' ∧ afterCall k vars stk cr = k v vars stk h') ∨ ∃ v h', cr = .pan v h' ∧ afterCall k vars stk cr = .pan v vars h') := by
  cases cr with
  | ret v h' => exact ⟨(fun n e => by cases e), .inl ⟨v, h', rfl, rfl⟩⟩
  | pan v h' => exact ⟨(fun n e => by cases e), .inr ⟨v, h', rfl, rfl⟩⟩
  | fail n => exact absurd rfl (hn n)
theorem evs_length (gs : List G) : (evs gs vars stk).length = gs.length := by rw [evs_map]; simp
theorem args_of {L : List Nat} {e : SEnv} {ev : Operand → Value} (xs : Array Operand) (h : ∀ y ∈ xs, RV ρ ((res L e y).ev vars stk) (ev y)) : ArgsRel ρ (evs (xs.toList.map (res L e)) vars stk) (xs.map ev) := by
  obtain ⟨h1, h2⟩ := list_of (ρ := ρ) (vars := vars) (stk := stk) (L := L) (e := e) (ev := ev) xs h
  refine ⟨by rw [evs_length, h1], fun i x y hx hy => ?_⟩
  rw [evs_map, List.getElem?_map] at hx
  cases hg : (xs.toList.map (res L e))[i]? with
  | none => rw [hg] at hx; cases hx
  | some g => rw [hg] at hx; cases hx; exact h2 i g y hg hy
theorem ArgsRel.append {a b : List AV} {A B : Array Value} (h1 : ArgsRel ρ a A) (h2 : ArgsRel ρ b B) : ArgsRel ρ (a ++ b) (A ++ B) := by
  refine ⟨by simp [h1.len, h2.len], fun i x y hx hy => ?_⟩
  rcases Nat.lt_or_ge i a.length with hlt | hge
  · rw [List.getElem?_append_left hlt] at hx
    rw [Array.getElem?_append_left (by rw [← h1.len]; exact hlt)] at hy
    exact h1.rel i x y hx hy
  · rw [List.getElem?_append_right hge] at hx
    rw [Array.getElem?_append_right (by rw [← h1.len]; exact hge), ← h1.len] at hy
    exact h2.rel _ x y hx hy
theorem ArgsRel.one {x : AV} {y : Value} (h : RV ρ x y) : ArgsRel ρ [x] #[y] := by
  refine ⟨rfl, fun i x' y' hx hy => ?_⟩
  cases i with
  | zero => cases hx; cases hy; exact h
  | succ i => simp at hx

theorem pickM_inv {f : FuncId → CR} {t : Nat} : ∀ {tbl : List (Nat × FuncId)}, (∀ n, pickM f t tbl ≠ .fail n) → ∃ g, (t, g) ∈ tbl ∧ pickM f t tbl = f g
  | [], hn => absurd rfl (hn 74)
  | p :: r, hn => by
    have e : pickM f t (p :: r) = @Bool.rec (fun _ => CR) (pickM f t r) (f p.2) (Nat.beq p.1 t) := rfl
    cases hb : Nat.beq p.1 t with
    | true =>
      have := beq_iff.1 hb
      refine ⟨p.2, by rw [← this]; exact List.mem_cons_self, by rw [e, hb]⟩
    | false =>
      rw [hb] at e
      obtain ⟨g, h1, h2⟩ := pickM_inv (f := f) (t := t) (tbl := r) (fun n hh => hn n (e.trans hh))
      exact ⟨g, List.mem_cons_of_mem _ h1, e.trans h2⟩
theorem method_run {name : String} {t : Nat} {g : FuncId} (hm : (t, g) ∈ methodsOf P name) (v : Value) (n : Nat) : (method (n + 1) t v name).run P w = .ok (g, v) w := by
  unfold methodsOf at hm
  obtain ⟨t', _, h2⟩ := List.mem_filterMap.1 hm
  split at h2
  · rename_i i hi
    split at h2
    · rename_i m hfind
      split at h2
      · rename_i f p hsz hfn
        cases hc0 : and (not (Nat.beq f baseY)) (and (p == isPtrT P t') (P.underlying t').isSome) with
        | false => rw [hc0] at h2; cases h2
        | true =>
          rw [hc0] at h2
          cases h2
          have hc := (Bool.and_eq_true_iff.1 hc0).2
          have hpath : m.path.toList = [] := by
            have : m.path.size = 0 := hsz
            exact List.length_eq_zero_iff.1 (by rw [Array.length_toList]; exact this)
          have hc := Bool.and_eq_true_iff.1 hc
          have hp := beq_iff_eq.1 hc.1
          unfold isPtrT at hp
          have hfind' : i.methods.find? (fun x => x.name == name) = some m := hfind
          cases hu : P.underlying t with
          | none => rw [hu] at hc; exact absurd hc.2 (by simp)
          | some d =>
            rw [hu] at hp
            simp only [method, typeInfo, Sem.run_bind, run_program, hi, Sem.run_pure, Result.andThen_ok, hfind', hpath, follow, hfn, receiverAt, underlying, hu]
            cases d <;> simp only at hp <;> subst hp <;> simp [Place.get]
      · cases h2
    · cases h2
  · cases h2

theorem method_ne {name : String} {t : Nat} {g : FuncId} (hm : (t, g) ∈ methodsOf P name) : g ≠ baseY := by
  unfold methodsOf at hm
  obtain ⟨t', _, h2⟩ := List.mem_filterMap.1 hm
  split at h2
  · split at h2
    · split at h2
      · rename_i f p hsz hfn
        cases hc0 : and (not (Nat.beq f baseY)) (and (p == isPtrT P t') (P.underlying t').isSome) with
        | false => rw [hc0] at h2; cases h2
        | true =>
          rw [hc0] at h2
          cases h2
          have h3 := (Bool.and_eq_true_iff.1 hc0).1
          intro e
          rw [e] at h3
          cases h3
      · cases h2
    · cases h2
  · cases h2

theorem cOp_kind {e : SEnv} {op : Op} {c : COp} (hc : cOp P L e op = c) (hp : plainC c = false) (hs : stepC c = true) :
    (∃ x, op = .panic x ∧ c = .panic (res L e x)) ∨ (∃ (cl : Call) (f : FuncId), op = .call cl ∧ cl.callee = .value (.func f) ∧ f ≠ baseY ∧ c = .callS f (cl.args.toList.map (res L e))) ∨
    (∃ (cl : Call) (x : Operand), op = .call cl ∧ cl.callee = .value x ∧ c = .callV (res L e x) (cl.args.toList.map (res L e))) ∨
    (∃ (cl : Call) (x : Operand) (m : String), op = .call cl ∧ cl.callee = .invoke x m ∧ c = .callM (methodsOf P m) (res L e x) (cl.args.toList.map (res L e))) := by
  cases op <;> simp only [cOp, cBin, cTuple] at hc
  case panic x => exact .inl ⟨x, rfl, hc.symm⟩
  case call cl =>
    split at hc
    · rename_i f hf
      rcases mkCallS_or f (cl.args.toList.map (res L e)) with h1 | ⟨h0, h1⟩
      · rw [h1] at hc; subst hc; cases hs
      · exact .inr (.inl ⟨cl, f, rfl, hf, h0, (h1.symm.trans hc).symm⟩)
    · rename_i x _ hx; exact .inr (.inr (.inl ⟨cl, x, rfl, hx, hc.symm⟩))
    · rename_i x m hx; exact .inr (.inr (.inr ⟨cl, x, m, rfl, hx, hc.symm⟩))
    · split at hc
      · rcases cBuiltin_kind hc with h1 | ⟨n, rfl⟩
        · rw [h1] at hp; cases hp
        · cases hs
      · subst hc; cases hs
  case makeMap t rs => cases rs <;> simp only [] at hc <;> (subst hc; first | (cases hs; done) | (cases hp; done))
  case next it s => cases s <;> simp only [cond_true, cond_false] at hc <;> (subst hc; first | (cases hs; done) | (cases hp; done))
  all_goals (repeat' split at hc)
  all_goals (subst hc; first | (cases hs; done) | (cases hp; done))
theorem arg_mem {cl : Call} {y : Operand} (hy : y ∈ cl.args) : y ∈ (Op.call cl).operands := by
  show y ∈ cl.operands
  unfold Call.operands
  exact Array.mem_append.2 (.inr hy)
theorem extract_cons (v : Value) (xs : Array Value) : (#[v] ++ xs).extract 1 (#[v] ++ xs).size = xs := by
  apply Array.ext'
  simp
theorem first_cons (v : Value) (xs : Array Value) : (#[v] ++ xs)[0]? = some v := by
  rw [Array.getElem?_append_left (by simp)]; rfl
theorem oper_ok {rec : Rec} (hrec : RecOk P rec) (r : Rel ρ h w) {e : SEnv} {a : Act} (o : Oper) (hev : ∀ x ∈ o.op.operands, RV ρ ((res L e x).ev vars stk) (a.eval x)) {c : COp} (hc : cOp P L e o.op = c) (hs : stepC c = true) (hn : NF (runOp c rec k vars stk h))
    {K : Act → World → Prop} {Q : Exit → Act → World → Prop}
    (hk : ∀ v h' ρ' w' y, runOp c rec k vars stk h = k v vars stk h' → Stp ρ h w ρ' h' w' → RV ρ' v y → K (a.put o.dst y) w')
    (hq : ∀ v h' ρ' w' y, runOp c rec k vars stk h = .pan v vars h' → Stp ρ h w ρ' h' w' → RV ρ' v y → Q (.panic [{ v := y, recovered := false }]) a w') :
    o.wp P a w K Q := by
  unfold Oper.wp
  by_cases hp : plainC c = true
  · obtain ⟨v, h', ρ', w', n, h1, h2, h3, h4⟩ := cOp_ok (k := k) (rec := rec) L e r o a.eval hev hc hp hn
    rw [h3]
    rcases h4 with ⟨y, rfl, hv⟩ | ⟨rfl, rfl⟩
    · exact hk v h' ρ' w' y h1 h2 hv
    · exact hk .undef h' ρ' w' undef h1 h2 (.undef _)
  · rcases cOp_kind hc (by simpa using hp) hs with ⟨x, ho, rfl⟩ | ⟨cl, f, ho, hcal, hne, rfl⟩ | ⟨cl, x, ho, hcal, rfl⟩ | ⟨cl, x, m, ho, hcal, rfl⟩
    · have hx := hev x (by rw [ho]; simp [Op.operands])
      change NF (panicC (res L e x) vars stk h) at hn
      unfold panicC at hn
      split at hn
      · rename_i t v hv
        rw [hv] at hx
        generalize hX : a.eval x = X at hx
        have hrun : (execOp a.eval o).run P w = .halt (.panic X) w := by
          cases hx with
          | iface _ _ y hy =>
            unfold execOp
            rw [ho]
            simp only [Sem.run_bind, hX, Instr.panic, goPanic]
            rfl
        rw [hrun]
        refine hq (.iface t v) h ρ w X ?_ (Stp.refl r) hx
        show panicC (res L e x) vars stk h = _
        unfold panicC; simp only [hv]
      · exact absurd rfl (hn _)
    · have ha := args_of (ρ := ρ) (vars := vars) (stk := stk) (L := L) (e := e) (ev := a.eval) cl.args (fun y hy => hev y (by rw [ho]; exact arg_mem hy))
      obtain ⟨i1, i2⟩ := afterCall_inv (k := k) (vars := vars) (stk := stk) hn
      have hrun : (execOp a.eval o).run P w = (callFunc f (cl.args.map a.eval)).run P w := by
        unfold execOp
        rw [ho]
        simp only [resolve, hcal, Act.eval, Deferred.ofValue, Sem.run_bind, Sem.run_pure, Result.andThen_ok, invoke, Array.append_empty, Array.empty_append]
      rw [hrun]
      have := (hrec f _ h i1 ρ w _ r ha).1 hne
      rcases i2 with ⟨v, h', h1, h2⟩ | ⟨v, h', h1, h2⟩
      · exact upon_call this (fun v' h'' ρ' w' y e1 => by rw [h1] at e1; cases e1; exact hk v h' ρ' w' y h2) (fun v' h'' ρ' w' y e1 => by rw [h1] at e1; cases e1)
      · exact upon_call this (fun v' h'' ρ' w' y e1 => by rw [h1] at e1; cases e1) (fun v' h'' ρ' w' y e1 => by rw [h1] at e1; cases e1; exact hq v h' ρ' w' y h2)
    · have ha := args_of (ρ := ρ) (vars := vars) (stk := stk) (L := L) (e := e) (ev := a.eval) cl.args (fun y hy => hev y (by rw [ho]; exact arg_mem hy))
      have hx := hev x (by rw [ho]; show x ∈ cl.operands; unfold Call.operands; rw [hcal]; simp)
      change NF (onFn ((res L e x).ev vars stk) (callFn (cl.args.toList.map (res L e)) rec) k vars stk h) at hn
      obtain ⟨g, fi, ca, hv⟩ := onFn_inv hn
      rw [hv] at hx hn
      change NF (callFn (cl.args.toList.map (res L e)) rec g fi ca k vars stk h) at hn
      have hrunE : runOp (.callV (res L e x) (cl.args.toList.map (res L e))) rec k vars stk h = callFn (cl.args.toList.map (res L e)) rec g fi ca k vars stk h := by
        show onFn ((res L e x).ev vars stk) (callFn (cl.args.toList.map (res L e)) rec) k vars stk h = _
        rw [hv]; rfl
      generalize hX : a.eval x = X at hx
      cases hx with
      | fn _ _ _ A C hA hC h1 h2 =>
        cases g with
        | func f =>
          obtain ⟨hne, hnY⟩ := noY_inv (show NF (noY f (afterCall k vars stk (rec f (app (app ca (evs (cl.args.toList.map (res L e)) vars stk)) fi) h))) from hn)
          have hrunE := hrunE.trans hnY
          obtain ⟨i1, i2⟩ := afterCall_inv (k := k) (vars := vars) (stk := stk) (show NF (afterCall k vars stk (rec f (app (app ca (evs (cl.args.toList.map (res L e)) vars stk)) fi) h)) from (by rw [← hnY]; exact hn))
          have hrun : (execOp a.eval o).run P w = (callFunc f ((A ++ cl.args.map a.eval) ++ C)).run P w := by
            unfold execOp
            rw [ho]
            simp only [resolve, hcal, hX, Deferred.ofValue, Sem.run_bind, Sem.run_pure, Result.andThen_ok, invoke]
          rw [hrun]
          have ha2 : ArgsRel ρ (app (app ca (evs (cl.args.toList.map (res L e)) vars stk)) fi) ((A ++ cl.args.map a.eval) ++ C) := by
            rw [app_eq, app_eq, ← List.append_assoc]
            exact ((⟨hA, h1⟩ : ArgsRel ρ fi A).append ha).append ⟨hC, h2⟩
          have := (hrec f _ h i1 ρ w _ r ha2).1 hne
          rcases i2 with ⟨v, h', h1, h2⟩ | ⟨v, h', h1, h2⟩
          · exact upon_call this (fun v' h'' ρ' w' y e1 => by rw [h1] at e1; cases e1; exact hk v h' ρ' w' y (hrunE.trans h2)) (fun v' h'' ρ' w' y e1 => by rw [h1] at e1; cases e1)
          · exact upon_call this (fun v' h'' ρ' w' y e1 => by rw [h1] at e1; cases e1) (fun v' h'' ρ' w' y e1 => by rw [h1] at e1; cases e1; exact hq v h' ρ' w' y (hrunE.trans h2))
        | _ => exact absurd rfl (hn _)
    · have ha := args_of (ρ := ρ) (vars := vars) (stk := stk) (L := L) (e := e) (ev := a.eval) cl.args (fun y hy => hev y (by rw [ho]; exact arg_mem hy))
      have hx := hev x (by rw [ho]; show x ∈ cl.operands; unfold Call.operands; rw [hcal]; simp)
      change NF (onIface ((res L e x).ev vars stk) (callM2 (methodsOf P m) (cl.args.toList.map (res L e)) rec) k vars stk h) at hn
      obtain ⟨t, v0, hv⟩ := onIface_inv hn
      rw [hv] at hx hn
      change NF (callM2 (methodsOf P m) (cl.args.toList.map (res L e)) rec t v0 k vars stk h) at hn
      have hrunE : runOp (.callM (methodsOf P m) (res L e x) (cl.args.toList.map (res L e))) rec k vars stk h = callM2 (methodsOf P m) (cl.args.toList.map (res L e)) rec t v0 k vars stk h := by
        show onIface ((res L e x).ev vars stk) (callM2 (methodsOf P m) (cl.args.toList.map (res L e)) rec) k vars stk h = _
        rw [hv]; rfl
      unfold callM2 at hn hrunE
      obtain ⟨i1, i2⟩ := afterCall_inv (k := k) (vars := vars) (stk := stk) hn
      obtain ⟨g, g1, g2⟩ := pickM_inv i1
      rw [g2] at i1 i2
      generalize hX : a.eval x = X at hx
      cases hx with
      | iface _ _ y hy =>
        have hrun : (execOp a.eval o).run P w = (callFunc g (#[y] ++ cl.args.map a.eval)).run P w := by
          unfold execOp
          rw [ho]
          have hm : ∀ n, (method (n + 1) t y m).run P w = .ok (g, y) w := fun n => method_run g1 y n
          have hex := extract_cons (.iface t y) (cl.args.map a.eval)
          have h0 := first_cons (.iface t y) (cl.args.map a.eval)
          simp only [resolve, hcal, hX, Sem.run_bind, Sem.run_pure, Result.andThen_ok, invoke, h0, hex, callMethod, run_program, Made.depth]
          rw [hm]
          rfl
        rw [hrun]
        have ha2 : ArgsRel ρ (v0 :: evs (cl.args.toList.map (res L e)) vars stk) (#[y] ++ cl.args.map a.eval) := (ArgsRel.one hy).append ha
        have := (hrec g _ h i1 ρ w _ r ha2).1 (method_ne g1)
        rcases i2 with ⟨v, h', h1, h2⟩ | ⟨v, h', h1, h2⟩
        · exact upon_call this (fun v' h'' ρ' w' y e1 => by rw [h1] at e1; cases e1; exact hk v h' ρ' w' y (by rw [hrunE, g2]; exact h2)) (fun v' h'' ρ' w' y e1 => by rw [h1] at e1; cases e1)
        · exact upon_call this (fun v' h'' ρ' w' y e1 => by rw [h1] at e1; cases e1) (fun v' h'' ρ' w' y e1 => by rw [h1] at e1; cases e1; exact hq v h' ρ' w' y (by rw [hrunE, g2]; exact h2))
end
end Go.Ev
namespace Go.Ev
set_option autoImplicit false
variable [Rounds]
open Go

/-- slots within bounds -/
def opIn (N : Nat) (o : Oper) : Bool := o.op.operands.toList.all (inN N) && (match o.dst with | some t => Nat.blt t N | none => true)
theorem opIn_ops {N : Nat} {o : Oper} (h : opIn N o = true) : ∀ x ∈ o.op.operands, inN N x = true := by
  have := (Bool.and_eq_true_iff.1 h).1
  rw [List.all_eq_true] at this
  exact fun x hx => this x (Array.mem_toList_iff.2 hx)
theorem opIn_dst {N : Nat} {o : Oper} (h : opIn N o = true) : ∀ t, o.dst = some t → t < N := by
  have := (Bool.and_eq_true_iff.1 h).2
  intro t ht
  rw [ht] at this
  exact blt_iff.1 this
/-- the deferred call that waits, if any -/
def DefOk (L : List Nat) (ρ : Emb) (vars : List AV) (a : Act) : Prop :=
  match idxOf slotD L 0 with
  | none => a.defers = []
  | some i => i < vars.length ∧ ((vars.getD i .undef = .undef ∧ a.defers = []) ∨
      (∃ f fa c A C, vars.getD i .undef = .fn (.func f) fa c ∧ a.defers = [{ target := .fn (.func f) C, args := A }] ∧ ArgsRel ρ fa A ∧ ArgsRel ρ c C) ∨
      ∃ b l, vars.getD i .undef = .tok b ∧ ρ b = some l ∧ a.defers = [{ target := .collected l.cb, args := #[] }])
structure St (L : List Nat) (N : Nat) (ρ : Emb) (e : SEnv) (vars stk : List AV) (a : Act) : Prop where
  env : EnvOk L N e ρ vars stk a
  size : a.tmps.size = N
  dfr : DefOk L ρ vars a

section
variable {P : Program} {ρ : Emb} {h : AH} {w : World} {k : K} {vars stk : List AV} {L : List Nat} {N : Nat}
theorem ArgsRel.mono {ρ' : Emb} (hle : ρ.le ρ') {l : List AV} {A : Array Value} (a : ArgsRel ρ l A) : ArgsRel ρ' l A := ⟨a.len, fun i x y hx hy => (a.rel i x y hx hy).mono hle⟩
theorem DefOk.mono {ρ' : Emb} (hle : ρ.le ρ') {a : Act} (d : DefOk L ρ vars a) : DefOk L ρ' vars a := by
  unfold DefOk at d ⊢
  split
  · rename_i hi; rw [hi] at d; exact d
  · rename_i i hi
    rw [hi] at d
    refine ⟨d.1, ?_⟩
    rcases d.2 with d | ⟨f, fa, c, A, C, d1, d2, d3, d4⟩ | ⟨b, l, d1, d2, d3⟩
    · exact .inl d
    · exact .inr (.inl ⟨f, fa, c, A, C, d1, d2, d3.mono hle, d4.mono hle⟩)
    · exact .inr (.inr ⟨b, l, d1, hle _ _ d2, d3⟩)
theorem DefOk.put' (hN : N ≤ slotD) {a a' : Act} (hd : a'.defers = a.defers) (d : DefOk L ρ vars a) (o : Option Tmp) (ho : ∀ t, o = some t → t < N) (v : AV) : DefOk L ρ ((dstOf L o).vs v vars) a' := by
  have hv : ∀ i, idxOf slotD L 0 = some i → ((dstOf L o).vs v vars).getD i .undef = vars.getD i .undef := by
    intro i hi
    cases o with
    | none => rfl
    | some t =>
      cases ht : idxOf t L 0 with
      | none => rw [show dstOf L (some t) = .push t by simp only [dstOf, ht]]; rfl
      | some j =>
        rw [show dstOf L (some t) = .var j by simp only [dstOf, ht]]
        show (upd v j vars).getD i .undef = _
        rw [upd_getD, if_neg]
        rintro ⟨rfl, _⟩
        have h1 := idxOf_inj ht hi
        have h2 := ho t rfl
        rw [h1] at h2
        exact absurd (Nat.lt_of_lt_of_le h2 hN) (Nat.lt_irrefl _)
  unfold DefOk at d ⊢
  split
  · rename_i hi; rw [hi] at d; rw [hd]; exact d
  · rename_i i hi
    rw [hi] at d
    simp only [hv i hi, hd]
    have hl : ((dstOf L o).vs v vars).length = vars.length := by cases dstOf L o <;> first | rfl | (show (upd v _ vars).length = _; rw [upd_eq, List.length_set])
    rw [hl]
    exact d
theorem DefOk.put (hN : N ≤ slotD) {a : Act} (d : DefOk L ρ vars a) (o : Option Tmp) (ho : ∀ t, o = some t → t < N) (v : AV) (y : Value) : DefOk L ρ ((dstOf L o).vs v vars) (a.put o y) := by
  have hd : (a.put o y).defers = a.defers := by cases o <;> rfl
  have hv : ∀ i, idxOf slotD L 0 = some i → ((dstOf L o).vs v vars).getD i .undef = vars.getD i .undef := by
    intro i hi
    cases o with
    | none => rfl
    | some t =>
      cases ht : idxOf t L 0 with
      | none => rw [show dstOf L (some t) = .push t by simp only [dstOf, ht]]; rfl
      | some j =>
        rw [show dstOf L (some t) = .var j by simp only [dstOf, ht]]
        show (upd v j vars).getD i .undef = _
        rw [upd_getD, if_neg]
        rintro ⟨rfl, _⟩
        have h1 := idxOf_inj ht hi
        have h2 := ho t rfl
        rw [h1] at h2
        exact absurd (Nat.lt_of_lt_of_le h2 hN) (Nat.lt_irrefl _)
  unfold DefOk at d ⊢
  split
  · rename_i hi; rw [hi] at d; rw [hd]; exact d
  · rename_i i hi
    rw [hi] at d
    simp only [hv i hi, hd]
    have hl : ((dstOf L o).vs v vars).length = vars.length := by cases dstOf L o <;> first | rfl | (show (upd v _ vars).length = _; rw [upd_eq, List.length_set])
    rw [hl]
    exact d
theorem St.put (hN : N ≤ slotD) {e : SEnv} (hw : WF L N e) {a : Act} (s : St L N ρ e vars stk a) {ρ' : Emb} (hle : ρ.le ρ') {o : Oper} (hin : opIn N o = true) {v : AV} {y : Value} (hv : RV ρ' v y) :
    St L N ρ' (e.after (dstOf L o.dst)) ((dstOf L o.dst).vs v vars) ((dstOf L o.dst).ss v stk) (a.put o.dst y) :=
  ⟨(s.env.mono hle).put hw o.dst hv fun t ht => by rw [s.size]; exact opIn_dst hin t ht, by rw [put_size]; exact s.size, (s.dfr.mono hle).put hN o.dst (opIn_dst hin) v y⟩

theorem cOp_step {e : SEnv} {op : Op} {c : COp} (hc : cOp P L e op = c) : stepC c = true ∨ (∃ n, c = .bad n) ∨ ∃ (cl : Call) (x : Operand) (i : Nat), op = .defer cl ∧ cl.callee = .value x ∧ cl.args.size = 0 ∧ idxOf slotD L 0 = some i ∧ c = .defer i (res L e x) := by
  cases op <;> simp only [cOp, cBin, cTuple] at hc
  case defer cl =>
    split at hc
    · rename_i x i h1 h2 h3; exact .inr (.inr ⟨cl, x, i, rfl, h1, h2, h3, hc.symm⟩)
    · exact .inr (.inl ⟨_, hc.symm⟩)
  case makeMap t rs => cases rs <;> simp only [] at hc <;> (subst hc; first | exact .inl rfl | exact .inr (.inl ⟨_, rfl⟩))
  case next it s => cases s <;> simp only [cond_true, cond_false] at hc <;> (subst hc; first | exact .inl rfl | exact .inr (.inl ⟨_, rfl⟩))
  case call cl =>
    split at hc
    · rename_i f hf
      rcases mkCallS_or f (cl.args.toList.map (res L e)) with h1 | ⟨_, h1⟩ <;> (rw [h1] at hc; subst hc; first | exact .inl rfl | exact .inr (.inl ⟨_, rfl⟩))
    · subst hc; exact .inl rfl
    · subst hc; exact .inl rfl
    · split at hc
      · rcases cBuiltin_kind hc with h1 | ⟨n, h1⟩
        · left; cases c <;> first | rfl | cases h1
        · exact .inr (.inl ⟨n, h1⟩)
      · subst hc; exact .inr (.inl ⟨_, rfl⟩)
  all_goals (repeat' split at hc)
  all_goals (subst hc; first | exact .inl rfl | exact .inr (.inl ⟨_, rfl⟩))

/-- one operation -/
theorem op_step {rec : Rec} (hrec : RecOk P rec) (hN : N ≤ slotD) (r : Rel ρ h w) {e : SEnv} (hw : WF L N e) {a : Act} (s : St L N ρ e vars stk a) (o : Oper) (hin : opIn N o = true) {nx : Clos}
    (hn : NF (runOp (cOp P L e o.op) rec ((dstOf L o.dst).k nx rec) vars stk h)) {K : Act → World → Prop} {Q : Exit → Act → World → Prop}
    (hk : ∀ vars' stk' h' ρ' w' a', runOp (cOp P L e o.op) rec ((dstOf L o.dst).k nx rec) vars stk h = nx rec vars' stk' h' → Stp ρ h w ρ' h' w' → St L N ρ' (e.after (dstOf L o.dst)) vars' stk' a' → K a' w')
    (hq : ∀ v h' ρ' w' y, runOp (cOp P L e o.op) rec ((dstOf L o.dst).k nx rec) vars stk h = .pan v vars h' → Stp ρ h w ρ' h' w' → RV ρ' v y → Q (.panic [{ v := y, recovered := false }]) a w') :
    o.wp P a w K Q := by
  rcases cOp_step (P := P) (L := L) (e := e) (op := o.op) rfl with hs | ⟨n, hb⟩ | ⟨cl, x, i, ho, hcal, hsz, hi, hc⟩
  · refine oper_ok hrec r o (fun x hx => s.env.operand (opIn_ops hin x hx)) rfl hs hn (fun v h' ρ' w' y h1 h2 h3 => ?_) hq
    rw [dst_k] at h1
    exact hk _ _ h' ρ' w' _ h1 h2 (s.put hN hw h2.le hin h3)
  · rw [hb] at hn; exact absurd rfl (hn n)
  · rw [hc] at hn hk
    change NF (deferC i (res L e x) ((dstOf L o.dst).k nx rec) vars stk h) at hn
    unfold deferC at hn
    have hx := s.env.operand (opIn_ops hin x (by rw [ho]; show x ∈ cl.operands; unfold Call.operands; rw [hcal]; simp))
    split at hn
    · rename_i f fa c hv1 hv2
      rw [hv2] at hx
      generalize hX : a.eval x = X at hx
      cases hx with
      | fn _ _ _ A C hA hC h1 h2 =>
      have hrun : (execOp a.eval o).run P w = .ok (.defer { target := .fn (.func f) C, args := A }) w := by
        unfold execOp
        rw [ho]
        have hargs : cl.args.map a.eval = #[] := by
          have := Array.eq_empty_of_size_eq_zero hsz
          rw [this]; exact Array.map_empty
        simp only [resolve, hcal, hX, Deferred.ofValue, Sem.run_bind, Sem.run_pure, Result.andThen_ok, hargs, Array.append_empty]
      unfold Oper.wp
      rw [hrun]
      show K _ w
      have h0 : a.defers = [] ∧ i < vars.length ∨ True := .inr trivial
      have hd := s.dfr
      unfold DefOk at hd
      rw [hi] at hd
      rw [nth_eq] at hv1
      simp only at hd
      have hde : a.defers = [] := by
        rcases hd.2 with ⟨_, h⟩ | ⟨f', fa', c', A', C', h, _⟩ | ⟨b', l', h, _⟩
        · exact h
        · rw [hv1] at h; cases h
        · rw [hv1] at h; cases h
      have hrunE : runOp (.defer i (res L e x)) rec ((dstOf L o.dst).k nx rec) vars stk h = nx rec ((dstOf L o.dst).vs .undef (upd (.fn (.func f) fa c) i vars)) ((dstOf L o.dst).ss .undef stk) h := by
        show deferC i (res L e x) ((dstOf L o.dst).k nx rec) vars stk h = _
        unfold deferC
        rw [nth_eq, hv1, hv2]
        show (dstOf L o.dst).k nx rec .undef (upd (.fn (.func f) fa c) i vars) stk h = _
        rw [dst_k]
      have s1 : St L N ρ e (upd (.fn (.func f) fa c) i vars) stk { a with defers := [{ target := .fn (.func f) C, args := A }] } := by
        refine ⟨fun t ht => ?_, s.size, ?_⟩
        · have h1 := s.env t ht
          have : (Act.eval { a with defers := [{ target := .fn (.func f) C, args := A }] } (.tmp t)) = a.eval (.tmp t) := rfl
          rw [this]
          have hsg := sig_other (vars := vars) (stk := stk) hw hi hN (.fn (.func f) fa c) ht
          rw [hsg]; exact h1
        · unfold DefOk
          rw [hi]
          simp only
          refine ⟨by rw [upd_eq, List.length_set]; exact hd.1, .inr (.inl ⟨f, fa, c, A, C, by rw [upd_getD, if_pos ⟨rfl, hd.1⟩], rfl, ⟨hA, h1⟩, ⟨hC, h2⟩⟩)⟩
      have s2 := s1.put hN hw (fun _ _ e => e) hin (v := .undef) (y := undef) (.undef _)
      rw [hde]
      exact hk _ _ h ρ w _ hrunE (Stp.refl r) s2
    · exact absurd rfl (hn _)
end
end Go.Ev
namespace Go.Ev
set_option autoImplicit false
variable [Rounds]
open Go

/-- every function may be called; a frame is a round's of this loop, or a plain one -/
def wideR (ro : Option Nat) : Fence := { Fence.wide with round := ro }
section
variable {P : Program} {ρ : Emb} {h : AH} {w : World} {k : K} {vars stk : List AV} {L : List Nat} {N : Nat} {K : Act → World → Prop} {Q : Exit → Act → World → Prop} {ro : Option Nat}
theorem semAt_ro {a : Act} {o : Oper} (hro : ro = none ∨ noDefer o = true) : o.semAt ro a.eval = execOp a.eval o := by
  rcases hro with rfl | hd
  · rfl
  · exact Oper.semAt_eq _ _ _ fun c hc => by unfold noDefer at hd; rw [hc] at hd; cases hd
theorem callsIn_wideR {f : FuncId} {args : Array Value} {R : Ending → World → Prop} (h : Calls P f args w R) : CallsIn (wideR ro) 0 P f args w R := (callsIn_wide (n := 0)).2 h
theorem rowsIn_wideR {row : String} {args : Array Value} {R : Value → World → Prop} (h : Rows P row args w R) : RowsIn (wideR ro) 0 P row args w R :=
  fun c cs _ => let ⟨v, w', r, s⟩ := h c cs; ⟨v, w', r, stepsIn_wide.2 s⟩
theorem wpIn_of_wp {a : Act} {o : Oper} (h : o.wp P a w K Q) (hro : ro = none ∨ noDefer o = true) : o.wpIn (wideR ro) 0 P a w K Q := by
  refine ⟨fun _ _ => trivial, ?_⟩
  show o.uponIn (wideR ro) 0 P a K Q ((o.semAt ro a.eval).run P w)
  rw [semAt_ro hro]
  unfold Oper.wp at h
  generalize (execOp a.eval o).run P w = res at h
  cases res with
  | ok n w' =>
    cases n with
    | enter f args => exact ⟨fun hh => (by cases hh), callsIn_wideR h⟩
    | row row args => exact ⟨fun hh => (by cases hh), rowsIn_wideR h⟩
    | _ => first | exact h | exact h.elim
  | halt x w' => cases x <;> first | exact h | exact h.elim
theorem upon_round {a : Act} {o : Oper} {cr : CR} {l : Nat} {fn : FuncId} {tmps : Array Value} {assign body : Code} {w' : World} (hp : RoundIn Fence.wide 0 P l fn tmps assign body w' (CPost ρ h w cr))
    (hk : ∀ v h' ρ' w' y, cr = .ret v h' → Stp ρ h w ρ' h' w' → RV ρ' v y → K (a.put o.dst y) w')
    (hq : ∀ v h' ρ' w' y, cr = .pan v h' → Stp ρ h w ρ' h' w' → RV ρ' v y → Q (.panic [{ v := y, recovered := false }]) a w') : o.uponIn (wideR ro) 0 P a K Q (.ok (.round l fn tmps assign body) w') := by
  refine ⟨fun hh => (by cases hh), ?_⟩
  refine RoundIn.mono (F := wideR ro) (n := 0) (show RoundIn (wideR ro) 0 P l fn tmps assign body w' _ from hp) fun e w'' he => ?_
  cases e with
  | returned y => obtain ⟨x, h', ρ', h1, h2, h3⟩ := he; exact hk x h' ρ' w'' y h1 h2 h3
  | panicked chain => obtain ⟨x, h', ρ', y, h1, rfl, h2, h3⟩ := he; exact hq x h' ρ' w'' y h1 h2 h3
  | outgrown => exact he.elim
theorem yop_or (c : COp) : yop c = c ∨ ∃ g args, c = .callV g args ∧ yop c = .callY g args := by
  cases c <;> first | exact .inl rfl | exact .inr ⟨_, _, rfl, rfl⟩
theorem onFnY_inv {v : AV} {f : Fn → List AV → List AV → Ev.K → List AV → List AV → AH → R} {g : Pos → Ev.K → List AV → List AV → AH → R} (hn : NF (onFnY v f g k vars stk h)) : (∃ x a c, v = .fn x a c) ∨ ∃ b, v = .yld b := by
  cases v <;> first | exact .inl ⟨_, _, _, rfl⟩ | exact .inr ⟨_, rfl⟩ | exact (nf_fail hn).elim
theorem ArgsRel.cons {x : AV} {y : Value} {l : List AV} {A : Array Value} (h1 : RV ρ x y) (h2 : ArgsRel ρ l A) : ArgsRel ρ (x :: l) (#[y] ++ A) := (ArgsRel.one h1).append h2

/-- one operation of a plain region -/
theorem op_stepY {rec : Rec} (hrec : RecOk P rec) (hN : N ≤ slotD) (r : Rel ρ h w) {e : SEnv} (hw : WF L N e) {a : Act} (s : St L N ρ e vars stk a) (o : Oper) (hin : opIn N o = true) (hro : ro = none ∨ noDefer o = true) {nx : Clos}
    (hn : NF (runOp (yop (cOp P L e o.op)) rec ((dstOf L o.dst).k nx rec) vars stk h))
    (hk : ∀ vars' stk' h' ρ' w' a', runOp (yop (cOp P L e o.op)) rec ((dstOf L o.dst).k nx rec) vars stk h = nx rec vars' stk' h' → Stp ρ h w ρ' h' w' → St L N ρ' (e.after (dstOf L o.dst)) vars' stk' a' → K a' w')
    (hq : ∀ v h' ρ' w' y, runOp (yop (cOp P L e o.op)) rec ((dstOf L o.dst).k nx rec) vars stk h = .pan v vars h' → Stp ρ h w ρ' h' w' → RV ρ' v y → Q (.panic [{ v := y, recovered := false }]) a w') :
    o.wpIn (wideR ro) 0 P a w K Q := by
  rcases yop_or (cOp P L e o.op) with hy | ⟨g, args, hc, hy⟩
  · rw [hy] at hn hk hq
    exact wpIn_of_wp (op_step hrec hN r hw s o hin hn hk hq) hro
  · rw [hy] at hn hk hq
    change NF (onFnY (g.ev vars stk) (callFn args rec) (callB args rec) ((dstOf L o.dst).k nx rec) vars stk h) at hn
    rcases onFnY_inv hn with ⟨f, fa, ca, hv⟩ | ⟨b, hv⟩
    · have e1 : runOp (.callY g args) rec ((dstOf L o.dst).k nx rec) vars stk h = runOp (cOp P L e o.op) rec ((dstOf L o.dst).k nx rec) vars stk h := by
        rw [hc]
        show onFnY (g.ev vars stk) (callFn args rec) (callB args rec) ((dstOf L o.dst).k nx rec) vars stk h = onFn (g.ev vars stk) (callFn args rec) ((dstOf L o.dst).k nx rec) vars stk h
        rw [hv]; rfl
      rw [e1] at hk hq
      have hn' : NF (runOp (cOp P L e o.op) rec ((dstOf L o.dst).k nx rec) vars stk h) := by rw [← e1]; exact hn
      exact wpIn_of_wp (op_step hrec hN r hw s o hin hn' hk hq) hro
    · rcases cOp_kind (P := P) (L := L) (e := e) (op := o.op) rfl (by rw [hc]; rfl) (by rw [hc]; rfl) with ⟨x, ho, hc'⟩ | ⟨cl, f, ho, hcal, hne, hc'⟩ | ⟨cl, x, ho, hcal, hc'⟩ | ⟨cl, x, m, ho, hcal, hc'⟩
      · rw [hc] at hc'; cases hc'
      · rw [hc] at hc'; cases hc'
      · rw [hc] at hc'
        cases hc'
        have hev := fun x hx => s.env.operand (x := x) (opIn_ops hin x hx)
        have ha := args_of (ρ := ρ) (vars := vars) (stk := stk) (L := L) (e := e) (ev := a.eval) cl.args (fun y hy => hev y (by rw [ho]; exact arg_mem hy))
        have hx := hev x (by rw [ho]; show x ∈ cl.operands; unfold Call.operands; rw [hcal]; simp)
        rw [hv] at hx
        generalize hX : a.eval x = X at hx
        cases hx with
        | yld _ l hb =>
        have hrun : (execOp a.eval o).run P w = (Instr.yield l.cb (cl.args.map a.eval)).run P w := by
          unfold execOp
          rw [ho]
          simp only [resolve, hcal, hX, Deferred.ofValue, Sem.run_bind, Sem.run_pure, Result.andThen_ok, invoke, Array.append_empty, Array.empty_append]
        have hE : runOp (.callY (res L e x) (cl.args.toList.map (res L e))) rec ((dstOf L o.dst).k nx rec) vars stk h = afterCall ((dstOf L o.dst).k nx rec) vars stk (rec baseY (.yld b :: evs (cl.args.toList.map (res L e)) vars stk) h) := by
          show onFnY ((res L e x).ev vars stk) (callFn _ rec) (callB _ rec) ((dstOf L o.dst).k nx rec) vars stk h = _
          rw [hv]; rfl
        rw [hE] at hk hq
        have hn' : NF (afterCall ((dstOf L o.dst).k nx rec) vars stk (rec baseY (.yld b :: evs (cl.args.toList.map (res L e)) vars stk) h)) := by rw [← hE]; exact hn
        obtain ⟨i1, i2⟩ := afterCall_inv hn'
        obtain ⟨l', xs, fn, tmps, assign, body, y1, y2, y3⟩ := (hrec baseY _ h i1 ρ w _ r (ArgsRel.cons (.yld b l hb) ha)).2 rfl
        have y1l : [Value.func (.yield l.cb) #[] #[]] ++ (cl.args.map a.eval).toList = [Value.func (.yield l') #[] #[]] ++ xs.toList := by
          have := congrArg Array.toList y1
          simpa using this
        have e2 : l' = l.cb := by
          have := (List.cons.inj y1l).1
          cases this; rfl
        have e3 : xs = cl.args.map a.eval := Array.ext' (List.cons.inj y1l).2.symm
        subst e2 e3
        refine ⟨fun _ _ => trivial, ?_⟩
        show o.uponIn (wideR ro) 0 P a K Q ((o.semAt ro a.eval).run P w)
        rw [semAt_ro hro, hrun, y2]
        rcases i2 with ⟨v, h', h1, h2⟩ | ⟨v, h', h1, h2⟩
        · refine upon_round y3 (fun v' h'' ρ' w' y e1 st hy => ?_) (fun v' h'' ρ' w' y e1 => by rw [h1] at e1; cases e1)
          rw [h1] at e1; cases e1
          rw [dst_k] at h2
          exact hk _ _ h' ρ' w' _ h2 st (s.put hN hw st.le hin hy)
        · exact upon_round y3 (fun v' h'' ρ' w' y e1 => by rw [h1] at e1; cases e1) (fun v' h'' ρ' w' y e1 => by rw [h1] at e1; cases e1; exact hq v h' ρ' w' y h2)
      · rw [hc] at hc'; cases hc'
end
end Go.Ev
namespace Go.Ev
set_option autoImplicit false
variable [Rounds]
open Go

/-- how it stands where a panic leaves a function: the deferred function reads the variables, if there is one -/
def PSt (L : List Nat) (N : Nat) (ρ : Emb) (vars : List AV) (a : Act) : Prop := St L N ρ env0 vars [] a ∨ (idxOf slotD L 0 = none ∧ a.defers = [])
/-- whatever is reached, from (ρ, h, w) on, Q holds of it -/
def GoodR (L : List Nat) (N : Nat) (Q : Exit → Act → World → Prop) (ρ : Emb) (h : AH) (w : World) (ex : SEnv) : R → Prop
  | .ok vars stk h' => ∀ ρ' w' a', Stp ρ h w ρ' h' w' → St L N ρ' ex vars stk a' → Q .normal a' w'
  | .ex id vars h' => ∀ ρ' w' a', Stp ρ h w ρ' h' w' → St L N ρ' env0 vars [] a' → Q (.exit id) a' w'
  | .ret vars h' => ∀ ρ' w' a', Stp ρ h w ρ' h' w' → St L N ρ' env0 vars [] a' → Q .ret a' w'
  | .pan v vars h' => ∀ ρ' w' a' y, Stp ρ h w ρ' h' w' → PSt L N ρ' vars a' → RV ρ' v y → Q (.panic [{ v := y, recovered := false }]) a' w'
  | .fail _ => True
section
variable {P : Program} {ρ : Emb} {h : AH} {w : World} {k : K} {vars stk : List AV} {L : List Nat} {N : Nat} {Q : Exit → Act → World → Prop}
theorem GoodR.step {ex : SEnv} {r : R} (g : GoodR L N Q ρ h w ex r) {ρ₁ : Emb} {h₁ : AH} {w₁ : World} (s : Stp ρ h w ρ₁ h₁ w₁) : GoodR L N Q ρ₁ h₁ w₁ ex r := by
  cases r with
  | ok vars stk h' => exact fun ρ' w' a' s' => g ρ' w' a' (s.trans s')
  | ex id vars h' => exact fun ρ' w' a' s' => g ρ' w' a' (s.trans s')
  | ret vars h' => exact fun ρ' w' a' s' => g ρ' w' a' (s.trans s')
  | pan v vars h' => exact fun ρ' w' a' y s' => g ρ' w' a' y (s.trans s')
  | fail n => trivial
theorem St.env0 {e : SEnv} (hw : WF L N e) {a : Act} (s : St L N ρ e vars stk a) (stk' : List AV) : St L N ρ env0 vars stk' a := ⟨s.env.env0 hw stk', s.size, s.dfr⟩
theorem St.mono {ρ' : Emb} {e : SEnv} {a : Act} (s : St L N ρ e vars stk a) (hle : ρ.le ρ') : St L N ρ' e vars stk a := ⟨s.env.mono hle, s.size, s.dfr.mono hle⟩

theorem wf_env {e : SEnv} (hw : WF L N e) {o : Oper} (hin : opIn N o = true) : WF L N (envOf L e o) := by
  unfold envOf
  cases h : aliasOf L e o with
  | none => exact wf_after hw o.dst
  | some e' =>
    obtain ⟨x, t, _, _, _, h1, _⟩ := sig_alias (vars := []) (stk := []) hw h (fun x hx => opIn_ops hin x (by rw [hx]; simp [Op.operands]))
    exact h1
theorem wf_ops {e : SEnv} (hw : WF L N e) : ∀ (os : List Oper), (∀ o ∈ os, opIn N o = true) → WF L N (opsE L os e) := by
  intro os
  induction os generalizing e with
  | nil => intro _; exact hw
  | cons o os ih => intro hin; exact ih (wf_env hw (hin o List.mem_cons_self)) fun o' ho' => hin o' (List.mem_cons_of_mem _ ho')

/-- what a guard says -/
theorem guard_inv {g : G} {want : Bool} {yes no : List AV → List AV → AH → R} (hn : NF (guardC g want yes no vars stk h)) :
    ((g.ev vars stk = @Bool.rec (fun _ => AV) .ff .tt want) ∧ guardC g want yes no vars stk h = yes vars stk h) ∨
    ((g.ev vars stk = @Bool.rec (fun _ => AV) .tt .ff want ∨ ∃ l, g.ev vars stk = .tup l) ∧ guardC g want yes no vars stk h = no vars stk h) := by
  unfold guardC at hn ⊢
  generalize g.ev vars stk = v at hn ⊢
  cases v <;> first
    | (cases want <;> first | exact .inl ⟨rfl, rfl⟩ | exact .inr ⟨.inl rfl, rfl⟩)
    | exact .inr ⟨.inr ⟨_, rfl⟩, rfl⟩
    | exact absurd rfl (hn _)
theorem yielded_of {ops : Array Oper} {a : Act} {j t : Nat} (hj : gslot ops j = some t) (ht : t < a.tmps.size) : yielded ops a.tmps j = match a.eval (.tmp t) with | .bool b => some b | _ => none := by
  have h0 : (ops[j]?).bind (·.dst) = some t := hj
  unfold yielded
  rw [h0]
  show (match (a.tmps[t]?) with | some (.bool b) => some b | _ => none) = (match a.tmps.getD t undef with | .bool b => some b | _ => none)
  rw [Array.getD_eq_getD_getElem?, Array.getElem?_eq_getElem ht]
  simp only [Option.getD_some]
  generalize a.tmps[t] = v
  cases v <;> rfl
theorem wanted_of {ops : Array Oper} {o : Oper} {a : Act} {j t : Nat} {want : Bool} (hg : o.guard = some (j, want)) (hj : gslot ops j = some t) (ht : t < a.tmps.size) {v : AV} (hv : RV ρ v (a.eval (.tmp t))) :
    (v = @Bool.rec (fun _ => AV) .ff .tt want → Region.wanted o (yielded ops a.tmps) = true) ∧ ((v = @Bool.rec (fun _ => AV) .tt .ff want ∨ ∃ l, v = .tup l) → Region.wanted o (yielded ops a.tmps) = false) := by
  have hy := yielded_of hj ht
  generalize a.eval (.tmp t) = X at hv hy
  unfold Region.wanted
  rw [hg]
  simp only [hy]
  refine ⟨fun e => ?_, fun e => ?_⟩
  · cases want <;> subst e <;> cases hv <;> rfl
  · rcases e with e | ⟨l, e⟩
    · cases want <;> subst e <;> cases hv <;> rfl
    · subst e; cases hv; simp

theorem plain_ok {rec : Rec} (hrec : RecOk P rec) (hN : N ≤ slotD) {ro : Option Nat} {ops : Array Oper} (hall : ∀ (j : Nat) (o : Oper), ops[j]? = some o → opIn N o = true) : ∀ (os : List Oper) (k : Nat) {e : SEnv} {vars stk : List AV} {h : AH} {ρ : Emb} {w : World} {a : Act},
    (∀ (j : Nat) (o : Oper), os[j]? = some o → ops[k + j]? = some o) → (ro = none ∨ os.all noDefer = true) → NF ((cOps P L ops os e).run rec vars stk h) → Rel ρ h w → WF L N e → St L N ρ e vars stk a →
    GoodR L N Q ρ h w (opsE L os e) ((cOps P L ops os e).run rec vars stk h) → wpOpsIn (wideR ro) 0 P ops Q (List.range' k os.length) a w := by
  intro os
  induction os with
  | nil =>
    intro k e vars stk h ρ w a _ _ _ r _ s g
    exact g ρ w a (Stp.refl r) s
  | cons o os ih =>
    intro k e vars stk h ρ w a hos hro hn r hw s g
    have hro1 : ro = none ∨ noDefer o = true := hro.imp id fun h => by rw [List.all_cons] at h; exact (Bool.and_eq_true_iff.1 h).1
    have hro2 : ro = none ∨ os.all noDefer = true := hro.imp id fun h => by rw [List.all_cons] at h; exact (Bool.and_eq_true_iff.1 h).2
    have ho : ops[k]? = some o := hos 0 o rfl
    have hin := hall k o ho
    have hos' : ∀ (j : Nat) (o' : Oper), os[j]? = some o' → ops[k + 1 + j]? = some o' := fun j o' hj => by
      have := hos (j + 1) o' (by simpa using hj)
      rwa [show k + 1 + j = k + (j + 1) by omega]
    show wpOpsIn (wideR ro) 0 P ops Q (k :: List.range' (k + 1) os.length) a w
    have hw' := wf_env hw hin
    unfold opsE at g
    unfold envOf at g hw'
    unfold cOps at hn g
    simp only [wpOpsIn, ho]
    cases hal : aliasOf L e o with
    | some e' =>
      rw [hal] at hn g hw'
      simp only at hn g hw'
      obtain ⟨x, t, hg, hop, hd, _, _⟩ := sig_alias (vars := vars) (stk := stk) hw hal (fun x hx => opIn_ops hin x (by rw [hx]; simp [Op.operands]))
      have hwant : Region.wanted o (yielded ops a.tmps) = true := by unfold Region.wanted; rw [hg]
      rw [if_pos hwant]
      refine ⟨fun _ _ => trivial, ?_⟩
      show o.uponIn (wideR ro) 0 P a (wpOpsIn (wideR ro) 0 P ops Q (List.range' (k + 1) os.length)) Q ((o.semAt ro a.eval).run P w)
      rw [semAt_ro hro1]
      have hrun : (execOp a.eval o).run P w = .ok (.value (a.eval x)) w := by unfold execOp; rw [hop]; rfl
      rw [hrun, Oper.uponIn_value]
      refine ih (k + 1) hos' hro2 hn r hw' ⟨s.env.alias hw hal hop (opIn_ops hin x (by rw [hop]; simp [Op.operands])) fun t ht => by rw [s.size]; exact opIn_dst hin t ht, by rw [put_size]; exact s.size, ?_⟩ g
      have := s.dfr
      unfold DefOk at this ⊢
      have hd' : (a.put o.dst (a.eval x)).defers = a.defers := by cases o.dst <;> rfl
      rw [hd']; exact this
    | none =>
      rw [hal] at hn g hw'
      simp only at hn g hw'
      have go : ∀ {h₀ : AH} {ρ₀ : Emb} {w₀ : World} {vars₀ stk₀ : List AV} {a₀ : Act}, Stp ρ h w ρ₀ h₀ w₀ → NF ((cOps P L ops os (e.after (dstOf L o.dst))).run rec vars₀ stk₀ h₀) → St L N ρ₀ (e.after (dstOf L o.dst)) vars₀ stk₀ a₀ →
          GoodR L N Q ρ h w (opsE L os (e.after (dstOf L o.dst))) ((cOps P L ops os (e.after (dstOf L o.dst))).run rec vars₀ stk₀ h₀) → wpOpsIn (wideR ro) 0 P ops Q (List.range' (k + 1) os.length) a₀ w₀ :=
        fun st hn' s' g' => ih (k + 1) hos' hro2 hn' st.rel hw' s' (g'.step st)
      have run1 : ∀ {c : COp}, c = yop (cOp P L e o.op) → NF (runOp c rec ((dstOf L o.dst).k (cOps P L ops os (e.after (dstOf L o.dst))).run rec) vars stk h) →
          GoodR L N Q ρ h w (opsE L os (e.after (dstOf L o.dst))) (runOp c rec ((dstOf L o.dst).k (cOps P L ops os (e.after (dstOf L o.dst))).run rec) vars stk h) → o.wpIn (wideR ro) 0 P a w (wpOpsIn (wideR ro) 0 P ops Q (List.range' (k + 1) os.length)) Q := by
        intro c hc hn' g'
        subst hc
        refine op_stepY hrec hN r hw s o hin hro1 hn' (fun vars' stk' h' ρ' w' a' h1 h2 h3 => ?_) (fun v h' ρ' w' y h1 h2 h3 => ?_)
        · rw [h1] at hn' g'
          exact go h2 hn' h3 g'
        · rw [h1] at g'
          exact g' ρ' w' a y h2 (.inl ((s.mono h2.le).env0 hw [])) h3
      cases hg : o.guard with
      | none =>
        rw [hg] at hn g
        simp only at hn g
        have hwant : Region.wanted o (yielded ops a.tmps) = true := by unfold Region.wanted; rw [hg]
        rw [if_pos hwant]
        exact run1 rfl hn g
      | some jw =>
        obtain ⟨j, want⟩ := jw
        rw [hg] at hn g
        simp only at hn g
        cases hj : gslot ops j with
        | none => rw [hj] at hn; exact absurd rfl (hn 122)
        | some t =>
          rw [hj] at hn g
          simp only at hn g
          have ht : t < N := by
            have hj' : (ops[j]?).bind (·.dst) = some t := hj
            cases hoj : ops[j]? with
            | none => rw [hoj] at hj'; cases hj'
            | some oj => rw [hoj] at hj'; exact opIn_dst (hall j oj hoj) t hj'
          have hv : RV ρ ((resT L e t).ev vars stk) (a.eval (.tmp t)) := s.env t ht
          obtain ⟨w1, w2⟩ := wanted_of (ops := ops) (o := o) hg hj (by rw [s.size]; exact ht) hv
          change NF (guardC (resT L e t) want (runOp (yop (cOp P L e o.op)) rec ((dstOf L o.dst).k (cOps P L ops os (e.after (dstOf L o.dst))).run rec)) ((dstOf L o.dst).k (cOps P L ops os (e.after (dstOf L o.dst))).run rec (.tup [])) vars stk h) at hn
          change GoodR L N Q ρ h w _ (guardC (resT L e t) want (runOp (yop (cOp P L e o.op)) rec ((dstOf L o.dst).k (cOps P L ops os (e.after (dstOf L o.dst))).run rec)) ((dstOf L o.dst).k (cOps P L ops os (e.after (dstOf L o.dst))).run rec (.tup [])) vars stk h) at g
          rcases guard_inv hn with ⟨h1, h2⟩ | ⟨h1, h2⟩
          · rw [h2] at hn g
            rw [if_pos (w1 h1)]
            exact run1 rfl hn g
          · rw [h2, dst_k] at hn g
            rw [if_neg (by rw [w2 h1]; simp)]
            refine ⟨fun _ _ => trivial, ?_⟩
            exact go (Stp.refl r) hn (s.put hN hw (fun _ _ e => e) hin (v := .tup []) (y := undef) (.tup [] #[] rfl (by simp))) g
end
end Go.Ev
namespace Go.Ev
set_option autoImplicit false
variable [Rounds]
open Go

section
variable {P : Program} {ρ : Emb} {h : AH} {w : World} {k : K} {vars stk : List AV} {L : List Nat} {N : Nat}
theorem alloc_abs {c : COp} (ha : allocC c = true) {rec : Rec} (hn : NF (runOp c rec k vars stk h)) : ∃ v ob, ∀ (rec' : Rec) (k' : K), runOp c rec' k' vars stk h = k' v vars stk (h.new ob) := by
  cases c <;> first | (cases ha; done) | skip
  case boxO x =>
    change NF (boxO x k vars stk h) at hn
    unfold boxO at hn
    obtain ⟨c1, _⟩ := ifR_inv hn
    exact ⟨_, _, fun rec' k' => by show boxO x k' vars stk h = _; unfold boxO; rw [c1]; rfl⟩
  case boxA n x =>
    change NF (boxA n x k vars stk h) at hn
    unfold boxA at hn
    obtain ⟨m, l, hv⟩ := onAgg_inv hn
    rw [hv] at hn
    obtain ⟨c1, _⟩ := ifR_inv (show NF (ifR (Nat.beq m n) _) from hn)
    refine ⟨.ptr h.nx 0 0, dat1 n l, fun rec' k' => ?_⟩
    show boxA n x k' vars stk h = _
    unfold boxA
    rw [hv]
    show ifR (Nat.beq m n) _ = _
    rw [c1]; rfl
  case buildSlice sz n ps =>
    change NF (buildSliceC sz n ps k vars stk h) at hn
    unfold buildSliceC at hn
    obtain ⟨c1, _⟩ := ifR_inv hn
    exact ⟨_, _, fun rec' k' => by show buildSliceC sz n ps k' vars stk h = _; unfold buildSliceC; rw [c1]; rfl⟩
  case makeMap => exact ⟨_, _, fun rec' k' => rfl⟩
  case makeSlice sz z l c =>
    change NF (makeSliceC sz z l c k vars stk h) at hn
    unfold makeSliceC at hn
    obtain ⟨m, hm⟩ := onNat_inv hn
    rw [hm] at hn
    obtain ⟨n, hl⟩ := onNat_inv (show NF (onNat (l.ev vars stk) (makeSlice2 sz z m) k vars stk h) from hn)
    change NF (onNat (l.ev vars stk) (makeSlice2 sz z m) k vars stk h) at hn
    rw [hl] at hn
    obtain ⟨c1, _⟩ := ifR_inv (show NF (ifR (and (Nat.ble n m) (Nat.ble m 100000)) _) from hn)
    refine ⟨.slice h.nx 0 n m true sz, .dat sz m (zeroChunks z m 0 .e), fun rec' k' => ?_⟩
    show makeSliceC sz z l c k' vars stk h = _
    unfold makeSliceC
    rw [hm]
    show onNat (l.ev vars stk) (makeSlice2 sz z m) k' vars stk h = _
    rw [hl]
    show ifR (and (Nat.ble n m) (Nat.ble m 100000)) _ = _
    rw [c1]; rfl
def AllocN (ρ : Emb) (h : AH) (w : World) (k : K) (vars stk : List AV) (r : R) (run : Result Next) : Prop :=
  ∃ o v co l y, r = k v vars stk (h.new o) ∧ run = .ok (.value y) (w.alloc co) ∧ l.cb = w.heap.size ∧ ∀ ρ' : Emb, ρ.le ρ' → ρ' h.nx = some l → ObjRel ρ' (w.alloc co) l o ∧ RV ρ' v y
theorem next_a {r : R} {s : Sem Value} (a : AllocR ρ h w k vars stk r (s.run P w)) : AllocN ρ h w k vars stk r ((do pure (.value (← s)) : Sem Next).run P w) := by
  obtain ⟨o, v, co, l, y, h1, h2, h3, h4⟩ := a
  exact ⟨o, v, co, l, y, h1, by simp only [Sem.run_bind, h2, Result.andThen_ok, Sem.run_pure], h3, h4⟩
theorem cOp_alloc (L : List Nat) (e : SEnv) (o : Oper) (ev : Operand → Value) (hev : EvOk P L e ρ vars stk ev o.op) {c : COp} (hc : cOp P L e o.op = c) (ha : allocC c = true) {rec : Rec}
    (hn : NF (runOp c rec k vars stk h)) : AllocN ρ h w k vars stk (runOp c rec k vars stk h) ((execOp ev o).run P w) := by
  obtain ⟨dst, op, type, pos, after, guard⟩ := o
  unfold EvOk at hev
  cases op <;> simp only [cOp, cBin, cTuple] at hc
  case alloc t =>
    split at hc <;> first | (subst hc; cases ha; done) | skip
    · rename_i z n hz hk
      subst hc
      obtain ⟨i, Z, hi, hZ, _, hzr⟩ := zero_cells (ρ := ρ) hz
      exact next_a (boxA_al (x := .cst z) hzr hn t (run_alloc hi hZ _))
    · rename_i z hz hk
      subst hc
      obtain ⟨i, Z, hi, hZ, _, hzr⟩ := zero_cells (ρ := ρ) hz
      exact next_a (boxO_al (x := .cst z) hzr hn t (run_alloc hi hZ _))
  case box t x =>
    have hx := hev x (by simp [Op.operands])
    split at hc <;> first | (subst hc; cases ha; done) | skip
    · subst hc; exact next_a (boxA_al hx hn t (run_box t _))
    · subst hc; exact next_a (boxO_al hx hn t (run_box t _))
  case buildSlice t n ps =>
    have hg := grel_of (ρ := ρ) (vars := vars) (stk := stk) (L := L) (e := e) (ev := ev) ps.toList (fun p hp => hev p.2 (by simp only [Op.operands]; exact List.mem_toArray.2 (List.mem_map.2 ⟨p, hp, rfl⟩)))
    have hg' : GRel ρ vars stk (ps.toList.map fun p => (p.1, res L e p.2)) (ps.map fun p => (p.1, ev p.2)).toList := by rw [Array.toList_map]; exact hg
    split at hc <;> first | (subst hc; cases ha; done) | skip
    rename_i el hel
    split at hc <;> first | (subst hc; cases ha; done) | skip
    rename_i z i hz hi
    split at hc <;> first | (subst hc; cases ha; done) | skip
    rename_i hk
    subst hc
    exact next_a (buildSlice_al (elemT_inv hel) hz hi hg' hk hn)
  case makeMap t rs =>
    cases rs with
    | none => subst hc; exact next_a (makeMap_al t)
    | some x => subst hc; cases ha
  case makeSlice t l c =>
    have hl := hev l (by simp [Op.operands])
    have hcc := hev c (by simp [Op.operands])
    split at hc <;> first | (subst hc; cases ha; done) | skip
    rename_i el hel
    split at hc <;> first | (subst hc; cases ha; done) | skip
    rename_i z i hz hi
    split at hc <;> first | (subst hc; cases ha; done) | skip
    rename_i hk
    subst hc
    exact next_a (makeSlice_al hl hcc (elemT_inv hel) hz hi hk.1 hk.2 hn)
  case next it s => cases s <;> simp only [cond_true, cond_false] at hc <;> (subst hc; cases ha)
  case call cl =>
    split at hc
    · rename_i f hf
      rcases mkCallS_or f (cl.args.toList.map (res L e)) with h1 | ⟨_, h1⟩ <;> (rw [h1] at hc; subst hc; cases ha)
    · subst hc; cases ha
    · subst hc; cases ha
    · split at hc
      · rename_i b hb _
        generalize cl.args.toList.map (res L e) = args at hc
        match args with
        | [] => cases b <;> simp only [cBuiltin] at hc <;> (subst hc; cases ha)
        | [x] =>
          cases b <;> simp only [cBuiltin] at hc
          all_goals (repeat' split at hc)
          all_goals (subst hc; cases ha)
        | [x, y] =>
          cases b <;> simp only [cBuiltin] at hc
          all_goals (repeat' split at hc)
          all_goals (subst hc; cases ha)
        | x :: y :: z :: l => cases b <;> simp only [cBuiltin] at hc <;> (subst hc; cases ha)
      · subst hc; cases ha
  all_goals (repeat' split at hc)
  all_goals (subst hc; cases ha)
theorem float_plain {c : COp} (h : floatC c = true) : plainC c = true := by cases c <;> first | rfl | cases h

/-! the static check -/
def predsOf (ops : Array Oper) (i : Nat) : List Nat := match ops[i]? with
  | some o => (o.after.toList.filter (Region.binds .any ·)).map (·.on)
  | none => []
def dstIs (ops : Array Oper) (j t : Nat) : Bool := match ops[j]? with
  | some o => match o.dst with
    | some u => Nat.beq u t
    | none => false
  | none => false
def readsIt (ops : Array Oper) (j t : Nat) : Bool := match ops[j]? with
  | some o => (o.looksAt ops).any (Nat.beq t)
  | none => false
def varDst (L : List Nat) (ops : Array Oper) (j : Nat) : Bool := match ops[j]? with
  | some o => match o.dst with
    | some u => (idxOf u L 0).isSome
    | none => false
  | none => false
def memL (l : List Nat) (i : Nat) : Bool := l.any (Nat.beq i)
def regGo (L : List Nat) (ops : Array Oper) (an : Array Nat) : List Nat → List Nat → Bool
  | _, [] => true
  | pre, i :: post => match ops[i]? with
    | none => false
    | some o =>
      and ((predsOf ops i).all (memL pre)) <|
      and (or (isFloat o.op) (post.all fun j => (predsOf ops j).any fun p => not (memL pre p))) <|
      and (match o.dst with
        | none => true
        | some t => cond (isFloat o.op) (and (not (readsIt ops i t)) (pre.all fun j => and (not (dstIs ops j t)) (not (readsIt ops j t))))
            (pre.all fun j => or ((an.getD i 0).testBit j) (and (not (dstIs ops j t)) (not (readsIt ops j t))))) <|
      and ((o.looksAt ops).all fun t => pre.all fun j => or (not (dstIs ops j t)) ((an.getD i 0).testBit j)) <|
      and (or (isFloat o.op) (or (idxOf slotD L 0).isNone (pre.all fun j => or ((an.getD i 0).testBit j) (not (varDst L ops j))))) <|
      regGo L ops an (i :: pre) post
def nodupL : List Nat → Bool
  | [] => true
  | i :: l => and (not (memL l i)) (nodupL l)
def regOk (L : List Nat) (ops : Array Oper) (order : List Nat) : Bool :=
  and (Nat.beq order.length ops.size) <| and (nodupL order) <| and ((List.range ops.size).all (memL order)) (regGo L ops (Region.before ops) [] order)
theorem memL_iff {l : List Nat} {i : Nat} : memL l i = true ↔ i ∈ l := by
  unfold memL
  rw [List.any_eq_true]
  constructor
  · rintro ⟨x, h1, h2⟩; rw [beq_iff.1 h2]; exact h1
  · intro h; exact ⟨i, h, Nat.beq_refl i⟩
theorem nodupL_iff : ∀ {l : List Nat}, nodupL l = true → l.Nodup
  | [], _ => List.nodup_nil
  | i :: l, h => by
    have a := Bool.and_eq_true_iff.1 h
    rw [List.nodup_cons]
    refine ⟨fun hm => ?_, nodupL_iff a.2⟩
    rw [memL_iff.2 hm] at a; exact absurd a.1 (by simp)

/-- what stands ahead: a set that is closed has it -/
def Closed (ops : Array Oper) (D : Nat → Prop) : Prop := ∀ i o, ops[i]? = some o → D i → ∀ e ∈ o.after, Region.binds .any e = true → D e.on
theorem before_ok (ops : Array Oper) (D : Nat → Prop) (hD : Closed ops D) {i j : Nat} (hb : ((Region.before ops).getD i 0).testBit j = true) (hi : D i) : D j := by
  have key : ∀ (os : List Oper) (acc : Array Nat), (∀ (k : Nat) (o : Oper), os[k]? = some o → ops[acc.size + k]? = some o) → (∀ (i m : Nat), acc[i]? = some m → ∀ j, m.testBit j = true → D i → D j) →
      ∀ (i m : Nat), (os.foldl (fun acc o => acc.push (o.after.foldl (fun s e => if Region.binds .any e then s ||| 2 ^ e.on ||| acc.getD e.on 0 else s) 0)) acc)[i]? = some m → ∀ j, m.testBit j = true → D i → D j := by
    intro os
    induction os with
    | nil => intro acc _ hg; exact hg
    | cons o os ih =>
      intro acc hos hg
      rw [List.foldl_cons]
      refine ih _ (fun k o' hk => ?_) ?_
      · have := hos (k + 1) o' (by simpa using hk)
        rw [Array.size_push, show acc.size + 1 + k = acc.size + (k + 1) by omega]; exact this
      · intro i m hm j hj hi
        rw [Array.getElem?_push] at hm
        split at hm
        · rename_i hii
          subst hii
          have ho := hos 0 o rfl
          have in1 : ∀ (es : List Edge) (s : Nat), (∀ e ∈ es, e ∈ o.after) → (∀ j, s.testBit j = true → D j) → ∀ j, (es.foldl (fun s e => if Region.binds .any e then s ||| 2 ^ e.on ||| acc.getD e.on 0 else s) s).testBit j = true → D j := by
            intro es
            induction es with
            | nil => intro s _ hs; exact hs
            | cons e es ih2 =>
              intro s hes hs
              rw [List.foldl_cons]
              refine ih2 _ (fun e' he' => hes e' (List.mem_cons_of_mem _ he')) ?_
              intro j hj
              split at hj
              · rename_i hbd
                have hon : D e.on := hD acc.size o (by simpa using ho) hi e (hes e List.mem_cons_self) hbd
                rw [Nat.testBit_or, Nat.testBit_or, Bool.or_eq_true, Bool.or_eq_true] at hj
                rcases hj with (hj | hj) | hj
                · exact hs j hj
                · rw [Nat.testBit_two_pow] at hj
                  have : e.on = j := by simpa using hj
                  rw [← this]; exact hon
                · rw [Array.getD_eq_getD_getElem?] at hj
                  cases hq : acc[e.on]? with
                  | none => rw [hq] at hj; simp at hj
                  | some q => rw [hq] at hj; exact hg e.on q hq j hj hon
              · exact hs j hj
          cases hm
          rw [← Array.foldl_toList] at hj
          exact in1 o.after.toList 0 (fun e he => Array.mem_toList_iff.1 he) (fun j hj => by simp at hj) j hj
        · exact hg i m hm j hj hi
  have hfold : Region.before ops = ops.toList.foldl (fun acc o => acc.push (o.after.foldl (fun s e => if Region.binds .any e then s ||| 2 ^ e.on ||| acc.getD e.on 0 else s) 0)) #[] := by
    unfold Region.before
    rw [← Array.foldl_toList]
  rw [Array.getD_eq_getD_getElem?] at hb
  cases hq : (Region.before ops)[i]? with
  | none => rw [hq] at hb; simp at hb
  | some q =>
    rw [hq] at hb
    rw [hfold] at hq
    exact key ops.toList #[] (fun k o hk => by rw [← Array.getElem?_toList]; simpa using hk) (fun i m hm => by simp at hm) i q hq j hb hi
end
end Go.Ev
namespace Go.Ev
set_option autoImplicit false
variable [Rounds]
open Go

/-- an operation that the evaluator has carried out, and the model's run has not yet -/
structure Ms where
  j : Nat
  o : Oper
  val : AV
  snap : Nat → AV
  pos : Option Pos

section
variable {P : Program} {ρ : Emb} {h : AH} {w : World} {k : K} {vars stk : List AV} {L : List Nat} {N : Nat} {ops : Array Oper}
theorem all2_eq {f : AV → AV → Bool} (hf : ∀ a b, f a b = true → a = b) : ∀ {x y : List AV}, all2 f x y = true → x = y
  | [], [], _ => rfl
  | a :: x, b :: y, h => by
    have := Bool.and_eq_true_iff.1 (show (f a b && all2 f x y) = true from h)
    rw [hf a b this.1, all2_eq hf this.2]
  | [], _ :: _, h => by cases h
  | _ :: _, [], h => by cases h
theorem posEq_eq {a b : Pos} (h : posEq a b = true) : a = b := by simpa [posEq] using h
theorem sameF_eq : ∀ (n : Nat) (a b : AV), sameF n a b = true → a = b := by
  intro n
  induction n with
  | zero => intro a b h; cases h
  | succ n ih =>
    intro a b h
    cases a <;> cases b <;> first | rfl | (change false = true at h; cases h; done) | skip
    case nat.nat n m => rw [show n = m from beq_iff.1 h]
    case neg.neg n m => rw [show n = m from beq_iff.1 h]
    case byte.byte n m => rw [show n = m from beq_iff.1 h]
    case int.int i n j m =>
      have := of_decide_eq_true (show decide (i = j ∧ n = m) = true from h)
      rw [this.1, this.2]
    case str.str n l m r =>
      have := Bool.and_eq_true_iff.1 (show (Nat.beq l r && Nat.beq n m) = true from h)
      rw [show l = r from beq_iff.1 this.1, show n = m from beq_iff.1 this.2]
    case ptr.ptr b e o b' e' o' =>
      have h1 := Bool.and_eq_true_iff.1 (show (posEq b b' && (Nat.beq e e' && Nat.beq o o')) = true from h)
      have h2 := Bool.and_eq_true_iff.1 h1.2
      rw [posEq_eq h1.1, show e = e' from beq_iff.1 h2.1, show o = o' from beq_iff.1 h2.2]
    case slice.slice b e l c x z b' e' l' c' x' z' =>
      have h1 := Bool.and_eq_true_iff.1 (show (posEq b b' && (Nat.beq e e' && (Nat.beq l l' && (Nat.beq c c' && (Nat.beq z z' && x == x'))))) = true from h)
      have h2 := Bool.and_eq_true_iff.1 h1.2
      have h3 := Bool.and_eq_true_iff.1 h2.2
      have h4 := Bool.and_eq_true_iff.1 h3.2
      have h5 := Bool.and_eq_true_iff.1 h4.2
      rw [posEq_eq h1.1, show e = e' from beq_iff.1 h2.1, show l = l' from beq_iff.1 h3.1, show c = c' from beq_iff.1 h4.1, show z = z' from beq_iff.1 h5.1, beq_iff_eq.1 h5.2]
    case map.map b b' => rw [posEq_eq (show posEq b b' = true from h)]
    case fn.fn f x y f' x' y' =>
      have h1 := Bool.and_eq_true_iff.1 (show (sameFn f f' && (all2 (sameF n) x x' && all2 (sameF n) y y')) = true from h)
      have h2 := Bool.and_eq_true_iff.1 h1.2
      have h3 : f = f' := by
        have := h1.1
        cases f <;> cases f' <;> first | (cases this; done) | skip
        rename_i a b
        rw [show a = b from beq_iff.1 this]
      rw [h3, all2_eq ih h2.1, all2_eq ih h2.2]
    case iface.iface t v t' v' =>
      have h1 := Bool.and_eq_true_iff.1 (show (Nat.beq t t' && sameF n v v') = true from h)
      rw [show t = t' from beq_iff.1 h1.1, ih _ _ h1.2]
    case agg.agg m l m' l' =>
      have h1 := Bool.and_eq_true_iff.1 (show (Nat.beq m m' && all2 (sameF n) l l') = true from h)
      rw [show m = m' from beq_iff.1 h1.1, all2_eq ih h1.2]
    case tup.tup l l' => rw [all2_eq ih (show all2 (sameF n) l l' = true from h)]

/-- what a guard's slot says -/
def GSays (ops : Array Oper) (o : Oper) (f : Nat → AV) (b : Bool) : Prop :=
  match o.guard with
  | none => b = true
  | some (g, want) => ∃ t, gslot ops g = some t ∧ ((b = true ∧ f t = @Bool.rec (fun _ => AV) .ff .tt want) ∨ (b = false ∧ (f t = @Bool.rec (fun _ => AV) .tt .ff want ∨ ∃ l, f t = .tup l)))
theorem guard_looks {o : Oper} {g : Nat} {want : Bool} {t : Nat} (hg : o.guard = some (g, want)) (ht : gslot ops g = some t) : t ∈ o.looksAt ops := by
  unfold Oper.looksAt
  rw [hg]
  refine List.mem_append.2 (.inr ?_)
  have : (ops[g]?).bind (·.dst) = some t := ht
  simp only [this]; simp
theorem operand_looks {o : Oper} {t : Nat} (h : Operand.tmp t ∈ o.op.operands) : t ∈ o.looksAt ops := by
  unfold Oper.looksAt
  refine List.mem_append.2 (.inl (List.mem_filterMap.2 ⟨.tmp t, Array.mem_toList_iff.2 h, rfl⟩))
theorem looks_lt (hall : ∀ (j : Nat) (o : Oper), ops[j]? = some o → opIn N o = true) {j : Nat} {o : Oper} (hj : ops[j]? = some o) {t : Nat} (ht : t ∈ o.looksAt ops) : t < N := by
  unfold Oper.looksAt at ht
  rcases List.mem_append.1 ht with h | h
  · obtain ⟨x, hx, he⟩ := List.mem_filterMap.1 h
    have := opIn_ops (hall j o hj) x (Array.mem_toList_iff.1 hx)
    cases x with
    | tmp s => cases he; exact blt_iff.1 this
    | _ => cases he
  · cases hg : o.guard with
    | none => rw [hg] at h; simp at h
    | some gw =>
      obtain ⟨g, want⟩ := gw
      rw [hg] at h
      simp only [Option.mem_toList] at h
      cases hog : ops[g]? with
      | none => rw [hog] at h; cases h
      | some og => rw [hog] at h; exact opIn_dst (hall g og hog) t h
theorem GSays.wanted {o : Oper} {f : Nat → AV} {b : Bool} (hg : GSays ops o f b) {a : Act} (hs : ∀ t ∈ o.looksAt ops, RV ρ (f t) (a.eval (.tmp t))) (hlt : ∀ t ∈ o.looksAt ops, t < a.tmps.size) :
    Region.wanted o (yielded ops a.tmps) = b := by
  unfold GSays at hg
  cases hgo : o.guard with
  | none =>
    rw [hgo] at hg
    unfold Region.wanted
    rw [hgo]; exact hg.symm
  | some gw =>
    obtain ⟨g, want⟩ := gw
    rw [hgo] at hg
    obtain ⟨t, ht, h1⟩ := hg
    have hm := guard_looks hgo ht
    obtain ⟨w1, w2⟩ := wanted_of (ops := ops) (o := o) hgo ht (hlt t hm) (hs t hm)
    rcases h1 with ⟨rfl, h2⟩ | ⟨rfl, h2⟩
    · exact w1 h2
    · exact w2 h2

/-- why the value of a waiting operation will be right -/
inductive Fact (P : Program) (L : List Nat) (ops : Array Oper) (H : AH) (o : Oper) (snap : Nat → AV) : AV → Option Pos → Prop
  | skip (hg : GSays ops o snap false) : Fact P L ops H o snap (.tup []) none
  | run (hg : GSays ops o snap true) (e : SEnv) (vars stk : List AV) (v : AV) (hs : ∀ t ∈ o.looksAt ops, sig L e vars stk t = snap t ∨ sig L e vars stk t = .undef) (hf : floatC (cOp P L e o.op) = true)
      (hr : ∀ (rec : Rec) (k : K), runOp (cOp P L e o.op) rec k vars stk H = k v vars stk H) : Fact P L ops H o snap v none
  | alloc (hg : GSays ops o snap true) (e : SEnv) (vars stk : List AV) (v : AV) (h1 : AH) (ob : Obj) (hs : ∀ t ∈ o.looksAt ops, sig L e vars stk t = snap t ∨ sig L e vars stk t = .undef) (ha : allocC (cOp P L e o.op) = true)
      (hr : ∀ (rec : Rec) (k : K), runOp (cOp P L e o.op) rec k vars stk h1 = k v vars stk (h1.new ob)) (hobj : H.obj h1.nx = some ob) : Fact P L ops H o snap v (some h1.nx)
def LateR (p : Option Pos) (ρ : Emb) (H : AH) (w : World) (ρ' : Emb) (w' : World) : Prop :=
  match p with
  | none => Stp ρ H w ρ' H w'
  | some q => ∃ l co ob, ρ' = ρ.set q l ∧ w' = w.alloc co ∧ l.cb = w.heap.size ∧ H.obj q = some ob ∧ ObjRel ρ' w' l ob

theorem obj_new_inj {h : AH} {o o' : Obj} (e : h.new o = h.new o') : o = o' := by
  have h1 : (h.new o).obj h.nx = some o := by rw [AH.obj_new, if_pos rfl]
  have h2 : (h.new o').obj h.nx = some o' := by rw [AH.obj_new, if_pos rfl]
  rw [e, h2] at h1; cases h1; rfl
/-- the continuation that tells all -/
def kAll : K := fun v vars stk h => .ok (v :: vars) stk h
theorem operand_of {H : AH} {o : Oper} {snap : Nat → AV} {e : SEnv} {vars stk : List AV} (hs : ∀ t ∈ o.looksAt ops, sig L e vars stk t = snap t ∨ sig L e vars stk t = .undef) {a : Act}
    (hv : ∀ t ∈ o.looksAt ops, RV ρ (snap t) (a.eval (.tmp t))) : ∀ x ∈ o.op.operands, RV ρ ((res L e x).ev vars stk) (a.eval x) := by
  intro x hx
  cases x with
  | tmp t =>
    have hm := operand_looks (ops := ops) hx
    show RV ρ (sig L e vars stk t) _
    rcases hs t hm with h | h <;> rw [h]
    · exact hv t hm
    · exact .undef _
  | const v => exact conv_rv v
  | global g => exact .undef _
  | func f => exact .fn (.func f) [] [] #[] #[] rfl rfl (by simp) (by simp)
theorem Fact.exec {H : AH} {o : Oper} {snap : Nat → AV} {v : AV} {p : Option Pos} (f : Fact P L ops H o snap v p) {j : Nat} (hj : ops[j]? = some o) (r : Rel ρ H w) {a : Act} (hv : ∀ t ∈ o.looksAt ops, RV ρ (snap t) (a.eval (.tmp t)))
    (hlt : ∀ t ∈ o.looksAt ops, t < a.tmps.size) (hp : ∀ q, p = some q → ρ q = none) {K : Act → World → Prop} {Q : Exit → Act → World → Prop}
    (hk : ∀ ρ' w' y, LateR p ρ H w ρ' w' → RV ρ' v y → K (a.put o.dst y) w') : wpOp P ops Q j K a w := by
  unfold wpOp
  simp only [hj]
  cases f with
  | skip hg =>
    rw [if_neg (by rw [hg.wanted hv hlt]; simp)]
    exact hk ρ w undef (Stp.refl r) (.tup [] #[] rfl (by simp))
  | run hg e vars stk _ hs hf hr =>
    rw [if_pos (hg.wanted hv hlt)]
    left
    have hn : NF (runOp (cOp P L e o.op) (fun _ _ _ => .fail 0) kAll vars stk H) := by rw [hr]; intro n hh; cases hh
    obtain ⟨v', h', ρ', w', n, h1, h2, h3, h4⟩ := cOp_ok (k := kAll) L e r o a.eval (operand_of (H := H) hs hv) rfl (float_plain hf) hn
    rw [hr] at h1
    have h5 : v = v' ∧ H = h' := by unfold kAll at h1; cases h1; exact ⟨rfl, rfl⟩
    obtain ⟨rfl, rfl⟩ := h5
    unfold Oper.wp
    rw [h3]
    rcases h4 with ⟨y, rfl, hy⟩ | ⟨rfl, rfl⟩
    · exact hk ρ' w' y h2 hy
    · exact hk ρ' w' undef h2 (.undef _)
  | alloc hg e vars stk _ h1 ob hs ha hr hobj =>
    rw [if_pos (hg.wanted hv hlt)]
    left
    have hn : NF (runOp (cOp P L e o.op) (fun _ _ _ => .fail 0) kAll vars stk h1) := by rw [hr]; intro n hh; cases hh
    obtain ⟨o2, v', co, l, y, a1, a2, a3, a4⟩ := cOp_alloc (w := w) (k := kAll) L e o a.eval (operand_of (H := H) hs hv) rfl ha hn
    rw [hr] at a1
    have h5 : v = v' ∧ h1.new ob = h1.new o2 := by unfold kAll at a1; injection a1 with b1 b2 b3; injection b1 with b4 _; exact ⟨b4, b3⟩
    obtain ⟨rfl, h6⟩ := h5
    have := obj_new_inj h6
    subst this
    unfold Oper.wp
    rw [a2, Oper.upon_value]
    have hq := hp h1.nx rfl
    obtain ⟨b1, b2⟩ := a4 (ρ.set h1.nx l) (Emb.le_set l hq) (Emb.set_same _ _ _)
    exact hk _ _ y ⟨l, co, ob, rfl, rfl, a3, hobj, b1⟩ b2
theorem Fact.ext {H H' : AH} {o : Oper} {snap : Nat → AV} {v : AV} {p : Option Pos} (f : Fact P L ops H o snap v p) (hx : Ext H H') : Fact P L ops H' o snap v p := by
  cases f with
  | skip hg => exact .skip hg
  | run hg e vars stk _ hs hf hr =>
    have hn : NF (runOp (cOp P L e o.op) (fun _ _ _ => .fail 0) kAll vars stk H) := by rw [hr]; intro n hh; cases hh
    obtain ⟨v', hv'⟩ := float_ok hf hn
    have : v = v' := by
      have h1 := hv' H (fun _ _ _ h => h) (fun _ _ _ => .fail 0) kAll
      rw [hr] at h1
      unfold kAll at h1; cases h1; rfl
    subst this
    exact .run hg e vars stk v hs hf fun rec k => hv' H' (fun _ => hx) rec k
  | alloc hg e vars stk _ h1 ob hs ha hr hobj => exact .alloc hg e vars stk v h1 ob hs ha hr (hx _ _ hobj)

theorem late_stp {ρ₀ : Emb} {h₀ : AH} {w₀ : World} {H : AH} (s : Stp ρ₀ h₀ w₀ ρ H w) {p : Option Pos} (hp : ∀ q, p = some q → ρ q = none ∧ h₀.nx.num ≤ q.num ∧ q.num < H.nx.num) {ρ' : Emb} {w' : World} (l : LateR p ρ H w ρ' w') :
    Stp ρ₀ h₀ w₀ ρ' H w' ∧ ρ.le ρ' ∧ ∀ q, p ≠ some q → q.num < H.nx.num → ρ q = none → ρ' q = none := by
  cases p with
  | none =>
    have l' : Stp ρ H w ρ' H w' := l
    exact ⟨s.trans l', l'.le, fun q _ h1 h2 => (l'.unr q h1 h2).1⟩
  | some q =>
    obtain ⟨lo, co, ob, rfl, rfl, h3, h4, h5⟩ := l
    obtain ⟨p1, p2, p3⟩ := hp q rfl
    have r := s.rel
    have hle := Emb.le_set lo p1
    have old : ∀ k, k < w.heap.size → (w.alloc co).heap[k]? = w.heap[k]? := fun k hk => by
      show (w.heap.push co)[k]? = _
      rw [Array.getElem?_push, if_neg (by omega)]
    have off : ∀ {p m}, p ≠ q → (ρ.set q lo) p = some m → ρ p = some m := fun e hm => by simpa [Emb.set, e] using hm
    refine ⟨⟨fun p m e => hle p m (s.le p m e), ⟨?_, ?_, ?_, ?_⟩, s.nx, s.os, s.tape, s.output, ?_, ?_, ?_, ?_, s.drawn⟩, hle, ?_⟩
    · intro p o' hp' m hm
      by_cases e : p = q
      · subst e
        rw [Emb.set_same] at hm
        cases hm
        rw [h4] at hp'; cases hp'
        exact h5
      · have hm' := off e hm
        have ob' := r.obj p o' hp' m hm'
        exact (ob'.world (old _ ob'.inb)).mono hle
    · intro a b m n ha hb hm hn e
      by_cases ea : a = q
      · by_cases eb : b = q
        · exact ea.trans eb.symm
        · exfalso
          have := r.live_lt hb (off eb hn)
          rw [ea, Emb.set_same] at hm; cases hm; omega
      · by_cases eb : b = q
        · exfalso
          have := r.live_lt ha (off ea hm)
          rw [eb, Emb.set_same] at hn; cases hn; omega
        · exact r.inj a b m n ha hb (off ea hm) (off eb hn) e
    · intro p m hm
      by_cases e : p = q
      · subst e; exact p3
      · exact r.fresh1 p m (off e hm)
    · exact r.fresh2
    · have := s.size
      show w₀.heap.size ≤ (w.heap.push co).size
      rw [Array.size_push]; omega
    · intro k hk hn
      rw [old k (Nat.lt_of_lt_of_le hk s.size)]
      exact s.frame k hk hn
    · intro p l' hp' hl'
      by_cases e : p = q
      · subst e; rw [Emb.set_same] at hl'; cases hl'; left; rw [h3]; exact s.size
      · exact s.cov p l' hp' (off e hl')
    · intro p hlt e0
      have ne : p ≠ q := fun e => by subst e; omega
      obtain ⟨u1, u2⟩ := s.unr p hlt e0
      exact ⟨by simp [Emb.set, ne, u1], u2⟩
    · intro p' hne hlt hn
      have ne : p' ≠ q := fun e => hne (by rw [e])
      simp [Emb.set, ne, hn]
theorem early_stp {ρ₀ : Emb} {h₀ : AH} {w₀ : World} {H : AH} (s : Stp ρ₀ h₀ w₀ ρ H w) (ob : Obj) : Stp ρ₀ h₀ w₀ ρ (H.new ob) w ∧ ρ H.nx = none ∧ Ext H (H.new ob) := by
  have r := s.rel
  have hn := r.nx_none
  have old : ∀ {p o}, (H.new ob).obj p = some o → ρ p ≠ none → H.obj p = some o := fun {p o} hp hne => by
    rw [AH.obj_new] at hp
    by_cases e : p = H.nx
    · subst e; exact absurd hn hne
    · rwa [if_neg e] at hp
  refine ⟨⟨s.le, ⟨?_, ?_, ?_, ?_⟩, ?_, s.os, s.tape, s.output, s.size, s.frame, ?_, ?_, s.drawn⟩, hn, ?_⟩
  · intro p o hp l hl
    exact r.obj p o (old hp (by simp [hl])) l hl
  · intro a b m n ha hb hm hn' e
    have f : ∀ {a m}, (H.new ob).obj a ≠ none → ρ a = some m → H.obj a ≠ none := fun {a m} ha hm => by
      cases ho : (H.new ob).obj a with
      | none => exact absurd ho ha
      | some o => rw [old ho (by simp [hm])]; simp
    exact r.inj a b m n (f ha hm) (f hb hn') hm hn' e
  · intro p m hm
    rw [AH.nx_new, Pos.num_succ]
    have := r.fresh1 p m hm; omega
  · intro p hp
    rw [AH.nx_new, Pos.num_succ]
    rw [AH.obj_new] at hp
    by_cases e : p = H.nx
    · subst e; omega
    · rw [if_neg e] at hp; have := r.fresh2 p hp; omega
  · rw [AH.nx_new, Pos.num_succ]; have := s.nx; omega
  · intro p l' hp hl'
    cases ho : (H.new ob).obj p with
    | none => exact absurd ho hp
    | some o => exact s.cov p l' (by rw [old ho (by simp [hl'])]; simp) hl'
  · intro p hlt e
    obtain ⟨u1, u2⟩ := s.unr p hlt e
    refine ⟨u1, ?_⟩
    have ne : p ≠ H.nx := fun e => by subst e; have := s.nx; omega
    rw [AH.obj_new, if_neg ne]; exact u2
  · intro p o hp
    rw [AH.obj_new, if_neg]
    · exact hp
    · rintro rfl; rw [r.nx_free] at hp; cases hp
end
end Go.Ev
