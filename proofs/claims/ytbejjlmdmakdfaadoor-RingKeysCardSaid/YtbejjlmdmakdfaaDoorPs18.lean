/- PSem, part 18: a region that draws its order: every order ends alike. -/
import Derived.Test.YtbejjlmdmakdfaaDoorPs17
set_option linter.all false
set_option linter.unusedVariables false
set_option linter.unusedSimpArgs false
set_option linter.unnecessarySimpa false
set_option linter.unusedSimpArgs false
set_option linter.unusedVariables false
namespace Ps
open Go
section
variable {P : Program} {tt : TT} {imm : List Nat} {g0 : Gh} {w0 : World} {H0 : PH} {F0 : Nat → Prop} {N : Nat}

theorem pHs_spec {Hs : List PH} {p : PH → PH → Prop} {d : Nat} : ∀ {m lo : Nat}, pHs Hs p d lo m → ∀ k, lo ≤ k → k ≤ lo + m → p (hk Hs k) (hk Hs (k + d))
  | 0, lo, h, k, h1, h2 => by
    have : k = lo := by omega
    subst this; exact h
  | m + 1, lo, h, k, h1, h2 => by
    by_cases e : k = lo
    · subst e; exact h.1
    · exact pHs_spec h.2 k (by omega) (by omega)

theorem pDr_V {ops : List Oper} {D : Draw} {Hs : List PH} {K : Env → Prop} : ∀ (rest : List Oper) (i : Nat) (E : Env) (L0 : Env), (∀ k, rest[k]? = ops[i + k]?) → pDr P tt imm ops D Hs i rest E K →
    ∃ V : Nat → PV, ∀ V0 : Nat → PV, (∀ j, i ≤ j → V0 j = V j) → E = ovl ops D V0 L0 (fun _ => true) i →
      (∀ j o, i ≤ j → ops[j]? = some o → pHs Hs (Obl P tt imm ops D j o (ovl ops D V0 L0 (fun _ => true) j) (V0 j)) (dOf (D.isImp j)) (D.winOf j).1 ((D.winOf j).2 - (D.winOf j).1)) ∧
      K (ovl ops D V0 L0 (fun _ => true) (i + rest.length))
  | [], i, E, L0, hr, hp => ⟨fun _ => .undef, fun V0 _ hE => ⟨fun j o hj ho => by
      have := hr (j - i)
      rw [show i + (j - i) = j by omega, ho] at this
      simp at this, by rw [hE] at hp; exact hp⟩⟩
  | o :: rest, i, E, L0, hr, hp => by
    have h0 : ops[i]? = some o := by simpa using (hr 0).symm
    obtain ⟨v, h1, h2⟩ := hp
    obtain ⟨V, hV⟩ := pDr_V rest (i + 1) _ L0 (fun k => by
      have := hr (k + 1)
      simp only [List.getElem?_cons_succ] at this
      rw [this]; congr 1; omega) h2
    refine ⟨fun j => if j = i then v else V j, fun V0 hV0 hE => ?_⟩
    have hvi : V0 i = v := by rw [hV0 i (Nat.le_refl _)]; simp
    obtain ⟨k1, k2⟩ := hV V0 (fun j hj => by rw [hV0 j (by omega)]; exact if_neg (by omega)) (by simp only [ovl, h0, hvi, hE])
    refine ⟨fun j o' hj ho' => ?_, by rw [show i + (o :: rest).length = i + 1 + rest.length by simp; omega]; exact k2⟩
    by_cases e : j = i
    · subst e
      rw [h0] at ho'; cases ho'
      rw [hvi, ← hE]; exact h1
    · exact k1 j o' (by omega) ho'

theorem qOf_mem {ops : List Oper} {i : Nat} : ∀ {l : List (Nat × Nat × Src)} {p : Nat × Src}, p ∈ qOf ops i l → ∃ j, (j, i, p.2) ∈ l ∧ (ops[j]?).bind (·.dst) = some p.1
  | [], p, h => by cases h
  | (j, i', s) :: r, p, h => by
    unfold qOf at h
    split at h
    · rename_i hb
      have hb := Nat.eq_of_beq_eq_true hb
      subst hb
      split at h
      · rename_i t ht
        rcases List.mem_cons.1 h with rfl | h
        · exact ⟨j, List.mem_cons_self, ht⟩
        · obtain ⟨j', h1, h2⟩ := qOf_mem h; exact ⟨j', List.mem_cons_of_mem _ h1, h2⟩
      · obtain ⟨j', h1, h2⟩ := qOf_mem h; exact ⟨j', List.mem_cons_of_mem _ h1, h2⟩
    · obtain ⟨j', h1, h2⟩ := qOf_mem h; exact ⟨j', List.mem_cons_of_mem _ h1, h2⟩
theorem pSrcs_mem {j : Nat} {s : Option Src} : ∀ {l : List (Nat × Nat × Src)}, pSrcs j s l → ∀ i x, (j, i, x) ∈ l → s = some x
  | [], _, i, x, h => by cases h
  | (j', i', y) :: r, hp, i, x, h => by
    unfold pSrcs at hp
    split at hp
    · rcases List.mem_cons.1 h with h | h
      · cases h; exact hp.1
      · exact pSrcs_mem hp.2 i x h
    · rename_i hb
      rcases List.mem_cons.1 h with h | h
      · cases h; simp at hb
      · exact pSrcs_mem hp i x h
theorem pVers_mem {D : Draw} {Hs : List PH} : ∀ {l : List (Nat × Nat × Src)}, pVers D Hs l → ∀ j i id off, (j, i, Src.cell id off) ∈ l → ∀ k, (D.winOf j).1 ≤ k → k < (D.winOf i).2 → sameVer id (hk Hs k) (hk Hs (k + 1))
  | [], _, j, i, id, off, h => by cases h
  | (j', i', y) :: r, hp, j, i, id, off, h => by
    rcases List.mem_cons.1 h with h | h
    · cases h; exact hp.1
    · exact pVers_mem hp.2 j i id off h

/-- How all stands where the operations of L are done. -/
structure DSt (P : Program) (g0 : Gh) (w0 : World) (H0 : PH) (F0 : Nat → Prop) (N : Nat) (ops : List Oper) (D : Draw) (V : Nat → PV) (E0 : Env) (Hs : List PH) (L : Nat → Bool) (g : Gh) (w : World) (a : Act) : Prop where
  inv : Inv P g0 w0 H0 F0 N g w a (ovl ops D V E0 L ops.length) (hk Hs (cnt (fun j => D.isImp j && L j) ops.length))
  src : ∀ j i s t, (j, i, s) ∈ D.fs → L j = true → L i = false → (ops[j]?).bind (·.dst) = some t → SrcIs a g w (vals a t) s

theorem ord_spec {A : List (List Bool)} {i j : Nat} (h : ord A i j = true) : i = j ∨ (j < i ∧ W A i j = true) ∨ (i < j ∧ W A j i = true) := by
  simp only [ord, Bool.or_eq_true, Bool.and_eq_true, Nat.blt_eq] at h
  rcases h with (h | h) | h
  · exact .inl (Nat.eq_of_beq_eq_true h)
  · exact .inr (.inl h)
  · exact .inr (.inr h)

theorem dstIs_eq {ops : List Oper} {j t : Nat} : dstIs ops j t = true ↔ (ops[j]?).bind (·.dst) = some t := by
  unfold dstIs
  cases (ops[j]?).bind (·.dst) with
  | none => simp
  | some d => simp

theorem allN_imp {p q : Nat → Bool} {n : Nat} (h : allN (fun j => !p j || q j) n = true) {j : Nat} (hj : j < n) (hp : p j = true) : q j = true := by
  have := allN_spec h j hj
  rw [hp] at this; simpa using this

/-- What is checked of an operation. -/
structure OpOk (N : Nat) (ops : List Oper) (D : Draw) (i : Nat) (o : Oper) : Prop where
  back : ∀ e ∈ o.after.toList, Region.binds .any e = true → e.on < i
  dst : ∀ d, o.dst = some d → d < N ∧ ∀ j, j < ops.length → touch ops D j d = true → ord (ancs ops []) i j = true
  cons : ∀ t ∈ D.consOf i, ∀ j, j < ops.length → touch ops D j t = true → ord (ancs ops []) i j = true
  reads : ∀ t ∈ opReads ops o, ∀ j, j < ops.length → dstIs ops j t = true → ord (ancs ops []) i j = true
  imp : D.isImp i = true → ∀ j, j < ops.length → D.isImp j = true → ord (ancs ops []) i j = true
  lo : (D.winOf i).1 ≤ cnt (fun j => D.isImp j && W (ancs ops []) i j) ops.length
  hi : cnt (fun j => D.isImp j && (!Nat.beq j i && !W (ancs ops []) j i)) ops.length ≤ (D.winOf i).2

theorem opOk_spec {ops : List Oper} {D : Draw} {i : Nat} {o : Oper} (h : opOk N ops.length ops (ancs ops []) D i o = true) : OpOk N ops D i o := by
  simp only [opOk, Bool.and_eq_true] at h
  obtain ⟨⟨⟨⟨⟨⟨h1, h2⟩, h3⟩, h4⟩, h5⟩, h6⟩, h7⟩ := h
  refine ⟨fun e he hb => ?_, fun d hd => ?_, fun t ht j hj hp => ?_, fun t ht j hj hp => ?_, fun hi j hj hp => ?_, Nat.le_of_ble_eq_true h6, Nat.le_of_ble_eq_true h7⟩
  · have := List.all_eq_true.1 h1 e he
    rw [hb] at this
    simpa [Nat.blt_eq] using this
  · rw [hd] at h2
    simp only [Bool.and_eq_true, Nat.blt_eq] at h2
    exact ⟨h2.1, fun j hj hp => allN_imp h2.2 hj hp⟩
  · exact allN_imp (List.all_eq_true.1 h3 t ht) hj hp
  · exact allN_imp (List.all_eq_true.1 h4 t ht) hj hp
  · rw [hi] at h5
    exact allN_imp (by simpa using h5) hj hp

section
variable {ops : List Oper} {D : Draw} {V : Nat → PV} {E0 : Env} {Hs : List PH} {L : Nat → Bool}

def Closed (ops : List Oper) (L : Nat → Bool) : Prop := ∀ i o, ops[i]? = some o → L i = true → ∀ e ∈ o.after.toList, Region.binds .any e = true → L e.on = true

theorem blt_self (i : Nat) : Nat.blt i i = false := by
  cases h : Nat.blt i i with
  | false => rfl
  | true => have : i < i := by simpa [Nat.blt_eq] using h
            omega

/-- At an operation whose turn may come, what is ordered with it lies where the text has it. -/
theorem ord_side (hc : Closed ops L) {i j : Nat} {o : Oper} (ho : ops[i]? = some o) (hi : L i = false) (hr : ∀ e ∈ o.after.toList, Region.binds .any e = true → L e.on = true) (hj : j < ops.length)
    (h : ord (ancs ops []) i j = true) : L j = Nat.blt j i := by
  rcases ord_spec h with rfl | ⟨h1, h2⟩ | ⟨h1, h2⟩
  · rw [hi, blt_self]
  · have := waits (L := fun j => L j = true) hc ho h2 hr
    rw [this]; symm; simpa [Nat.blt_eq] using h1
  · have hnb : Nat.blt j i = false := by
      cases hb : Nat.blt j i with
      | false => rfl
      | true => have : j < i := by simpa [Nat.blt_eq] using hb
                omega
    rw [hnb]
    cases hl : L j with
    | false => rfl
    | true =>
      have := waits (L := fun j => L j = true) hc (List.getElem?_eq_getElem hj) h2 (hc j _ (List.getElem?_eq_getElem hj) hl)
      rw [hi] at this; cases this
theorem W_not (hc : Closed ops L) {i j : Nat} (hi : L i = false) (hj : j < ops.length) (hl : L j = true) : W (ancs ops []) j i = false := by
  cases h : W (ancs ops []) j i with
  | false => rfl
  | true =>
    have := waits (L := fun j => L j = true) hc (List.getElem?_eq_getElem hj) h (hc j _ (List.getElem?_eq_getElem hj) hl)
    rw [hi] at this; cases this

/-- What is checked of a source. -/
structure FsOk (ops : List Oper) (j i : Nat) (s : Src) : Prop where
  lj : j < ops.length
  li : i < ops.length
  w : W (ancs ops []) i j = true
  dst : ∃ t, (ops[j]?).bind (·.dst) = some t ∧ (∀ j', j' < ops.length → (ops[j']?).bind (·.dst) = some t → j' = j ∨ W (ancs ops []) j j' = true ∨ W (ancs ops []) j' i = true ∨ j' = i) ∧
    ∀ s', s = .slot s' → s' ≠ t ∧ ∀ j', j' < ops.length → (ops[j']?).bind (·.dst) = some s' → W (ancs ops []) j j' = true ∨ W (ancs ops []) j' i = true ∨ j' = i
theorem fsOk_spec {j i : Nat} {s : Src} (h : fsOk ops.length ops (ancs ops []) (j, i, s) = true) : FsOk ops j i s := by
  simp only [fsOk, Bool.and_eq_true, Nat.blt_eq] at h
  obtain ⟨⟨⟨h1, h2⟩, h3⟩, h4⟩ := h
  refine ⟨h1, h2, h3, ?_⟩
  split at h4
  · rename_i t ht
    rw [Bool.and_eq_true] at h4
    refine ⟨t, ht, fun j' hj' hd => ?_, fun s' hs => ?_⟩
    · have := allN_spec h4.1 j' hj'
      rw [dstIs_eq.2 hd] at this
      simp only [Bool.not_true, Bool.false_or, Bool.or_eq_true] at this
      rcases this with ((h | h) | h) | h
      · exact .inl (Nat.eq_of_beq_eq_true h)
      · exact .inr (.inl h)
      · exact .inr (.inr (.inl h))
      · exact .inr (.inr (.inr (Nat.eq_of_beq_eq_true h)))
    · subst hs
      have h5 := h4.2
      simp only [Bool.and_eq_true] at h5
      refine ⟨fun e => ?_, fun j' hj' hd => ?_⟩
      · rw [e] at h5; simp at h5
      · have := allN_spec h5.2 j' hj'
        rw [dstIs_eq.2 hd] at this
        simp only [Bool.not_true, Bool.false_or, Bool.or_eq_true] at this
        rcases this with (h | h) | h
        · exact .inl h
        · exact .inr (.inl h)
        · exact .inr (.inr (Nat.eq_of_beq_eq_true h))
  · cases h4

theorem beq_ne {i j : Nat} (h : i ≠ j) : Nat.beq i j = false := by
  cases hb : Nat.beq i j with
  | false => rfl
  | true => exact absurd (Nat.eq_of_beq_eq_true hb) h

def setL (L : Nat → Bool) (i : Nat) : Nat → Bool := fun j => if j = i then true else L j
theorem Closed.set (hc : Closed ops L) {i : Nat} {o : Oper} (ho : ops[i]? = some o) (hr : ∀ e ∈ o.after.toList, Region.binds .any e = true → L e.on = true) : Closed ops (setL L i) := by
  intro j oj hoj hl e he hb
  unfold setL at hl ⊢
  split
  · rfl
  · split at hl
    · rename_i hji
      subst hji
      rw [ho] at hoj; cases hoj
      exact hr e he hb
    · exact hc j oj hoj hl e he hb

theorem cnt_lo (hc : Closed ops L) {i : Nat} {o : Oper} (ho : ops[i]? = some o) (hr : ∀ e ∈ o.after.toList, Region.binds .any e = true → L e.on = true) :
    cnt (fun j => D.isImp j && W (ancs ops []) i j) ops.length ≤ cnt (fun j => D.isImp j && L j) ops.length := cnt_mono fun j hj h => by
  rw [Bool.and_eq_true] at h ⊢
  exact ⟨h.1, waits (L := fun j => L j = true) hc ho h.2 hr⟩
theorem cnt_hi (hc : Closed ops L) {i : Nat} (hi : L i = false) :
    cnt (fun j => D.isImp j && L j) ops.length ≤ cnt (fun j => D.isImp j && (!Nat.beq j i && !W (ancs ops []) j i)) ops.length := cnt_mono fun j hj h => by
  rw [Bool.and_eq_true] at h ⊢
  refine ⟨h.1, ?_⟩
  rw [W_not hc hi hj h.2]
  have : j ≠ i := fun e => by rw [e, hi] at h; cases h.2
  rw [beq_ne this]; rfl

/-- One operation more. -/
theorem dstep (hT : ttOk P tt = true) (hd : 6 ≤ P.depth) {arr : Array Oper} {Q' : Exit → Act → World → Prop}
    (hok : ∀ i o, arr.toList[i]? = some o → OpOk N arr.toList D i o) (hfs : ∀ j i s, (j, i, s) ∈ D.fs → FsOk arr.toList j i s) (hver : pVers D Hs D.fs)
    (hobl : ∀ j o, arr.toList[j]? = some o → pHs Hs (Obl P tt imm arr.toList D j o (ovl arr.toList D V E0 (fun _ => true) j) (V j)) (dOf (D.isImp j)) (D.winOf j).1 ((D.winOf j).2 - (D.winOf j).1))
    {g : Gh} {w : World} {a : Act} (st : DSt P g0 w0 H0 F0 N arr.toList D V E0 Hs L g w a) (hc : Closed arr.toList L) {i : Nat} {o : Oper} (ho : arr.toList[i]? = some o) (hi : L i = false)
    (hr : ∀ e ∈ o.after.toList, Region.binds .any e = true → L e.on = true) {K : Act → World → Prop}
    (hk' : ∀ g' w' a', DSt P g0 w0 H0 F0 N arr.toList D V E0 Hs (setL L i) g' w' a' → K a' w') : wpOp P arr Q' i K a w := by
  generalize hops : arr.toList = ops at *
  have hin : i < ops.length := (List.getElem?_eq_some_iff.1 ho).1
  have ok := hok i o ho
  have hmin : min ops.length i = i := Nat.min_eq_right (Nat.le_of_lt hin)
  have hcons : ∀ t ∈ D.consOf i, (ovl ops D V E0 L ops.length).get t = (ovl ops D V E0 (fun _ => true) i).get t := fun t ht => by
    rw [ovl_cmp (L' := fun j => Nat.blt j i) _ fun j hj htj => ord_side hc ho hi hr hj (ok.cons t ht j hj htj), ovl_prefix, hmin]
  have hreads : ∀ t ∈ opReads ops o, dmt ((ovl ops D V E0 L ops.length).get t) = dmt ((ovl ops D V E0 (fun _ => true) i).get t) := fun t ht => by
    rw [ovl_cmp_dem (L' := fun j => Nat.blt j i) _ fun j hj htj => ord_side hc ho hi hr hj (ok.reads t ht j hj htj), ovl_prefix, hmin]
  have hrestr : restr ops D i o (ovl ops D V E0 (fun _ => true) i) = restr ops D i o (ovl ops D V E0 L ops.length) := by
    unfold restr
    rw [restrR_congr _ hreads, restrC_congr _ hcons]
  have hlo := Nat.le_trans ok.lo (cnt_lo (D := D) hc ho hr)
  have hhi := Nat.le_trans (cnt_hi (D := D) hc hi) ok.hi
  have hob := pHs_spec (hobl i o ho) _ hlo (by omega)
  unfold Obl at hob
  rw [hrestr] at hob
  generalize hE : ovl ops D V E0 L ops.length = EL at *
  generalize hkk : cnt (fun j => D.isImp j && L j) ops.length = k at *
  have hkL : cnt (fun j => D.isImp j && setL L i j) ops.length = k + dOf (D.isImp i) := by
    cases him : D.isImp i with
    | true =>
      rw [← hkk]
      exact cnt_put (i := i) (by rw [hi, Bool.and_false]) (by rw [him]; simp [setL]) (fun j hj => by simp [setL, hj]) hin
    | false =>
      rw [← hkk]
      exact cnt_congr fun j hj => by
        by_cases e : j = i
        · subst e; rw [him]; rfl
        · simp [setL, e]
  have hinv : Inv P g0 w0 H0 F0 N g w a EL (hk Hs k) := by have := st.inv; rw [hE, hkk] at this; exact this
  have hq : QRel a g w (qOf ops i D.fs) := fun p hp => by
    obtain ⟨j, h1, h2⟩ := qOf_mem hp
    exact st.src j i p.2 p.1 h1 (waits (L := fun j => L j = true) hc ho (hfs _ _ _ h1).w hr) hi h2
  have hR : ∀ t, (restr ops D i o EL).get t = EL.get t ∨ (restr ops D i o EL).get t = dmt (EL.get t) ∨ (restr ops D i o EL).get t = .undef := fun t => by
    unfold restr
    rw [restrC_get]
    by_cases h : t ∈ D.consOf i
    · rw [if_pos h]; exact .inl rfl
    · rw [if_neg h, restrR_get]
      by_cases h2 : t ∈ opReads ops o
      · rw [if_pos h2]; exact .inr (.inl rfl)
      · rw [if_neg h2]; exact .inr (.inr rfl)
  have hR3 : ∀ t, ((demE EL (D.consOf i)).get t = EL.get t ∧ ∀ i' b, ¬ ownAt (vals a t) ((restr ops D i o EL).get t) i' b) ∨ (demE EL (D.consOf i)).get t = dmt (EL.get t) := fun t => by
    rw [demE_get]
    unfold restr
    rw [restrC_get]
    by_cases h : t ∈ D.consOf i
    · rw [if_pos h]; exact .inr rfl
    · rw [if_neg h, if_neg h, restrR_get]
      refine .inl ⟨rfl, fun i' b hb => ?_⟩
      split at hb
      · exact ownAt_dmt hb
      · cases hb.2.1
  have hget : ∀ t, (ovl ops D V E0 (setL L i) ops.length).get t = (stepO D i o (V i) EL).get t := fun t => by
    rw [stepO_get, ← hE]
    by_cases ht : touch ops D i t = true
    · have hside : ∀ j, j < ops.length → touch ops D j t = true → ord (ancs ops []) i j = true := fun j hj htj => by
        simp only [touch, Bool.or_eq_true] at ht
        rcases ht with ht | ht
        · have hdst : o.dst = some t := by have := dstIs_eq.1 ht; rw [ho] at this; exact this
          exact (ok.dst t hdst).2 j hj htj
        · exact ok.cons t (by simpa using ht) j hj htj
      have e1 : (ovl ops D V E0 L ops.length).get t = (ovl ops D V E0 (fun _ => true) i).get t := by
        rw [ovl_cmp (L' := fun j => Nat.blt j i) _ fun j hj htj => ord_side hc ho hi hr hj (hside j hj htj), ovl_prefix, hmin]
      have e2 : (ovl ops D V E0 (setL L i) ops.length).get t = (ovl ops D V E0 (fun _ => true) (i + 1)).get t := by
        rw [ovl_cmp (L' := fun j => Nat.blt j (i + 1)) _ fun j hj htj => ?_, ovl_prefix, Nat.min_eq_right (by omega)]
        unfold setL
        by_cases e : j = i
        · subst e; rw [if_pos rfl]; symm; simp [Nat.blt_eq]
        · rw [if_neg e, ord_side hc ho hi hr hj (hside j hj htj)]
          have : (Nat.blt j i = true) ↔ (Nat.blt j (i + 1) = true) := by simp only [Nat.blt_eq]; omega
          exact Bool.eq_iff_iff.2 this
      rw [e2, e1]
      simp only [ovl, ho, stepO_get]
    · have ht : touch ops D i t = false := by simpa using ht
      obtain ⟨k1, k2⟩ := touch_not ho ht
      rw [if_neg k1, if_neg k2]
      refine ovl_cmp _ fun j hj htj => ?_
      unfold setL
      by_cases e : j = i
      · subst e; rw [ht] at htj; cases htj
      · rw [if_neg e]
  have hcset := hc.set ho hr
  have hput : ∀ (g' : Gh) (w' : World) (v : Value) (s : Option Src), Post P g0 w0 H0 F0 N a g' w' (demE EL (D.consOf i)) [] (hk Hs (k + dOf (D.isImp i))) v (V i) s → pSrcs i s D.fs →
      (∀ (id b : Nat), g.ι[id]? = some (some b) → g'.ι[id]? = some (some b)) → Same g w (hk Hs k) w' (hk Hs (k + dOf (D.isImp i))) → K (a.put o.dst v) w' := fun g' w' v s hpost hsr hι hsame => by
    refine hk' g' w' _ ⟨?_, fun j i' x t hm hj hi' ht => ?_⟩
    · rw [hkL]
      have : ∃ E' q', Inv P g0 w0 H0 F0 N g' w' (a.put o.dst v) E' (hk Hs (k + dOf (D.isImp i))) ∧ QRel (a.put o.dst v) g' w' q' ∧ E' = stepO D i o (V i) EL := by
        refine hpost.next (K := fun E' _ => E' = stepO D i o (V i) EL) ?_
        unfold pPut stepO putE
        cases hdst : o.dst with
        | none => rfl
        | some d =>
          have : Nat.blt d N = true := by simpa [Nat.blt_eq] using (ok.dst d hdst).1
          simp only [this]
      obtain ⟨E', q', h1, _, rfl⟩ := this
      exact h1.sub fun t => .inl (hget t)
    · have hf := hfs j i' x hm
      obtain ⟨t', ht', hw1, hw2⟩ := hf.dst
      rw [ht] at ht'; cases ht'
      have hi'n : i' ≠ i := fun e => by subst e; simp [setL] at hi'
      have hLi' : L i' = false := by simpa [setL, hi'n] using hi'
      have hvput : ∀ d, vals (a.put o.dst v) d = if o.dst = some d then v else vals a d := fun d => by
        cases hdst : o.dst with
        | none => simp [Act.put]
        | some d' =>
          rw [vals_put a d' d v (by rw [hinv.size]; exact (ok.dst d' hdst).1)]
          by_cases e : d = d'
          · subst e; simp
          · rw [if_neg e, if_neg (by simp; exact fun h => e h.symm)]
      by_cases hji : j = i
      · subst hji
        have hdst : o.dst = some t := by rw [ho] at ht; exact ht
        have hs := hpost.src x (pSrcs_mem hsr i' x hm)
        rw [hvput, if_pos hdst]
        cases x with
        | slot s' =>
          have hne := (hw2 s' rfl).1
          show v = vals _ s'
          rw [hvput, if_neg (by rw [hdst]; simp; exact fun h => hne h.symm)]
          exact hs
        | cell id off => exact hs
      · have hLj : L j = true := by simpa [setL, hji] using hj
        have hold := st.src j i' x t hm hLj hLi' ht
        have hni : ∀ d, (ops[i]?).bind (·.dst) = some d → (W (ancs ops []) j i = true ∨ W (ancs ops []) i i' = true ∨ i = i') → False := fun d hd h => by
          rcases h with h | h | h
          · have := W_not hc hi hf.lj hLj; rw [this] at h; cases h
          · have := waits (L := fun j => L j = true) hc ho h hr; rw [hLi'] at this; cases this
          · exact hi'n h.symm
        have hnt : o.dst ≠ some t := fun e => by
          have hd : (ops[i]?).bind (·.dst) = some t := by rw [ho]; exact e
          rcases hw1 i hin hd with h | h
          · exact hji h.symm
          · exact hni t hd h
        rw [hvput, if_neg hnt]
        cases x with
        | slot s' =>
          have hns : o.dst ≠ some s' := fun e => by
            have hd : (ops[i]?).bind (·.dst) = some s' := by rw [ho]; exact e
            exact hni s' hd ((hw2 s' rfl).2 i hin hd)
          show vals a t = vals _ s'
          rw [hvput, if_neg hns]; exact hold
        | cell id off =>
          obtain ⟨b, h1, h2⟩ := hold
          refine ⟨b, hι id b h1, ?_⟩
          rw [← h2]
          have hsv : sameVer id (hk Hs k) (hk Hs (k + dOf (D.isImp i))) := by
            cases him : D.isImp i with
            | false =>
              obtain ⟨o1, ho1⟩ := hinv.rel.h.ex h1
              exact ⟨o1, o1, ho1, ho1, rfl⟩
            | true =>
              have hoj := List.getElem?_eq_getElem hf.lj
              have hoi' := List.getElem?_eq_getElem hf.li
              refine pVers_mem hver j i' id off hm k ?_ ?_
              · rw [← hkk]; exact Nat.le_trans (hok j _ hoj).lo (cnt_lo hc hoj (hc j _ hoj hLj))
              · have := Nat.le_trans (cnt_hi (D := D) hcset hi') (hok i' _ hoi').hi
                rw [hkL, him] at this
                exact this
          obtain ⟨o1, o2, k1, k2, k3⟩ := hsv
          exact cell?_of_heap (hsame.same id b o1 o2 h1 k1 k2 k3).2 off
  have harr : arr[i]? = some o := by rw [← Array.getElem?_toList, hops]; exact ho
  unfold wpOp
  rw [harr]
  have hreb := hinv.rebase hR
  rw [← hops] at hob hreb
  rcases guard_ok hreb hob with ⟨h1, h2⟩ | ⟨h1, h2⟩
  · simp only [h1, if_true]
    have hq' : QRel a g w (qOf arr.toList i D.fs) := by rw [hops]; exact hq
    refine .inl (pOp_sound hT hd hreb hq' h2 _ _ fun g' w' v p s E' q' H' hpost hkk' => ?_)
    obtain ⟨rfl, rfl, hsr⟩ := hkk'
    rw [hops] at hpost
    have hpost2 := Post.frame hinv hR hR3 hpost
    exact hput g' w' v s ⟨hpost2.inv, hpost2.vc, hpost2.ow, hpost2.inj, QRel.nil, hpost2.src⟩ hsr hpost.inv.step.keeps.ι hpost.inv.step.fr
  · simp only [h1]
    obtain ⟨e1, e2, e3⟩ := h2
    have hinv3 : Inv P g0 w0 H0 F0 N g w a (demE EL (D.consOf i)) (hk Hs k) := hinv.subd fun t => by
      rcases hR3 t with h | h
      · exact .inl h.1
      · exact .inr (.inl h)
    refine hput g w undef none ?_ e3 (fun _ _ h => h) (by rw [e2]; exact Same.refl _ _ _)
    rw [e1, e2]
    exact Post.ofV hinv3 (.undef _) QRel.nil

theorem exists_ready {arr : Array Oper} {listed : Array Bool} (hb : ∀ i o, arr.toList[i]? = some o → ∀ e ∈ o.after.toList, Region.binds .any e = true → e.on < i) (hs : listed.size = arr.size) :
    ∀ (n : Nat), n < arr.size → listed.getD n true = false → Region.ready .any arr listed ≠ [] := by
  intro n
  induction n using Nat.strongRecOn with
  | _ n ih =>
    intro hn hl he
    by_cases h : ∃ m, m < n ∧ listed.getD m true = false
    · obtain ⟨m, hm, hl'⟩ := h
      exact ih m hm (by omega) hl' he
    · have hmem : n ∈ Region.ready .any arr listed := mem_ready.2 ⟨hl, arr[n], Array.getElem?_eq_getElem hn, fun e he hbd => by
        have hlt := hb n arr[n] (by rw [Array.getElem?_toList, Array.getElem?_eq_getElem hn]) e (by simpa using he) hbd
        have hsz : e.on < listed.size := by omega
        cases hle : listed.getD e.on true with
        | false => exact absurd ⟨e.on, hlt, hle⟩ h
        | true => simpa [Array.getD_eq_getD_getElem?, Array.getElem?_eq_getElem hsz] using hle⟩
      rw [he] at hmem; cases hmem

def Lof (listed : Array Bool) (j : Nat) : Bool := listed.getD j false
theorem Lof_set {listed : Array Bool} {i : Nat} (h : i < listed.size) : Lof (listed.setIfInBounds i true) = setL (Lof listed) i := by
  funext j
  unfold Lof setL
  by_cases e : j = i
  · subst e; simp [h]
  · rw [if_neg e, getD_set_ne false (Ne.symm e)]

theorem draw_any (hT : ttOk P tt = true) (hd : 6 ≤ P.depth) {arr : Array Oper} {Q' : Exit → Act → World → Prop}
    (hok : ∀ i o, arr.toList[i]? = some o → OpOk N arr.toList D i o) (hfs : ∀ j i s, (j, i, s) ∈ D.fs → FsOk arr.toList j i s) (hver : pVers D Hs D.fs)
    (hobl : ∀ j o, arr.toList[j]? = some o → pHs Hs (Obl P tt imm arr.toList D j o (ovl arr.toList D V E0 (fun _ => true) j) (V j)) (dOf (D.isImp j)) (D.winOf j).1 ((D.winOf j).2 - (D.winOf j).1))
    (hq : ∀ g w a, Inv P g0 w0 H0 F0 N g w a (ovl arr.toList D V E0 (fun _ => true) arr.toList.length) (hk Hs (cnt D.isImp arr.toList.length)) → Q' .normal a w) :
    ∀ (fuel : Nat) (listed : Array Bool) (g : Gh) (w : World) (a : Act), listed.size = arr.size → Closed arr.toList (Lof listed) → cnt (fun j => !Lof listed j) arr.size = fuel →
      DSt P g0 w0 H0 F0 N arr.toList D V E0 Hs (Lof listed) g w a → wpAny P .any arr Q' fuel listed a w := by
  have hall : ∀ (listed : Array Bool) (g : Gh) (w : World) (a : Act), listed.size = arr.size → (∀ j, j < arr.size → Lof listed j = true) → DSt P g0 w0 H0 F0 N arr.toList D V E0 Hs (Lof listed) g w a → Q' .normal a w := fun listed g w a hs hl st => by
    refine hq g w a ?_
    have := st.inv
    rw [cnt_congr (p := fun j => D.isImp j && Lof listed j) (p' := D.isImp) fun j hj => by rw [hl j (by simpa using hj), Bool.and_true]] at this
    exact this.sub fun t => .inl (ovl_cmp _ fun j hj _ => (hl j (by simpa using hj)).symm)
  have hback : ∀ i o, arr.toList[i]? = some o → ∀ e ∈ o.after.toList, Region.binds .any e = true → e.on < i := fun i o ho => (hok i o ho).back
  have hun : ∀ (listed : Array Bool) (j : Nat), listed.size = arr.size → j < arr.size → listed.getD j true = listed.getD j false := fun listed j hs hj => by
    simp [Array.getD_eq_getD_getElem?, Array.getElem?_eq_getElem (show j < listed.size by omega)]
  intro fuel
  induction fuel with
  | zero =>
    intro listed g w a hs hc hf st
    have hl : ∀ j, j < arr.size → Lof listed j = true := fun j hj => by
      cases h : Lof listed j with
      | true => rfl
      | false =>
        have h1 : cnt (fun j' => Nat.beq j' j) arr.size ≤ cnt (fun j => !Lof listed j) arr.size := cnt_mono fun j' hj' e => by
          rw [Nat.eq_of_beq_eq_true e, h]; rfl
        have h2 : cnt (fun j' => Nat.beq j' j) arr.size = cnt (fun _ => false) arr.size + 1 := cnt_put (i := j) rfl (by simp) (fun j' e => beq_ne e) hj
        omega
    refine ⟨?_, hall listed g w a hs hl st⟩
    cases hr : Region.ready .any arr listed with
    | nil => rfl
    | cons i r =>
      have hm : i ∈ Region.ready .any arr listed := by rw [hr]; exact List.mem_cons_self
      obtain ⟨h1, o, ho, _⟩ := mem_ready.1 hm
      have hi := (Array.getElem?_eq_some_iff.1 ho).1
      rw [hun listed i hs hi] at h1
      have := hl i hi
      unfold Lof at this
      rw [h1] at this; cases this
  | succ fuel ih =>
    intro listed g w a hs hc hf st
    refine ⟨fun hr => ?_, fun i hi => ?_⟩
    · refine hall listed g w a hs (fun j hj => ?_) st
      cases h : Lof listed j with
      | true => rfl
      | false => exact absurd hr (exists_ready hback hs j hj (by rw [hun listed j hs hj]; exact h))
    · obtain ⟨h1, o, ho, hr⟩ := mem_ready.1 hi
      have hi' := (Array.getElem?_eq_some_iff.1 ho).1
      rw [hun listed i hs hi'] at h1
      have hr' : ∀ e ∈ o.after.toList, Region.binds .any e = true → Lof listed e.on = true := fun e he hb => hr e (by simpa using he) hb
      have ho' : arr.toList[i]? = some o := by rw [Array.getElem?_toList]; exact ho
      refine dstep hT hd hok hfs hver hobl st hc ho' h1 hr' fun g' w' a' st' => ?_
      rw [← Lof_set (by omega)] at st'
      refine ih _ g' w' a' (by simpa using hs) (by rw [Lof_set (by omega)]; exact hc.set ho' hr') ?_ st'
      rw [Lof_set (by omega)]
      have := cnt_put (p := fun j => !setL (Lof listed) i j) (p' := fun j => !Lof listed j) (i := i) (by simp [setL]) (by simp only [h1, Lof]; rfl) (fun j hj => by simp [setL, hj]) hi'
      omega
end

theorem draw_sound (hm : P.follows .mixedOrders = true) (hT : ttOk P tt = true) (hd : 6 ≤ P.depth) {id : Nat} {arr : Array Oper} {E : Env} {H : PH} {K : Env → PH → Prop} {Q' : Exit → Act → World → Prop}
    {g : Gh} {w : World} {a : Act} (inv : Inv P g0 w0 H0 F0 N g w a E H) (hp : drawK P tt imm N arr.toList E H K) (hk' : ∀ g w a E H, Inv P g0 w0 H0 F0 N g w a E H → K E H → Q' .normal a w) :
    (Code.region id arr true).wp P Q' a w := by
  obtain ⟨D, Hs, h1, h2, h3, h4⟩ := hp.h
  simp only [drawOk, Bool.and_eq_true] at h1
  obtain ⟨V, hV⟩ := pDr_V arr.toList 0 E E (fun k => by simp) h4
  obtain ⟨k1, k2⟩ := hV V (fun _ _ => rfl) rfl
  refine wp_region_any hm (draw_any (g0 := g0) (w0 := w0) (H0 := H0) (F0 := F0) (N := N) (D := D) (V := V) (E0 := E) (Hs := Hs) hT hd (fun i o ho => ?_) (fun j i s hm => fsOk_spec (List.all_eq_true.1 h1.2 _ hm)) h3 (fun j o ho => k1 j o (Nat.zero_le _) ho) (fun g w a inv => ?_) arr.size _ g _ a (by simp) ?_ ?_ ?_)
  · have := allN_spec h1.1 i (List.getElem?_eq_some_iff.1 ho).1
    rw [ho] at this
    exact opOk_spec this
  · rw [Nat.zero_add] at k2
    exact hk' _ _ _ _ _ inv k2
  · intro i o ho hl
    simp [Lof, Array.getD_eq_getD_getElem?, Array.getElem?_replicate] at hl
    split at hl <;> simp at hl
  · have : ∀ n, cnt (fun j => !Lof (Array.replicate arr.size false) j) n = n := fun n => by
      induction n with
      | zero => rfl
      | succ n ih =>
        have : Lof (Array.replicate arr.size false) n = false := by
          simp [Lof, Array.getD_eq_getD_getElem?, Array.getElem?_replicate]
          split <;> rfl
        simp only [cnt, ih, this]
        rfl
    exact this _
  · have hL : ∀ j, Lof (Array.replicate arr.size false) j = false := fun j => by
      simp [Lof, Array.getD_eq_getD_getElem?, Array.getElem?_replicate]
      split <;> rfl
    refine ⟨?_, fun j i s t hm hj => by rw [hL] at hj; cases hj⟩
    have hc0 : cnt (fun j => D.isImp j && Lof (Array.replicate arr.size false) j) arr.toList.length = 0 := by
      rw [cnt_congr (p' := fun _ => false) fun j _ => by rw [hL, Bool.and_false]]
      generalize arr.toList.length = n
      induction n with
      | zero => rfl
      | succ n ih => simp only [cnt, ih]
    rw [hc0, h2]
    have hov : ∀ n, ovl arr.toList D V E (Lof (Array.replicate arr.size false)) n = E := fun n => by
      induction n with
      | zero => rfl
      | succ n ih => simp only [ovl, hL, ih]
    rw [hov]
    exact inv.go rfl rfl rfl (Nat.le_refl _) ⟨fun _ _ h => h, fun _ _ h => ⟨h, rfl⟩⟩ (fun _ _ h => .inl h) (fun _ _ _ _ => ⟨rfl, fun _ h => h⟩) ⟨fun _ o h => ⟨o, h, Nat.le_refl _⟩, fun _ _ _ _ _ h h' _ => ⟨Option.some.inj (h'.symm.trans h), rfl⟩⟩
      (fun t i b h => ⟨rfl, fun _ h => h, (inv.rel.own_lt h).2⟩) ⟨inv.rel.h.len, inv.rel.h.inj, inv.rel.h.full, fun id b o h1 h2 => by
        obtain ⟨vs, y1, y2, y3⟩ := inv.rel.h.obj id b o h1 h2
        refine ⟨vs, y1, y2, fun j c hj => ?_⟩
        obtain ⟨v, z1, z2⟩ := y3 j c hj
        exact ⟨v, z1, z2.mono ⟨fun _ _ h => h, fun _ _ h => ⟨h, rfl⟩⟩ fun b ho hb => by
          obtain ⟨n, cs, e, _, _, hf⟩ := z2.own ho hb
          exact ⟨rfl, fun _ h => h, hf.obj⟩⟩, inv.rel.h.imm⟩ (fun id j b h => .inl h)
end
end Ps
