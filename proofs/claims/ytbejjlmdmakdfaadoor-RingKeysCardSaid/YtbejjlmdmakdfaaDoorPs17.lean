/- PSem, part 17: a region that draws its order. -/
import Derived.Test.YtbejjlmdmakdfaaDoorPs16
set_option linter.all false
set_option linter.unusedVariables false
set_option linter.unusedSimpArgs false
set_option linter.unnecessarySimpa false
set_option linter.unusedSimpArgs false
set_option linter.unusedVariables false
namespace Ps
open Go

/-! ### who waits for whom -/
theorem orL_get : ∀ (x y : List Bool) (j : Nat), (orL x y).getD j false = (x.getD j false || y.getD j false)
  | [], y, j => by simp [orL]
  | a :: x, [], j => by simp [orL]
  | a :: x, b :: y, 0 => by simp [orL]
  | a :: x, b :: y, j + 1 => by
    have := orL_get x y j
    simp only [List.getD_eq_getElem?_getD] at this
    simpa [orL] using this
theorem unitL_get : ∀ (n j : Nat), (unitL n).getD j false = true → j = n
  | 0, 0, _ => rfl
  | 0, j + 1, h => by simp [unitL] at h
  | n + 1, 0, h => by simp [unitL] at h
  | n + 1, j + 1, h => by
    have := unitL_get n j (by simpa [unitL] using h)
    omega
theorem edgeL_get {acc : List (List Bool)} {j : Nat} : ∀ {es : List Edge}, (edgeL acc es).getD j false = true → ∃ e ∈ es, Region.binds .any e = true ∧ (j = e.on ∨ (acc.getD e.on []).getD j false = true)
  | [], h => by simp [edgeL] at h
  | e :: r, h => by
    unfold edgeL at h
    split at h
    · rename_i hb
      rw [orL_get, orL_get, Bool.or_eq_true, Bool.or_eq_true] at h
      rcases h with (h | h) | h
      · exact ⟨e, List.mem_cons_self, hb, .inl (unitL_get _ _ h)⟩
      · exact ⟨e, List.mem_cons_self, hb, .inr h⟩
      · obtain ⟨e', h1, h2⟩ := edgeL_get h; exact ⟨e', List.mem_cons_of_mem _ h1, h2⟩
    · obtain ⟨e', h1, h2⟩ := edgeL_get h; exact ⟨e', List.mem_cons_of_mem _ h1, h2⟩

theorem getD_app {acc : List (List Bool)} {x : List Bool} {i : Nat} (h : i < acc.length) : (acc ++ [x]).getD i [] = acc.getD i [] := by
  simp [List.getD_eq_getElem?_getD, List.getElem?_append_left h]
theorem getD_app_eq {acc : List (List Bool)} {x : List Bool} : (acc ++ [x]).getD acc.length [] = x := by
  simp [List.getD_eq_getElem?_getD]
theorem getD_out {acc : List (List Bool)} {i : Nat} (h : acc.length ≤ i) : acc.getD i [] = [] := by
  simp [List.getD_eq_getElem?_getD, List.getElem?_eq_none h]

def Wok (ops : List Oper) (L : Nat → Prop) (acc : List (List Bool)) : Prop :=
  ∀ i j o, ops[i]? = some o → W acc i j = true → (∀ e ∈ o.after.toList, Region.binds .any e = true → L e.on) → L j

theorem ancs_ok {ops : List Oper} {L : Nat → Prop} (hc : ∀ i o, ops[i]? = some o → L i → ∀ e ∈ o.after.toList, Region.binds .any e = true → L e.on) :
    ∀ (rest : List Oper) (acc : List (List Bool)), (∀ k, rest[k]? = ops[acc.length + k]?) → acc.length ≤ ops.length → Wok ops L acc → Wok ops L (ancs rest acc)
  | [], acc, _, _, h => h
  | o :: rest, acc, hr, hl, h => by
    have h0 : ops[acc.length]? = some o := by simpa using (hr 0).symm
    have hlt := (List.getElem?_eq_some_iff.1 h0).1
    refine ancs_ok hc rest _ (fun k => ?_) (by simp; omega) ?_
    · have := hr (k + 1)
      simp only [List.getElem?_cons_succ] at this
      rw [this]; congr 1; simp; omega
    · intro i j oi hoi hw he
      unfold W at hw
      rcases Nat.lt_or_ge i acc.length with hi | hi
      · rw [getD_app hi] at hw
        exact h i j oi hoi hw he
      · by_cases hi' : i = acc.length
        · subst hi'
          rw [h0] at hoi; cases hoi
          have hw : (edgeL acc o.after.toList).getD j false = true := by
            rw [getD_app_eq] at hw; exact hw
          obtain ⟨e, e1, e2, e3⟩ := edgeL_get hw
          have hLe := he e e1 e2
          rcases e3 with rfl | e3
          · exact hLe
          · cases hoe : ops[e.on]? with
            | none =>
              have : acc.length ≤ e.on := Nat.le_trans hl (List.getElem?_eq_none_iff.1 hoe)
              rw [getD_out this] at e3
              simp at e3
            | some oe => exact h e.on j oe hoe e3 (hc _ _ hoe hLe)
        · rw [getD_out (by simp; omega)] at hw
          simp at hw

theorem waits {ops : List Oper} {L : Nat → Prop} (hc : ∀ i o, ops[i]? = some o → L i → ∀ e ∈ o.after.toList, Region.binds .any e = true → L e.on) {i j : Nat} {o : Oper} (ho : ops[i]? = some o)
    (hw : W (ancs ops []) i j = true) (he : ∀ e ∈ o.after.toList, Region.binds .any e = true → L e.on) : L j :=
  ancs_ok hc ops [] (by simp) (by simp) (fun i j o _ h => by simp [W] at h) i j o ho hw he

/-! ### small laws -/
theorem allN_spec {p : Nat → Bool} : ∀ {n : Nat}, allN p n = true → ∀ j, j < n → p j = true
  | 0, _, j, h => by omega
  | n + 1, h, j, hj => by
    simp only [allN, Bool.and_eq_true] at h
    by_cases e : j = n
    · subst e; exact h.1
    · exact allN_spec h.2 j (by omega)
theorem cnt_mono {p p' : Nat → Bool} : ∀ {n : Nat}, (∀ j, j < n → p j = true → p' j = true) → cnt p n ≤ cnt p' n
  | 0, _ => Nat.le_refl _
  | n + 1, h => by
    have ih := cnt_mono (n := n) fun j hj => h j (by omega)
    have := h n (by omega)
    simp only [cnt]
    cases hp : p n <;> cases hp' : p' n <;> simp_all <;> omega
theorem cnt_congr {p p' : Nat → Bool} {n : Nat} (h : ∀ j, j < n → p j = p' j) : cnt p n = cnt p' n :=
  Nat.le_antisymm (cnt_mono fun j hj e => by rw [← h j hj]; exact e) (cnt_mono fun j hj e => by rw [h j hj]; exact e)
theorem cnt_put {p p' : Nat → Bool} {i : Nat} (h0 : p i = false) (h1 : p' i = true) (hs : ∀ j, j ≠ i → p' j = p j) : ∀ {n : Nat}, i < n → cnt p' n = cnt p n + 1
  | 0, h => by omega
  | n + 1, h => by
    simp only [cnt]
    by_cases e : i = n
    · subst e
      rw [h0, h1, cnt_congr (p := p') (p' := p) fun j hj => hs j (by omega)]
      simp
    · rw [cnt_put h0 h1 hs (n := n) (by omega), hs n (Ne.symm e)]
      omega

theorem demE_get (E : Env) : ∀ (l : List Nat) (t : Nat), (demE E l).get t = if t ∈ l then dmt (E.get t) else E.get t
  | [], t => by simp [demE]
  | s :: l, t => by
    rw [demE, Env.get_cons, demE_get E l t]
    by_cases h : s = t
    · subst h; simp
    · rw [if_neg h]; simp [Ne.symm h]
theorem stepO_get (D : Draw) (i : Nat) (o : Oper) (v : PV) (E : Env) (t : Nat) : (stepO D i o v E).get t = if o.dst = some t then v else if t ∈ D.consOf i then dmt (E.get t) else E.get t := by
  unfold stepO putE
  cases h : o.dst with
  | none => simp [demE_get]
  | some d =>
    rw [Env.get_cons, demE_get]
    by_cases e : d = t
    · simp [e]
    · simp [e]

theorem restrR_get (E : Env) : ∀ (l : List Nat) (t : Nat), (restrR E l).get t = if t ∈ l then dmt (E.get t) else .undef
  | [], t => by simp [restrR, Env.get]
  | s :: l, t => by
    rw [restrR, Env.get_cons, restrR_get E l t]
    by_cases h : s = t
    · subst h; simp
    · rw [if_neg h]; simp [Ne.symm h]
theorem restrC_get (E E' : Env) : ∀ (l : List Nat) (t : Nat), (restrC E l E').get t = if t ∈ l then E.get t else E'.get t
  | [], t => by simp [restrC]
  | s :: l, t => by
    rw [restrC, Env.get_cons, restrC_get E E' l t]
    by_cases h : s = t
    · subst h; simp
    · rw [if_neg h]; simp [Ne.symm h]

theorem restrC_congr {E1 E2 : Env} : ∀ (l : List Nat) {E' : Env}, (∀ t ∈ l, E1.get t = E2.get t) → restrC E1 l E' = restrC E2 l E'
  | [], _, _ => rfl
  | s :: l, _, h => by rw [restrC, restrC, h s List.mem_cons_self, restrC_congr l fun t ht => h t (List.mem_cons_of_mem _ ht)]
theorem restrR_congr {E1 E2 : Env} : ∀ (l : List Nat), (∀ t ∈ l, dmt (E1.get t) = dmt (E2.get t)) → restrR E1 l = restrR E2 l
  | [], _ => rfl
  | s :: l, h => by rw [restrR, restrR, h s List.mem_cons_self, restrR_congr l fun t ht => h t (List.mem_cons_of_mem _ ht)]

/-- The slots, where the operations of L are done. -/
def ovl (ops : List Oper) (D : Draw) (V : Nat → PV) (E0 : Env) (L : Nat → Bool) : Nat → Env
  | 0 => E0
  | m + 1 => match L m with
    | true => match ops[m]? with
      | some o => stepO D m o (V m) (ovl ops D V E0 L m)
      | none => ovl ops D V E0 L m
    | false => ovl ops D V E0 L m

section
variable {ops : List Oper} {D : Draw} {V : Nat → PV} {E0 : Env}
theorem touch_not {m t : Nat} {o : Oper} (ho : ops[m]? = some o) (h : touch ops D m t = false) : o.dst ≠ some t ∧ t ∉ D.consOf m := by
  simp only [touch, dstIs, ho, Option.bind_some, Bool.or_eq_false_iff] at h
  refine ⟨fun e => ?_, fun e => ?_⟩
  · rw [e] at h; simp at h
  · have := h.2; simp at this; exact this e
theorem ovl_cmp {L L' : Nat → Bool} {t : Nat} : ∀ (m : Nat), (∀ j, j < m → touch ops D j t = true → L j = L' j) → (ovl ops D V E0 L m).get t = (ovl ops D V E0 L' m).get t
  | 0, _ => rfl
  | m + 1, h => by
    have ih := ovl_cmp (L := L) (L' := L') (t := t) m fun j hj => h j (by omega)
    have hm := h m (by omega)
    simp only [ovl]
    cases ho : ops[m]? with
    | none => cases L m <;> cases L' m <;> exact ih
    | some o =>
      cases htm : touch ops D m t with
      | true =>
        rw [← hm htm]
        cases L m
        · exact ih
        · simp only [stepO_get, ih]
      | false =>
        obtain ⟨k1, k2⟩ := touch_not ho htm
        have hst : ∀ E, (stepO D m o (V m) E).get t = E.get t := fun E => by rw [stepO_get, if_neg k1, if_neg k2]
        cases L m <;> cases L' m <;> simp only [hst, ih]
theorem ovl_cmp_dem {L L' : Nat → Bool} {t : Nat} : ∀ (m : Nat), (∀ j, j < m → dstIs ops j t = true → L j = L' j) → dmt ((ovl ops D V E0 L m).get t) = dmt ((ovl ops D V E0 L' m).get t)
  | 0, _ => rfl
  | m + 1, h => by
    have ih := ovl_cmp_dem (L := L) (L' := L') (t := t) m fun j hj => h j (by omega)
    have hm := h m (by omega)
    simp only [ovl]
    cases ho : ops[m]? with
    | none => cases L m <;> cases L' m <;> exact ih
    | some o =>
      cases htm : dstIs ops m t with
      | true =>
        have he : o.dst = some t := by
          unfold dstIs at htm
          rw [ho] at htm
          simp only [Option.bind_some] at htm
          cases hd : o.dst with
          | none => rw [hd] at htm; cases htm
          | some d => rw [hd] at htm; rw [Nat.eq_of_beq_eq_true htm]
        rw [← hm htm]
        cases L m
        · exact ih
        · simp only [stepO_get, he, if_true]
      | false =>
        have he : o.dst ≠ some t := fun e => by
          unfold dstIs at htm
          rw [ho] at htm
          simp [e] at htm
        have hst : ∀ E, dmt ((stepO D m o (V m) E).get t) = dmt (E.get t) := fun E => by
          rw [stepO_get, if_neg he]
          split
          · exact dmt_dmt _
          · rfl
        cases L m <;> cases L' m <;> simp only [hst, ih]
/-- In the order of the text. -/
theorem ovl_prefix (i : Nat) : ∀ (m : Nat), ovl ops D V E0 (fun j => Nat.blt j i) m = ovl ops D V E0 (fun _ => true) (min m i)
  | 0 => by simp [ovl]
  | m + 1 => by
    simp only [ovl, ovl_prefix i m]
    cases h : Nat.blt m i with
    | true =>
      have hl : m < i := by simpa [Nat.blt_eq] using h
      rw [Nat.min_eq_left (by omega), Nat.min_eq_left (by omega)]
      simp only [ovl]
    | false =>
      have hl : ¬ m < i := by
        intro hl
        have h2 : Nat.blt m i = true := by simpa [Nat.blt_eq] using hl
        rw [h2] at h; cases h
      rw [Nat.min_eq_right (by omega), Nat.min_eq_right (by omega)]
end
end Ps
