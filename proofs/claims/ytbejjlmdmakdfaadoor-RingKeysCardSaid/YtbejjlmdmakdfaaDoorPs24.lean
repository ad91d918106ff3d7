/- PSem, part 24: a contract that answers true, at the root: what the row's form asks of the walk. -/
import Derived.Test.YtbejjlmdmakdfaaDoorPs23
set_option linter.all false
set_option linter.unusedVariables false
set_option linter.unusedSimpArgs false
set_option linter.unnecessarySimpa false
set_option linter.unusedSimpArgs false
set_option linter.unusedVariables false
namespace Ps
open Go Go.RowKit
section
variable {P : Program}

theorem root_true {f : Nat} {fn : Func} {args : List PV} (h : CallOk P f args [] fun r _ => r = .bool true) (hf : P.funcs[f]? = some fn) (hname : (fn.name == "runtime.NumGoroutine") = false)
    (hb : fn.body.isSome = true) {w : World} {vs : Array Value} (hV : VW (gAll w) w vs.toList args) :
    Calls P f vs w fun e w' => e = .returned (.bool true) ∧ Below w.heap.size w w' := by
  obtain ⟨c, hc⟩ := Option.isSome_iff_exists.1 hb
  have hs : vs.size = args.length := by rw [hV.1]; simp
  have hVt : ∀ t, V (gAll w) w (valOf vs t) (Env.get (args0 0 args) t) := fun t => by
    rw [args0_get]
    simp only [Nat.zero_le, if_true, Nat.sub_zero, List.getD_eq_getElem?_getD]
    cases ha : args[t]? with
    | none => exact .undef _
    | some p =>
      have hlt : t < vs.size := by rw [hs]; exact (List.getElem?_eq_some_iff.1 ha).1
      have hv : vs.toList[t]? = some vs[t] := by simp [hlt]
      have := hV.2 t _ p hv ha
      simpa [valOf, hlt] using this
  have hno : ∀ b, ¬ cellOwn (gAll w) w [] b := fun b ⟨id, j, o, _, _, _, h1, _⟩ => by simp at h1
  have hrel : Rel P (gAll w) w (valOf vs) (args0 0 args) [] := by
    refine ⟨⟨rfl, fun id id' b h => ?_, fun id h => ?_, fun id b o h => ?_, fun b o h => ⟨fun id h => ?_, h⟩⟩, fun t => (hVt t).vc, fun t i t' i' b h => absurd h (no_own (hVt t) i b), fun t i b h => absurd h (no_own (hVt t) i b), fun id j id' j' b h => ?_⟩
    · simp [gAll] at h
    · simp [gAll] at h
    · simp at h
    · simp [gAll] at h
    · obtain ⟨o, _, _, _, h1, _⟩ := h
      simp at h1
  have hx := h (gAll w) w vs hs hrel
  have hrun := run_callFunc_body (vs := vs) (w := w) hf hname (by rw [hc]; rfl)
  rcases hx with ⟨_, hx⟩ | ⟨v, w', hx, _⟩
  · refine hx.mono fun e w' ⟨v, r, H', g', he, hr, hrel', hst, _, _⟩ => ?_
    subst hr
    have e0 : VC P g' w' (one v 0) (.bool true) := hrel'.e 0
    have e1 : v = .bool true := by
      rcases e0 with e0 | ⟨_, _, _, _, e0, _⟩
      · cases e0; rfl
      · cases e0
    subst e1
    exact ⟨he, hst.os, hst.tape, hst.output, hst.size, fun k hk => (hst.far k hk (fun id h => by simp [gAll] at h) (hno k)).1⟩
  · rw [hrun] at hx; cases hx

theorem VW.agg {g : Gh} {w : World} {vs : Array Value} {ps : List PV} (h : VW g w vs.toList ps) : V g w (.agg vs) (.agg ps) := by
  refine .agg vs ps (by simpa using h.1.symm) fun j c hj => ?_
  have hlt : j < vs.size := by
    have := (List.getElem?_eq_some_iff.1 hj).1
    rw [h.1] at this; simpa using this
  have := h.2 j vs[j] c (by simp [hlt]) hj
  simpa [hlt] using this
theorem VW.cons {g : Gh} {w : World} {v : Value} {p : PV} {vs : List Value} {ps : List PV} (h : V g w v p) (h' : VW g w vs ps) : VW g w (v :: vs) (p :: ps) := (VW.one h).append h'

def argP (P : Program) (t : Nat) (ps : List PV) : PV := match P.underlying t with
  | some (.struct _) => .agg ps
  | some (.array _ _) => .agg ps
  | _ => match ps with
    | [p] => p
    | _ => .undef
/-- Arguments of these types. -/
def RdA (P : Program) (B n : Nat) : List Nat → List PV → Prop
  | [], as => as = []
  | t :: ts, as => ∃ ps as', as = argP P t ps :: as' ∧ RdP P B n t ps ∧ RdA P B n ts as'

theorem cell_spot {w : World} {r : Reach} {base : Nat} {t : TypeId} {v : Value} (h : Cell.okWide P w r base t v) : spotOk v := by
  cases v with
  | slice a len cap =>
    cases a with
    | none => exact trivial
    | some a =>
      unfold Cell.okWide at h
      split at h <;> first | (rename_i e; cases e; done) | skip
      all_goals first | (exact absurd ‹_› (by simp; done)) | skip
      all_goals (unfold Cell.ok at h; split at h <;> simp_all [World.has, spotOk])
  | _ => exact trivial

section
variable {H : Type} {enc : TypeId × Value → H}
theorem args_rd {W : World} {base B n : Nat} : ∀ (ts : List Nat) (vs : List Value) (ds : List (DataW H)) (p : List MemPlace), (∀ (j : Nat) t v, ts[j]? = some t → vs[j]? = some v → Value.okWide P W .any base t v) →
    DataW.TrodAll enc P W 0 (fun _ => true) true ts vs ds p → (∀ y ∈ DataW.weightsEach P ts ds, y ≤ B) → (∀ t ∈ ts, okT P n true t = true) → ∃ as, VW (gAll W) W vs as ∧ RdA P B n ts as
  | [], [], [], _, _, _, _, _ => ⟨[], VW.nil, rfl⟩
  | t :: ts, v :: vs, d :: ds, p, hval, ⟨p1, p2, ⟨m, hm⟩, h2, _⟩, hw, hok => by
    obtain ⟨as, ha, ra⟩ := args_rd ts vs ds p2 (fun j t v h h' => hval (j + 1) t v h h') h2 (fun y hy => hw y (by simp only [DataW.weightsEach, List.mem_append]; exact .inr hy)) (fun t ht => hok t (List.mem_cons_of_mem _ ht))
    have hv := hval 0 t v rfl rfl
    have hwd : ∀ y ∈ d.weights P t, y ≤ B := fun y hy => hw y (by simp only [DataW.weightsEach, List.mem_append]; exact .inl hy)
    have ht := hok t List.mem_cons_self
    have one : ∀ q, (∀ ps, RdP P B n t ps → ∃ p, ps = [p]) → v.cells.toList = [q] → v = q → spotOk v → (∀ p, argP P t [p] = p) → ∃ as, VW (gAll W) W (v :: vs) as ∧ RdA P B n (t :: ts) as := by
      intro q hps hc hq hsp harg
      rw [hc] at hm
      obtain ⟨ps, g1, g2⟩ := trod_rd n m true t [q] _ ht hm hwd fun _ u hu => by
        rw [List.mem_singleton.1 hu, ← hq]; exact hsp
      obtain ⟨pv, rfl⟩ := hps ps g2
      exact ⟨pv :: as, VW.cons (by rw [hq]; exact g1.2 0 q pv rfl rfl) ha, _, as, by rw [harg], g2, ra⟩
    have agg : ∀ cs : Array Value, v = .agg cs → (∀ u ∈ cs.toList, spotOk u) → (∀ ps, argP P t ps = .agg ps) → ∃ as, VW (gAll W) W (v :: vs) as ∧ RdA P B n (t :: ts) as := by
      intro cs hcs hsp harg
      subst hcs
      obtain ⟨ps, g1, g2⟩ := trod_rd n m true t cs.toList _ ht hm hwd fun _ u hu => hsp u hu
      exact ⟨.agg ps :: as, VW.cons g1.agg ha, ps, as, by rw [harg], g2, ra⟩
    have row : ∀ cs : Array Value, Row.okWide P W .any base t cs → ∀ u ∈ cs.toList, spotOk u := fun cs ⟨_, _, _, hc⟩ u hu => by
      obtain ⟨i, hi⟩ := List.getElem?_of_mem hu
      obtain ⟨_, _, h⟩ := hc i u (by simpa using hi)
      exact cell_spot h
    cases n with
    | zero => simp [okT] at ht
    | succ n =>
      cases hu : P.underlying t with
      | none => unfold okT at ht; rw [hu] at ht; cases ht
      | some u =>
        have hcell : (∀ fs, u ≠ .struct fs) → (∀ k e, u ≠ .array k e) → Cell.okWide P W .any base t v := fun h1 h2 => by
          unfold Value.okWide at hv
          rw [hu] at hv
          cases u <;> first | exact hv | exact absurd rfl (h1 _) | exact absurd rfl (h2 _ _)
        cases u with
        | bool =>
          obtain ⟨b, hb⟩ := WideShapes.okWide_bool hu hv
          exact one v (fun ps h => by unfold RdP at h; rw [hu] at h; obtain ⟨_, h⟩ := h; exact ⟨_, h⟩) (by rw [hb]; rfl) rfl (cell_spot (hcell (fun _ h => by cases h) (fun _ _ h => by cases h))) (fun p => by unfold argP; rw [hu])
        | int k =>
          obtain ⟨b, hb⟩ := WideShapes.okWide_int hu hv
          exact one v (fun ps h => by unfold RdP at h; rw [hu] at h; obtain ⟨_, h, _⟩ := h; exact ⟨_, h⟩) (by rw [hb]; rfl) rfl (cell_spot (hcell (fun _ h => by cases h) (fun _ _ h => by cases h))) (fun p => by unfold argP; rw [hu])
        | string =>
          obtain ⟨b, hb⟩ := WideShapes.okWide_string hu hv
          exact one v (fun ps h => by unfold RdP at h; rw [hu] at h; obtain ⟨_, h, _⟩ := h; exact ⟨_, h⟩) (by rw [hb]; rfl) rfl (cell_spot (hcell (fun _ h => by cases h) (fun _ _ h => by cases h))) (fun p => by unfold argP; rw [hu])
        | slice e =>
          obtain ⟨a, l, c, hb⟩ := WideShapes.okWide_slice hu hv
          exact one v (fun ps h => by unfold RdP at h; rw [hu] at h; obtain ⟨_, h, _⟩ := h; exact ⟨_, h⟩) (by rw [hb]; rfl) rfl (cell_spot (hcell (fun _ h => by cases h) (fun _ _ h => by cases h))) (fun p => by unfold argP; rw [hu])
        | struct fs =>
          unfold Value.okWide at hv
          rw [hu] at hv
          obtain ⟨cs, h1, _, h3⟩ := hv
          exact agg cs h1 (row cs h3) (fun ps => by unfold argP; rw [hu])
        | array k e =>
          unfold Value.okWide at hv
          rw [hu] at hv
          obtain ⟨cs, h1, _, h3⟩ := hv
          exact agg cs h1 (row cs h3) (fun ps => by unfold argP; rw [hu])
        | _ => unfold okT at ht; rw [hu] at ht; cases ht
  | [], _ :: _, _, _, _, h, _, _ => by cases h
  | [], [], _ :: _, _, _, h, _, _ => by cases h
  | _ :: _, [], _, _, _, h, _, _ => by cases h
  | _ :: _, _ :: _, [], _, _, h, _, _ => by cases h

theorem args_again {W W' : World} (hl : laidOutB P = true) (hb : Below W.heap.size W W') {sp : Nat → Bool} : ∀ {ts : List Nat} {vs : List Value} {ds : List (DataW H)} {p : List MemPlace}, (∀ t ∈ ts, P.readableRec t = true ∧ t < P.types.size) →
    DataW.TrodAll enc P W 0 (fun _ => true) true ts vs ds p → (∀ x ∈ p, x.block < W.heap.size) → (∀ x ∈ p, sp x.block = true) → DataW.TrodAll enc P W' 0 sp true ts vs ds p
  | [], [], [], _, _, h, _, _ => h
  | t :: ts, v :: vs, d :: ds, p, ht, ⟨p1, p2, h1, h2, e⟩, hlt, hsp => by
    subst e
    exact ⟨p1, p2, WideElems.Trod_stays hl (ht t List.mem_cons_self).1 (ht t List.mem_cons_self).2 h1 (fun x hx => hb.same (hlt x (List.mem_append_left _ hx))) (fun x hx => hsp x (List.mem_append_left _ hx)),
      args_again hl hb (fun t ht' => ht t (List.mem_cons_of_mem _ ht')) h2 (fun x hx => hlt x (List.mem_append_right _ hx)) (fun x hx => hsp x (List.mem_append_right _ hx)), rfl⟩
  | [], _ :: _, _, _, _, h, _, _ => by cases h
  | [], [], _ :: _, _, _, h, _, _ => by cases h
  | _ :: _, [], _, _, _, h, _, _ => by cases h
  | _ :: _, _ :: _, [], _, _, h, _, _ => by cases h
theorem trodAll_len {W : World} : ∀ {ts : List Nat} {vs : List Value} {ds : List (DataW H)} {p : List MemPlace}, DataW.TrodAll enc P W 0 (fun _ => true) true ts vs ds p → ds.length = ts.length
  | [], [], [], _, _ => rfl
  | _ :: _, _ :: _, _ :: _, _, ⟨_, _, _, h, _⟩ => by simp [trodAll_len h]
  | [], _ :: _, _, _, h => by cases h
  | [], [], _ :: _, _, h => by cases h
  | _ :: _, [], _, _, h => by cases h
  | _ :: _, _ :: _, [], _, h => by cases h

/-- A law: true, and its arguments read as they did. -/
theorem law_true {f : FuncId} {fn : Func} {s : ChangeSpec} {apart fresh handsOn again : Bool} {n tb : Nat} (hl : laidOutB P = true) (hf : P.funcs[f]? = some fn) (hname : (fn.name == "runtime.NumGoroutine") = false)
    (hb : fn.body.isSome = true) (hv : s.vars = []) (hs : ∀ ds : List (DataW H), ds.length = fn.params.toList.length → s.fn H ds = { results := [.lit (.bool true)], args := ds })
    (hts : (fn.params.toList.all fun t => okT P n true t && P.readableRec t && Nat.blt t P.types.size) = true) (hr : fn.resultTypes = #[tb]) (htb : P.underlying tb = some .bool)
    (hcall : ∀ as, RdA P reachBytes n fn.params.toList as → CallOk P f as [] fun r _ => r = .bool true)
    {W : World} {base : Nat} {args : Array Value} {ds gs : List (DataW H)} {before : List MemPlace} (hval : ∀ (j : Nat) t v, fn.params[j]? = some t → args[j]? = some v → Value.okWide P W .any base t v)
    (hW : DataW.Whole enc P fn.params.toList s.vars apart W args.toList ds gs before) {vt : List TypeId} (hvt : vt = []) (hwt : (DataW.weightsEach P (fn.params.toList ++ vt) (ds ++ gs)).all (· ≤ reachBytes) = true) :
    Calls P f args W fun e W' => ∃ v, e = .returned v ∧ s.post enc P fn apart fresh handsOn again W args v W' := by
  have hW' := hW
  obtain ⟨p, q, hA, hV, rfl, hfz, hnd⟩ := hW
  rw [hv] at hV
  obtain ⟨rfl, rfl⟩ := ChangeShapes.trodVars_none hV
  subst hvt
  simp only [List.append_nil] at hwt hW' hfz hnd
  simp only [List.all_eq_true, Bool.and_eq_true] at hts
  obtain ⟨as, h1, h2⟩ := args_rd (B := reachBytes) (n := n) fn.params.toList args.toList ds p (fun j t v h h' => hval j t v (by simpa using h) (by simpa using h')) hA (fun y hy => by simpa using List.all_eq_true.1 hwt y hy) (fun t ht => (hts t ht).1.1)
  refine (root_true (hcall as h2) hf hname hb h1).mono fun e W' ⟨he, hbe⟩ => ⟨_, he, ?_⟩
  have hlt : ∀ x ∈ p, x.block < W.heap.size := fun x hx => by simpa using hW'.lt x hx
  have hfn := hs ds (by rw [trodAll_len hA])
  have hargs : ∀ sp : Nat → Bool, (∀ x ∈ p, sp x.block = true) → DataW.TrodAll enc P W' 0 sp true fn.params.toList args.toList ds p := fun sp hsp =>
    args_again hl hbe (fun t ht => ⟨(hts t ht).1.2, by simpa using (hts t ht).2⟩) hA hlt hsp
  have hres : ∀ (b : Nat) (sp : Nat → Bool) (hd : Bool), DataW.TrodAll enc P W' b sp hd fn.resultTypes.toList ((Value.bool true).resultList fn.resultTypes.size) [.lit (.bool true)] [] := fun b sp hd => by
    rw [hr]
    exact ⟨[], [], ⟨1, by simp [DataW.trod, htb, Value.cells]⟩, rfl, rfl⟩
  refine ⟨ds, [], p, [], p, [], hW', ?_, ?_, ?_, hbe.frame _, fun _ => ⟨fun j t r ht hr' => ?_, ds.cons (.lit (.bool true)), [], p, ⟨p, [], ?_, ?_, by simp, fun b off hp => ?_, fun ha => by simpa using hnd ha⟩, fun x hx _ => hx⟩⟩
  · rw [List.append_nil, hfn]; exact hres _ _ _
  · rw [List.append_nil, hfn]; exact hargs _ fun x hx => by simpa using hlt x hx
  · rw [List.append_nil, hfn, hv]; rfl
  · rw [hr] at ht hr'
    match j with
    | 0 =>
      simp at ht
      have hr' : Value.bool true = r := by simpa [Value.resultList] using hr'
      subst ht; subst hr'
      unfold Value.okWide
      rw [htb]
      simp [Cell.okWide, htb, Cell.ok]
    | j + 1 => simp at ht
  · rw [hr]
    exact ⟨[], p, ⟨1, by simp [DataW.trod, htb, Value.cells]⟩, hargs _ (fun _ _ => rfl), rfl⟩
  · rw [hv]; rfl
  · rw [hbe.frozen (hlt _ hp)]
    exact hfz b off hp
end
end
end Ps
