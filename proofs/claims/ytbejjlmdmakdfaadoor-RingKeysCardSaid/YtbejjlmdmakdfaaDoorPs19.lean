/- PSem, part 19: code; results; a call. -/
import Derived.Test.YtbejjlmdmakdfaaDoorPs18
import Derived.Deep.LoopGhost
set_option linter.all false
set_option linter.unusedVariables false
set_option linter.unusedSimpArgs false
set_option linter.unnecessarySimpa false
set_option linter.unusedSimpArgs false
set_option linter.unusedVariables false
namespace Ps
open Go
section
variable {P : Program} {tt : TT} {imm : List Nat} {g0 : Gh} {w0 : World} {H0 : PH} {F0 : Nat → Prop} {N : Nat}

def exOf : Ex → Exit
  | .normal => .normal
  | .ret => .ret
  | .exit n => .exit n

theorem subE_get : ∀ {E' E : Env}, subE E' E → ∀ t, E'.get t = E.get t ∨ E'.get t = .undef
  | [], E, _, t => .inr rfl
  | (s, v) :: r, E, h, t => by
    rw [Env.get_cons]
    by_cases e : s = t
    · subst e; rw [if_pos rfl]; exact .inl h.1.symm
    · rw [if_neg e]; exact subE_get h.2 t

theorem pCode_sound (hm : P.follows .mixedOrders = true) (hT : ttOk P tt = true) (hd : 6 ≤ P.depth) : ∀ (c : Code) (K : Ex → Env → PH → Prop) (Q' : Exit → Act → World → Prop)
    (_hk : ∀ e g w a E H, Inv P g0 w0 H0 F0 N g w a E H → K e E H → Q' (exOf e) a w) (g : Gh) (w : World) (a : Act) (E : Env) (H : PH), Inv P g0 w0 H0 F0 N g w a E H → pCode P tt imm N c E H K → c.wp P Q' a w := by
  intro c
  induction c with
  | skip => intro K Q' hk g w a E H inv hp; exact Go.wp_skip (hk .normal _ _ _ _ _ inv hp)
  | ret => intro K Q' hk g w a E H inv hp; exact Go.wp_ret (hk .ret _ _ _ _ _ inv hp)
  | exit i => intro K Q' hk g w a E H inv hp; exact Go.wp_exit (hk (.exit i) _ _ _ _ _ inv hp)
  | region i ops draw =>
    intro K Q' hk g w a E H inv hp
    unfold pCode at hp
    cases draw with
    | true => exact draw_sound hm hT hd inv hp (fun g w a E H inv h => hk .normal _ _ _ _ _ inv h)
    | false => exact wp_region_list (pOps_sound hT hd (fun g w a E H inv h => hk .normal _ _ _ _ _ inv h) _ _ _ _ _ _ _ inv QRel.nil hp)
  | seq x y ihx ihy =>
    intro K Q' hk g w a E H inv hp
    unfold pCode at hp
    refine Go.wp_seq (ihx _ _ (fun e g w a E H inv h => ?_) _ _ _ _ _ inv hp)
    cases e with
    | normal => exact ihy K Q' hk _ _ _ _ _ inv h
    | ret => exact hk .ret _ _ _ _ _ inv h
    | exit j => exact hk (.exit j) _ _ _ _ _ inv h
  | cond c x y ihx ihy =>
    intro K Q' hk g w a E H inv hp
    unfold pCode at hp
    split at hp
    · rename_i t ht
      have hv := opnd_VC inv.rel c
      rw [ht] at hv
      split at hp
      · exact Go.wp_cond_true hv.bool (ihx K Q' hk _ _ _ _ _ inv hp)
      · exact Go.wp_cond_false hv.bool (ihy K Q' hk _ _ _ _ _ inv hp)
    · exact hp.elim
  | block i x ih =>
    intro K Q' hk g w a E H inv hp
    unfold pCode at hp
    refine Go.wp_block (ih _ _ (fun e g w a E H inv h => ?_) _ _ _ _ _ inv hp)
    cases e with
    | normal => exact hk .normal _ _ _ _ _ inv h
    | ret => exact hk .ret _ _ _ _ _ inv h
    | exit j =>
      dsimp only at h
      split at h
      · rename_i hb
        have hb := Nat.eq_of_beq_eq_true hb
        simp only [exOf, Exit.inBlock, hb, if_true]
        exact hk .normal _ _ _ _ _ inv h
      · rename_i hb
        have hb : j ≠ i := fun e => by rw [e] at hb; simp at hb
        simp only [exOf, Exit.inBlock, hb, if_false]
        exact hk (.exit j) _ _ _ _ _ inv h
  | loop x ih =>
    intro K Q' hk g w a E H inv hp
    unfold pCode at hp
    obtain ⟨S, st, sh, ok, μ, ⟨s0, k1, k2, k3⟩, hround⟩ := hp.h
    refine Go.wp_loop_ghost (fun n a w => ∃ s g, ok s ∧ μ s = n ∧ Inv P g0 w0 H0 F0 N g w a (st s) (sh s)) (μ s0) ⟨s0, g, k1, rfl, by rw [← k3]; exact inv.sub (subE_get k2)⟩ ?_
    rintro n a w ⟨s, g, h1, rfl, h3⟩
    refine ih _ _ (fun e g w a E H inv h => ?_) _ _ _ _ _ h3 (hround s h1)
    cases e with
    | normal =>
      obtain ⟨s', j1, j2, j3, j4⟩ := h
      exact ⟨μ s', j4, s', g, j1, rfl, by rw [← j3]; exact inv.sub (subE_get j2)⟩
    | ret => exact hk .ret _ _ _ _ _ inv h
    | exit j => exact hk (.exit j) _ _ _ _ _ inv h
  | _ => intro K Q' hk g w a E H inv hp; exact hp.elim

/-! ### results -/
theorem frc_untup {p : PV} {K : PV → Prop} (h : frc (untup p) K) : K (untup p) := by rw [frc_eq] at h; exact h

theorem untup_own {p : PV} (h : isOwn (untup p) = true) : untup p = p ∧ isOwn p = true := by
  cases p <;> first | exact ⟨rfl, h⟩ | cases h

theorem VC.untup {g : Gh} {w : World} {v : Value} {p : PV} (h : VC P g w v p) : VH P g w v (Ps.untup p) := by
  cases p with
  | tup cs => exact .inl (.undef _)
  | _ => exact h

def rdRes (a : Act) : ResultVar → Sem Value
  | .tmp t => pure (a.tmps.getD t undef)
  | .cell x t => do loadVar t (← asAddr (a.tmps.getD x undef))
theorem run_rdRes_tmp (a : Act) (t : Nat) (w : World) : (rdRes a (.tmp t)).run P w = .ok (vals a t) w := rfl

theorem run_pLoad (hT : ttOk P tt = true) {g : Gh} {w : World} {H : PH} {T : Nat} {v : Value} {x : PV} {K : PV → Option Src → Prop} (hh : RelH P g w H) (hx : VC P g w v x) (hp : pLoad tt T x H K) :
    ∃ b off u p s, v = .pointer (some ⟨b, off, none⟩) ∧ (loadVar T ⟨b, off, none⟩).run P w = .ok u w ∧ V g w u p ∧ K p s := by
  unfold pLoad at hp
  split at hp
  · rename_i i hi
    have hTi := tis hT hi
    split at hp
    · rename_i cs
      obtain ⟨b, off, hvb, himm⟩ := (plain_of hx (by simp) (by simp)).inv_elem
      obtain ⟨u, p, h1, h2, h3⟩ := run_pRead hTi (himm.cells (P := P)) hp
      exact ⟨b, off, u, p, none, hvb, h1, h2, h3⟩
    · rename_i id off
      obtain ⟨b, hvb, hib⟩ := (plain_of hx (by simp) (by simp)).inv_ptr
      split at hp
      · rename_i ob hid
        have hcells := (Cells.obj hh hid hib).drop off
        rw [Nat.zero_add] at hcells
        split at hp
        · rename_i ha
          rw [dropN_eq] at hp
          obtain ⟨u, p, h1, h2, h3⟩ := run_pRead hTi hcells hp
          exact ⟨b, off, u, p, none, hvb, h1, h2, h3⟩
        · rename_i ha
          rw [dropN_eq] at hp
          cases hd : ob.cs.drop off with
          | nil => rw [hd] at hp; exact hp.elim
          | cons c r =>
            rw [hd] at hp hcells
            obtain ⟨u, h1, h2⟩ := hcells 0 c rfl
            rw [Nat.add_zero] at h1
            have hrun : (loadVar T ⟨b, off, none⟩).run P w = .ok u w := by
              simp [loadVar, hTi.run_isAgg, ha, h1]
            simp only at hp
            split at hp
            · rename_i n cs e
              exact ⟨b, off, u, _, _, hvb, hrun, h2.dem, hp⟩
            · rename_i hns
              rw [frc_eq] at hp
              have hv : V g w u c := by
                rcases h2 with h2 | ⟨n, cs, e, _, rfl, _⟩
                · exact h2
                · exact absurd rfl (hns n cs e)
              exact ⟨b, off, u, _, _, hvb, hrun, hv, hp⟩
      · exact hp.elim
    · exact hp.elim
  · exact hp.elim

theorem pRes_sound (hT : ttOk P tt = true) {g : Gh} {w : World} {a : Act} {H : PH} : ∀ (rs : List ResultVar) (E : Env) (K : List PV → Prop), Inv P g0 w0 H0 F0 N g w a E H → pRes tt H rs E K →
    ∃ (vs : List Value) (ps : List PV), (rs.mapM (rdRes a)).run P w = .ok vs w ∧ K ps ∧ vs.length = ps.length ∧
      (∀ (j : Nat) (c : PV), ps[j]? = some c → ∃ v, vs[j]? = some v ∧ VH P g w v c) ∧
      (∀ (j : Nat) (c : PV) (v : Value) (b : Nat), ps[j]? = some c → isOwn c = true → vs[j]? = some v → blk v = some b → ∃ t, ownAt (vals a t) (E.get t) 0 b) ∧
      ∀ (j j' : Nat) (c c' : PV) (v v' : Value) (b : Nat), ps[j]? = some c → isOwn c = true → vs[j]? = some v → blk v = some b → ps[j']? = some c' → isOwn c' = true → vs[j']? = some v' → blk v' = some b → j = j'
  | [], E, K, inv, hp => ⟨[], [], rfl, hp, rfl, fun j c h => by simp at h, fun j c v b h => by simp at h, fun j j' c c' v v' b h => by simp at h⟩
  | .tmp t :: rs, E, K, inv, hp => by
    unfold pRes at hp
    have hp := frc_untup hp
    have hv := (inv.rel.e t).untup
    have hinv : Inv P g0 w0 H0 F0 N g w a ((t, dem (untup (E.get t))) :: E) H := by
      have hdv : V g w (vals a t) (dem (untup (E.get t))) := hv.dem
      exact inv.weaken hdv.vc (fun i b ho => absurd ho (no_own hdv i b))
    obtain ⟨vs, ps, h1, h2, h3, h4, h5, h6⟩ := pRes_sound hT rs _ _ hinv hp
    have hget : ∀ t' b, ownAt (vals a t') (Env.get ((t, dem (untup (E.get t))) :: E) t') 0 b → t' ≠ t ∧ ownAt (vals a t') (E.get t') 0 b := fun t' b h => by
      rw [Env.get_cons] at h
      by_cases e : t = t'
      · rw [if_pos e] at h
        have hd := dem_own (untup (E.get t))
        exfalso
        revert h
        have hnt : ∀ cs, dem (untup (E.get t)) ≠ .tup cs := fun cs => by cases E.get t <;> simp [dem, untup]
        cases hx : dem (untup (E.get t)) with
        | tup cs => exact absurd hx (hnt cs)
        | _ => rw [hx] at hd; intro h; rw [h.2.1] at hd; cases hd
      · rw [if_neg e] at h; exact ⟨Ne.symm e, h⟩
    have hhead : ∀ b, isOwn (untup (E.get t)) = true → blk (vals a t) = some b → ownAt (vals a t) (E.get t) 0 b := fun b ho hb => by
      obtain ⟨k1, k2⟩ := untup_own ho
      cases hx : E.get t with
      | slice n cs o => rw [hx] at k2; exact ⟨rfl, k2, hb⟩
      | _ => rw [hx] at k2; cases k2
    refine ⟨vals a t :: vs, untup (E.get t) :: ps, by simp [List.mapM_cons, h1, run_rdRes_tmp], h2, by simp [h3], fun j c hj => ?_, fun j c v b hj ho hv' hb => ?_, fun j j' c c' v v' b hj ho hv1 hb hj' ho' hv2 hb' => ?_⟩
    · cases j with
      | zero => cases hj; exact ⟨_, rfl, hv⟩
      | succ j => exact h4 j c hj
    · cases j with
      | zero => cases hj; cases hv'; exact ⟨t, hhead b ho hb⟩
      | succ j =>
        obtain ⟨t', ht'⟩ := h5 j c v b hj ho hv' hb
        exact ⟨t', (hget t' b ht').2⟩
    · cases j with
      | zero =>
        cases j' with
        | zero => rfl
        | succ j' =>
          cases hj; cases hv1
          obtain ⟨t', ht'⟩ := h5 j' c' v' b hj' ho' hv2 hb'
          obtain ⟨n1, n2⟩ := hget t' b ht'
          exact absurd (inv.rel.ss t 0 t' 0 b (hhead b ho hb) n2).1 (Ne.symm n1)
      | succ j =>
        cases j' with
        | zero =>
          cases hj'; cases hv2
          obtain ⟨t', ht'⟩ := h5 j c v b hj ho hv1 hb
          obtain ⟨n1, n2⟩ := hget t' b ht'
          exact absurd (inv.rel.ss t 0 t' 0 b (hhead b ho' hb') n2).1 (Ne.symm n1)
        | succ j' => rw [h6 j j' c c' v v' b hj ho hv1 hb hj' ho' hv2 hb']
  | .cell x T :: rs, E, K, inv, hp => by
    unfold pRes at hp
    obtain ⟨b0, off, u, p, s, e1, e2, e3, hp⟩ := run_pLoad hT inv.rel.h (inv.rel.e x) hp
    obtain ⟨vs, ps, h1, h2, h3, h4, h5, h6⟩ := pRes_sound hT rs _ _ inv hp
    have hrd : (rdRes a (.cell x T)).run P w = .ok u w := by
      have e1 : a.tmps.getD x undef = .pointer (some ⟨b0, off, none⟩) := e1
      unfold rdRes
      simp only [e1, asAddr, Sem.run_bind, Sem.run_pure, Result.andThen_ok, e2]
    refine ⟨u :: vs, p :: ps, by simp [List.mapM_cons, h1, hrd], h2, by simp [h3], fun j c hj => ?_, fun j c v b hj ho hv' hb => ?_, fun j j' c c' v v' b hj ho hv1 hb hj' ho' hv2 hb' => ?_⟩
    · cases j with
      | zero => cases hj; exact ⟨_, rfl, .inl e3⟩
      | succ j => exact h4 j c hj
    · cases j with
      | zero => cases hj; cases hv'; rw [e3.own_blk ho] at hb; cases hb
      | succ j => exact h5 j c v b hj ho hv' hb
    · cases j with
      | zero => cases hj; cases hv1; rw [e3.own_blk ho] at hb; cases hb
      | succ j =>
        cases j' with
        | zero => cases hj'; cases hv2; rw [e3.own_blk ho'] at hb'; cases hb'
        | succ j' => rw [h6 j j' c c' v v' b hj ho hv1 hb hj' ho' hv2 hb']

theorem results_eq (fn : Func) (a : Act) {w : World} {vs : List Value} (h : (fn.results.toList.mapM (rdRes a)).run P w = .ok vs w) :
    (results fn a.tmps).run P w = .ok (if h : vs.length = 1 then vs[0] else .tuple vs.toArray) w := by
  have he : results fn a.tmps = (do
      let vs ← fn.results.mapM (rdRes a)
      pure (if h : vs.size = 1 then vs[0] else .tuple vs)) := by
    unfold results
    congr 2
  rw [he, Array.mapM_eq_mapM_toList]
  simp only [Sem.run_bind, Sem.run_map, h, Result.andThen_ok]
  simp

theorem run_callFunc_body {f : Nat} {fn : Func} {vs : Array Value} {w : World} (hf : P.funcs[f]? = some fn) (hname : (fn.name == "runtime.NumGoroutine") = false) (hb : fn.body.isNone = false) :
    (callFunc f vs).run P w = .ok (.enter f vs) w := by
  have h1 : ¬ fn.name = "runtime.NumGoroutine" := by simpa using hname
  have h2 : ¬ fn.body = none := fun e => by rw [e] at hb; cases hb
  simp [callFunc, hf, h1, h2]

def valRes (vs : List Value) : Value := if h : vs.length = 1 then vs[0] else .tuple vs.toArray

theorem VH.vc {g : Gh} {w : World} {v : Value} {p : PV} (h : VH P g w v p) : VC P g w v p := by
  cases p with
  | tup cs =>
    rcases h with h | ⟨_, _, _, _, h, _⟩
    · cases h
    · cases h
  | _ => exact h

theorem VH.not_tup {g : Gh} {w : World} {v : Value} {cs : List PV} (h : VH P g w v (.tup cs)) : False := by
  rcases h with h | ⟨_, _, _, _, h, _⟩
  · cases h
  · cases h

theorem res_VC {g : Gh} {w : World} {vs : List Value} {ps : List PV} (hl : vs.length = ps.length) (hv : ∀ (j : Nat) (c : PV), ps[j]? = some c → ∃ v, vs[j]? = some v ∧ VH P g w v c) :
    VC P g w (valRes vs) (tupOf ps) ∧ ∀ i b, ownAt (valRes vs) (tupOf ps) i b → ∃ c u, ps[i]? = some c ∧ isOwn c = true ∧ vs[i]? = some u ∧ blk u = some b := by
  by_cases h1 : ps.length = 1
  · match ps, vs, h1, hl with
    | [p], [u], _, _ =>
      obtain ⟨u', hu, hvh⟩ := hv 0 p rfl
      cases hu
      refine ⟨hvh.vc, fun i b ho => ?_⟩
      have ho : ownAt u p i b := ho
      cases p with
      | tup cs => exact hvh.not_tup.elim
      | _ => exact ⟨_, u, by rw [ho.1]; rfl, ho.2.1, by rw [ho.1]; rfl, ho.2.2⟩
  · have h2 : tupOf ps = .tup ps := by
      match ps, h1 with
      | [], _ => rfl
      | _ :: _ :: _, _ => rfl
    have h3 : valRes vs = .tuple vs.toArray := by
      unfold valRes; rw [dif_neg (by omega)]
    rw [h2, h3]
    refine ⟨⟨vs.toArray, rfl, by simp [hl], fun j c hj => ?_⟩, fun i b ⟨c, hc, ho, vs', he, hb⟩ => ?_⟩
    · obtain ⟨v, k1, k2⟩ := hv j c hj
      rw [Array.getD_eq_getD_getElem?]; simp [k1, k2]
    · cases he
      obtain ⟨v, k1, k2⟩ := hv i c hc
      refine ⟨c, v, hc, ho, k1, ?_⟩
      rw [Array.getD_eq_getD_getElem?] at hb; simpa [k1] using hb

/-- A body answers as its calculus says. -/
theorem callOk_of_pFun {f : Nat} {fn : Func} {args : List PV} {H : PH} {Q : PV → PH → Prop} (hm : P.follows .mixedOrders = true) (hT : ttOk P tt = true) (hd : 6 ≤ P.depth) (hf : P.funcs[f]? = some fn)
    (hname : (fn.name == "runtime.NumGoroutine") = false) (hp : pFun P tt imm fn args H Q) : CallOk P f args H Q := by
  intro g w vs hs hr
  unfold pFun at hp
  split at hp
  · rename_i c hc
    split at hp
    · rename_i hle
      have hle : args.length ≤ fn.ntmps := Nat.le_of_ble_eq_true hle
      refine .inl ⟨run_callFunc_body hf hname (by rw [hc]; rfl), calls_of_wp hf hc ?_⟩
      have hval : ∀ t, vals { tmps := vs ++ Array.replicate (fn.ntmps - vs.size) undef, defers := [] } t = valOf vs t := fun t => by
        simp only [vals, valOf, Array.getD_eq_getD_getElem?]
        rcases Nat.lt_or_ge t vs.size with h | h
        · rw [Array.getElem?_append_left h]
        · rw [Array.getElem?_append_right h, Array.getElem?_eq_none h, Array.getElem?_replicate]
          split <;> rfl
      have hV : ∀ t, V g w (valOf vs t) (Env.get (args0 0 (args.map dem)) t) := fun t => by
        have := (hr.e t).dem
        rw [args0_get] at this ⊢
        simp only [Nat.zero_le, if_true, Nat.sub_zero, List.getD_eq_getElem?_getD, List.getElem?_map] at this ⊢
        cases h : args[t]? with
        | none => exact .undef _
        | some p => rw [h] at this; exact this
      have hinv : Inv P g w H (cellOwn g w H) fn.ntmps g w { tmps := vs ++ Array.replicate (fn.ntmps - vs.size) undef, defers := [] } (args0 0 (args.map dem)) H := by
        have hrel : Rel P g w (valOf vs) (args0 0 (args.map dem)) H := ⟨hr.h, fun t => (hV t).vc, fun t i t' i' b h => absurd h (no_own (hV t) i b), fun t i b h => absurd h (no_own (hV t) i b), hr.cc⟩
        refine ⟨?_, by simp; omega, rfl, ⟨Same.refl _ _ _, rfl, rfl, rfl, Nat.le_refl _, Keeps.refl _ _, fun _ _ h => .inl h, fun b _ _ _ => ⟨rfl, fun o h => h⟩⟩, fun t i b h => ?_, fun b h => .inr h⟩
        · rw [show vals { tmps := vs ++ Array.replicate (fn.ntmps - vs.size) undef, defers := [] } = valOf vs from funext hval]; exact hrel
        · rw [hval] at h; exact absurd h (no_own (hV t) i b)
      refine pCode_sound hm hT hd c _ _ (fun e g' w' a E H' inv hk => ?_) _ _ _ _ _ hinv hp
      have fin : ∀ (hk : pRes tt H' fn.results.toList E fun vs => Q (tupOf vs) H'), a.defers = [] ∧ ∃ v, (results fn a.tmps).run P w' = .ok v w' ∧
          ∃ v' r H2 g2, Ending.returned v = .returned v' ∧ Q r H2 ∧ Rel P g2 w' (one v') [(0, r)] H2 ∧ Step g w H (cellOwn g w H) g2 w' H2 ∧ (∀ i b, ownAt v' r i b → w.heap.size ≤ b ∨ cellOwn g w H b) ∧
            ∀ b, cellOwn g2 w' H2 b → w.heap.size ≤ b ∨ cellOwn g w H b := fun hk => by
        obtain ⟨us, ps, h1, h2, h3, h4, h5, h6⟩ := pRes_sound hT fn.results.toList E _ inv hk
        obtain ⟨j1, j2⟩ := res_VC h3 h4
        refine ⟨inv.defers, valRes us, results_eq fn a h1, _, tupOf ps, H', g', rfl, h2, ⟨inv.rel.h, fun t => ?_, fun t i t' i' b ho ho' => ?_, fun t i b ho => ?_, inv.rel.cc⟩, inv.step, fun i b ho => ?_, inv.cown⟩
        · rw [Env.get_cons]
          unfold one
          by_cases e : t = 0
          · rw [if_pos e, if_pos e.symm]; exact j1
          · rw [if_neg e, if_neg (Ne.symm e)]; exact (V.undef _).vc
        · rw [Env.get_cons] at ho ho'
          unfold one at ho ho'
          by_cases e : t = 0
          · by_cases e' : t' = 0
            · rw [if_pos e, if_pos e.symm] at ho
              rw [if_pos e', if_pos e'.symm] at ho'
              obtain ⟨c, u, y1, y2, y3, y4⟩ := j2 i b ho
              obtain ⟨c', u', z1, z2, z3, z4⟩ := j2 i' b ho'
              exact ⟨e.trans e'.symm, h6 i i' c c' u u' b y1 y2 y3 y4 z1 z2 z3 z4⟩
            · rw [if_neg (Ne.symm e')] at ho'; cases ho'.2.1
          · rw [if_neg (Ne.symm e)] at ho; cases ho.2.1
        · rw [Env.get_cons] at ho
          unfold one at ho
          by_cases e : t = 0
          · rw [if_pos e, if_pos e.symm] at ho
            obtain ⟨c, u, y1, y2, y3, y4⟩ := j2 i b ho
            obtain ⟨t', ht'⟩ := h5 i c u b y1 y2 y3 y4
            exact inv.rel.sc t' 0 b ht'
          · rw [if_neg (Ne.symm e)] at ho; cases ho.2.1
        · obtain ⟨c, u, y1, y2, y3, y4⟩ := j2 i b ho
          obtain ⟨t', ht'⟩ := h5 i c u b y1 y2 y3 y4
          exact inv.own t' 0 b ht'
      cases e with
      | normal => exact fin hk
      | ret => exact fin hk
      | exit i => exact hk.elim
    · exact hp.elim
  · exact hp.elim
end
end Ps
