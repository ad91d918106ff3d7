/- PSem, part 15: calls; every operation; regions. -/
import Derived.Test.YtbejjlmdmakdfaaDoorPs14
set_option linter.all false
set_option linter.unusedVariables false
set_option linter.unusedSimpArgs false
set_option linter.unnecessarySimpa false
set_option linter.unusedSimpArgs false
set_option linter.unusedVariables false
namespace Ps
open Go
section
variable {P : Program} {tt : TT} {imm : List Nat} {g0 : Gh} {w0 : World} {H0 : PH} {F0 : Nat → Prop} {N : Nat} {g : Gh} {w : World} {a : Act} {E : Env} {H : PH} {q : Q}

theorem args0_get : ∀ (l : List PV) (i t : Nat), Env.get (args0 i l) t = if i ≤ t then l.getD (t - i) .undef else .undef
  | [], i, t => by simp [args0, Env.get]
  | p :: l, i, t => by
    rw [args0, Env.get_cons, args0_get l (i + 1) t]
    by_cases h : i = t
    · subst h; simp
    · rw [if_neg h]
      by_cases h2 : i ≤ t
      · rw [if_pos (by omega), if_pos h2, show t - i = (t - (i + 1)) + 1 by omega]; simp
      · rw [if_neg (by omega), if_neg h2]

/-- Plain values as arguments. -/
theorem Rel.args (hh : RelH P g w H) (hcc : ∀ id j id' j' b, cellOwnAt g w H id j b → cellOwnAt g w H id' j' b → id = id' ∧ j = j') {vs : Array Value} {ps : List PV} (hs : vs.size = ps.length)
    (hv : ∀ (j : Nat) (c : PV), ps[j]? = some c → V g w (vs.getD j undef) c) : Rel P g w (valOf vs) (args0 0 ps) H := by
  have hV : ∀ t, V g w (valOf vs t) (Env.get (args0 0 ps) t) := fun t => by
    rw [args0_get]
    simp only [Nat.zero_le, if_true, Nat.sub_zero]
    cases h : ps[t]? with
    | none => rw [List.getD_eq_getElem?_getD, h]; exact .undef _
    | some c => rw [List.getD_eq_getElem?_getD, h]; exact hv t c h
  exact ⟨hh, fun t => (hV t).vc, fun t i t' i' b h => absurd h (no_own (hV t) i b), fun t i b h => absurd h (no_own (hV t) i b), hcc⟩

theorem op_call {c : Call} {x : Operand} {o : Oper} {K : KK} (ho : o.op = .call c) (hc : c.callee = .value x) (inv : Inv P g0 w0 H0 F0 N g w a E H) (hq : QRel a g w q) (hp : pOp P tt imm E q H o K) :
    OpS P g0 w0 H0 F0 N a w o K := by
  simp only [pOp, ho, hc] at hp
  split at hp
  · rename_i f ps qs hx
    have hvx := opnd_V inv hx (by simp) rfl
    obtain ⟨first, caps, e1, e2, e3, e4, e5⟩ := hvx.inv_func
    obtain ⟨vs, h1, h2, hp⟩ := frcs_spec (fun x _ => opnd_VC inv.rel x) hp
    have hp := hp.h
    unfold CallOk at hp
    have hl : vs.length = c.args.size := by rw [h1, Array.length_toList]
    have hsz : (first ++ c.args.map a.eval ++ caps).size = (ps ++ vs ++ qs).length := by simp [e2, e3, h1]
    have hrel : Rel P g w (valOf (first ++ c.args.map a.eval ++ caps)) (args0 0 (ps ++ vs ++ qs)) H := by
      refine Rel.args inv.rel.h inv.rel.cc hsz fun j p hj => ?_
      rw [Array.getD_eq_getD_getElem?]
      rcases Nat.lt_or_ge j ps.length with hj1 | hj1
      · rw [List.append_assoc, List.getElem?_append_left hj1] at hj
        have := e4 j p hj
        rw [Array.getD_eq_getD_getElem?] at this
        rw [Array.append_assoc, Array.getElem?_append_left (by omega)]; exact this
      · rcases Nat.lt_or_ge j (ps.length + vs.length) with hj2 | hj2
        · rw [List.getElem?_append_left (by simpa using hj2), List.getElem?_append_right hj1] at hj
          obtain ⟨z, hz, hv⟩ := h2 _ p hj
          rw [Array.getElem?_toList] at hz
          rw [Array.getElem?_append_left (by simp [e2]; omega), Array.getElem?_append_right (by omega), e2]
          simp [hz, hv]
        · rw [List.getElem?_append_right (by simpa using hj2)] at hj
          have := e5 _ p hj
          rw [Array.getD_eq_getD_getElem?] at this
          rw [Array.getElem?_append_right (by simp [e2]; omega)]
          rw [show j - (first ++ c.args.map a.eval).size = j - (ps ++ vs).length by simp [e2, h1]]
          exact this
    have hcall := hp g w _ hsz hrel
    have hexec : (execOp a.eval o).run P w = (callFunc f (first ++ c.args.map a.eval ++ caps)).run P w := by
      simp [execOp, ho, resolve, hc, e1, Deferred.ofValue, invoke]
    intro next Q' hn
    have fin : ∀ v r H' g' w', K r none E (qslots q) H' → Rel P g' w' (one v) [(0, r)] H' → Step g w H (cellOwn g w H) g' w' H' → (∀ i b, ownAt v r i b → w.heap.size ≤ b ∨ cellOwn g w H b) →
        (∀ b, cellOwn g' w' H' b → w.heap.size ≤ b ∨ cellOwn g w H b) → next (a.put o.dst v) w' := fun v r H' g' w' hk hr hs k1 k2 => by
      obtain ⟨i1, i2, i3, i4⟩ := inv.call hr hs k1 k2
      exact hn g' w' v r none E (qslots q) H' ⟨i1, i2, i3, i4, hq.slots, fun _ h => by cases h⟩ hk
    unfold Oper.wp
    rw [hexec]
    rcases hcall with ⟨h1, h2⟩ | ⟨v, w', h1, h2⟩
    · rw [h1, Oper.upon_enter]
      refine h2.mono ?_
      rintro e w' ⟨v, r, H', g', rfl, hk, hr, hs, k1, k2⟩
      exact fin v r H' g' w' hk hr hs k1 k2
    · rw [h1, Oper.upon_value]
      obtain ⟨v', r, H', g', hv, hk, hr, hs, k1, k2⟩ := h2
      cases hv
      exact fin v r H' g' w' hk hr hs k1 k2
  · exact hp.elim

theorem pOp_sound {o : Oper} {K : KK} (hT : ttOk P tt = true) (hd : 6 ≤ P.depth) (inv : Inv P g0 w0 H0 F0 N g w a E H) (hq : QRel a g w q) (hp : pOp P tt imm E q H o K) :
    OpS P g0 w0 H0 F0 N a w o K := by
  have hp0 := hp
  unfold pOp at hp
  split at hp
  · exact op_move ‹_› inv hq hp0
  · exact op_assign ‹_› inv hq hp0
  · exact op_pick ‹_› inv hq hp0
  · exact op_alloc hT ‹_› inv hq hp0
  · exact op_box ‹_› inv hq hp0
  · exact op_build hT ‹_› inv hq hp0
  · exact op_buildSlice hT ‹_› inv hq hp0
  · exact op_load hT ‹_› inv hq hp0
  · exact op_store hT ‹_› inv hq hp0
  · exact op_nilCheck ‹_› inv hq hp0
  · exact op_bin hT hd ‹_› inv hq hp0
  · exact op_un ‹_› inv hq hp0
  · exact op_convert hT ‹_› inv hq hp0
  · exact op_toArr hT ‹_› inv hq hp0
  · exact op_makeFunc ‹_› inv hq hp0
  · exact op_makeSlice hT ‹_› inv hq hp0
  · exact op_slice hT ‹_› inv hq hp0
  · exact op_fieldAddr hT ‹_› inv hq hp0
  · exact op_field hT ‹_› inv hq hp0
  · exact op_indexAddr hT ‹_› inv hq hp0
  · exact op_index hT ‹_› inv hq hp0
  · exact op_extract ‹_› inv hq hp0
  · rename_i c ho
    split at hp
    · exact op_len hT ho ‹_› inv hq hp0
    · exact op_append hT ho ‹_› inv hq hp0
    · exact op_cap hT ho ‹_› inv hq hp0
    · exact op_min ho ‹_› inv hq hp0
    · exact op_max ho ‹_› inv hq hp0
    · exact hp.elim
    · exact hp.elim
    · exact op_call ho ‹_› inv hq hp0
  · exact hp.elim

theorem vals_bool {a : Act} {t : Nat} {b : Bool} (h : vals a t = .bool b) : a.tmps[t]? = some (.bool b) := by
  unfold vals at h
  rw [Array.getD_eq_getD_getElem?] at h
  cases ht : a.tmps[t]? with
  | none => rw [ht] at h; cases h
  | some v => rw [ht] at h; exact congrArg some h

theorem guard_ok (inv : Inv P g0 w0 H0 F0 N g w a E H) {ops : Array Oper} {o : Oper} {A B : Prop} (hp : pGuard ops.toList E o.guard A B) :
    (Region.wanted o (yielded ops a.tmps) = true ∧ A) ∨ (Region.wanted o (yielded ops a.tmps) = false ∧ B) := by
  unfold pGuard at hp
  unfold Region.wanted
  split at hp
  · rename_i hg
    rw [hg]; exact .inl ⟨rfl, hp⟩
  · rename_i j want hg
    rw [hg]
    split at hp
    · rename_i o' ho'
      split at hp
      · rename_i t ht
        split at hp
        · rename_i b hb
          have hv := inv.rel.e t
          rw [hb] at hv
          have hv := vals_bool hv.bool
          rw [Array.getElem?_toList] at ho'
          have hy : yielded ops a.tmps j = some b := by simp [yielded, ho', ht, hv]
          simp only [hy]
          cases b <;> cases want <;> first | exact .inl ⟨by decide, hp⟩ | exact .inr ⟨by decide, hp⟩
        · rename_i hb
          have hv := inv.rel.e t
          rw [hb] at hv
          obtain ⟨vs, hvs, _⟩ := hv
          rw [Array.getElem?_toList] at ho'
          have hy : yielded ops a.tmps j = none := by
            have hvs : a.tmps.getD t undef = .tuple vs := hvs
            rw [Array.getD_eq_getD_getElem?] at hvs
            unfold yielded
            simp only [ho', ht, Option.bind_some]
            cases hx : a.tmps[t]? with
            | none => rfl
            | some x => rw [hx] at hvs; simp only [Option.getD_some] at hvs; rw [hvs]
          simp only [hy]
          exact .inr ⟨by cases want <;> rfl, hp⟩
        · exact hp.elim
      · exact hp.elim
    · exact hp.elim

/-- The operations of a region. -/
theorem pOps_sound (hT : ttOk P tt = true) (hd : 6 ≤ P.depth) {ops : Array Oper} {K : Env → PH → Prop} {Q' : Exit → Act → World → Prop}
    (hk : ∀ g w a E H, Inv P g0 w0 H0 F0 N g w a E H → K E H → Q' .normal a w) :
    ∀ (rest : List Oper) (g : Gh) (w : World) (a : Act) (E : Env) (q : Q) (H : PH), Inv P g0 w0 H0 F0 N g w a E H → QRel a g w q → pOps P tt imm N ops.toList rest E q H K → wpList P ops Q' rest a w
  | [], g, w, a, E, q, H, inv, hq, hp => hk _ _ _ _ _ inv hp
  | o :: rest, g, w, a, E, q, H, inv, hq, hp => by
    unfold pOps at hp
    unfold wpList
    rcases guard_ok inv hp with ⟨h1, h2⟩ | ⟨h1, h2⟩
    · rw [if_pos h1]
      refine .inl (pOp_sound hT hd inv hq h2 _ _ fun g' w' v p s E' q' H' hpost hk' => ?_)
      obtain ⟨E2, q2, i2, hq2, hk2⟩ := hpost.next hk'
      exact pOps_sound hT hd hk rest _ _ _ _ _ _ i2 hq2 hk2
    · rw [if_neg (by simp [h1])]
      have hpost : Post P g0 w0 H0 F0 N a g w E q H undef (.tup []) none := ⟨inv, ⟨#[], rfl, rfl, fun j c hj => by simp at hj⟩, fun i b ⟨c, hc, _⟩ => by simp at hc, fun i i' b ⟨c, hc, _⟩ => by simp at hc, hq, fun _ h => by cases h⟩
      obtain ⟨E2, q2, i2, hq2, hk2⟩ := hpost.next h2
      exact pOps_sound hT hd hk rest _ _ _ _ _ _ i2 hq2 hk2
end
end Ps
