import Derived.Test.YtbejjlmdmakdfaaGreatDoorPsB
import Derived.Defers
set_option linter.all false
/- A call's new row becomes a value of its own. -/
set_option linter.unusedVariables false
namespace Ps
open Go
section
variable {P : Program}
/-- The old objects, of which some were written: what stands in them is flat, or stood there. -/
structure Kept (H H1 : PH) : Prop where
  len : H1.length = H.length
  old : ∀ (id : Nat) (o' : PObj), H1[id]? = some o' → ∃ o, H[id]? = some o ∧ ∀ c, c ∈ o'.cs → flatP c = true ∨ c ∈ o.cs
/-- A row that the call made and answers, and that nobody else has: its cells, by value, of its own. -/
theorem CallOk.own {f : Nat} {args : List PV} {H : PH} {Q : PV → PH → Prop} {R : PH → Prop} {nn e0 sz : Nat} {cs : List PV} (h : CallOk P f args H Q) (hps : psize P e0 = sz) (hsz : 0 < sz) (hcs : cs.length = nn * sz) (hfl : cs.all flatP = true)
    (hq : ∀ r H', Q r H' → ∃ H1 ext id cap o, H' = H1 ++ ext ∧ Kept H H1 ∧ R H1 ∧ r = .sref id 0 nn cap ∧ H.length ≤ id ∧ H'[id]? = some o ∧ o.T = e0 ∧ o.cs.length = cap * sz ∧ o.cs.take cs.length = cs) :
    CallOk P f args H fun r H' => r = .slice nn cs (some e0) ∧ R H' := by
  intro g w vs hs hr
  refine (h g w vs hs hr).mono ?_
  rintro e w' ⟨v, r, H', g', rfl, q, hr', st, ho, hc⟩
  obtain ⟨H1, ext, id0, cap, ob, rfl, hkp, hR, rfl, hid0, hob, hT, hcp, htk⟩ := hq r H' q
  have hl1 := hkp.len
  have h0 : VC P g' w' v (.sref id0 0 nn cap) := hr'.e 0
  have h0 : V g' w' v (.sref id0 0 nn cap) := by
    rcases h0 with h0 | ⟨_, _, _, _, h0, _⟩
    · exact h0
    · cases h0
  obtain ⟨b0, rfl, hb0, hle⟩ := h0.inv_sref
  obtain ⟨us0, o1, o2, o3⟩ := hr'.h.obj id0 b0 ob hob hb0
  have hlen : g.ι.length = H.length := hr.h.len
  have hcl : cs.length ≤ ob.cs.length := by rw [hcp, hcs]; exact Nat.mul_le_mul_right _ hle
  have hfull : ∀ (id b : Nat), id < H.length → g'.ι[id]? = some (some b) → ∃ b0, g.ι[id]? = some (some b0) := fun id b hl h => by
    have hlt : id < g.ι.length := by omega
    cases hx : g.ι[id] with
    | some b0 => exact ⟨b0, by rw [List.getElem?_eq_getElem hlt, hx]⟩
    | none =>
      have := st.nil id (by rw [List.getElem?_eq_getElem hlt, hx])
      rw [h] at this; cases this
  have hnew : w.heap.size ≤ b0 := by
    rcases st.ι id0 b0 hb0 with h | h
    · exact absurd (List.getElem?_eq_some_iff.1 h).1 (by omega)
    · exact h
  let I2 : Nat → Nat → Prop := fun b o => g'.I b o ∨ (b = b0 ∧ o < cs.length)
  have hI2 : ∀ b o, g'.I b o → I2 b o := fun b o h => .inl h
  have htake : ∀ (id b : Nat), (g'.ι.take H.length)[id]? = some (some b) → id < H.length ∧ g'.ι[id]? = some (some b) := fun id b hi => by
    rw [List.getElem?_take] at hi
    split at hi
    · exact ⟨by assumption, hi⟩
    · cases hi
  have hmk : ∀ (id b : Nat), id < g.ι.length → g'.ι[id]? = some (some b) → (g'.ι.take H.length)[id]? = some (some b) := fun id b hl hi => by
    rw [List.getElem?_take, if_pos (by omega)]; exact hi
  have hsub : ∀ (id b : Nat), (g'.ι.take H.length)[id]? = some (some b) → g'.ι[id]? = some (some b) := fun id b hi => (htake id b hi).2
  have hne : ∀ (id : Nat), (g'.ι.take H.length)[id]? ≠ some (some b0) := fun id hi => by
    obtain ⟨k1, k2⟩ := htake id b0 hi
    have := hr'.h.inj id id0 b0 k2 hb0
    omega
  have hcell : ∀ id j b, cellOwnAt ⟨g'.ι.take H.length, I2⟩ w' H1 id j b → cellOwnAt g' w' (H1 ++ ext) id j b := fun id j b ⟨o, c, b0, v, h1, h2, h3, h4, h5, h6⟩ =>
    ⟨o, c, b0, v, by rw [List.getElem?_append_left (List.getElem?_eq_some_iff.1 h1).1]; exact h1, h2, h3, hsub _ _ h4, h5, h6⟩
  have hown : ∀ {u : Value} {n : Nat} {cs' : List PV} {e b : Nat}, OwnF P g' w' u n cs' e b → OwnF P ⟨g'.ι.take H.length, I2⟩ w' u n cs' e b := fun hf =>
    ⟨hf.ex, fun id hi => hf.obj id (hsub id _ hi), fun o ho hi => by
      rcases hi with hi | ⟨rfl, _⟩
      · exact hf.spare o ho hi
      · exact hf.obj id0 hb0⟩
  have hv : V ⟨g'.ι.take H.length, I2⟩ w' (.slice (some ⟨b0, 0, none⟩) nn cap) (.slice nn cs none) := by
    refine .slice b0 0 nn cap cs (fun j => us0.getD j undef) hle (fun j c hj => ?_) fun j c hj => ?_
    · have hlt : j < cs.length := (List.getElem?_eq_some_iff.1 hj).1
      refine ⟨.inr ⟨rfl, by omega⟩, ?_⟩
      rw [cell?_cells o1, Nat.zero_add]
      have : j < us0.size := by rw [o2]; omega
      simp [this]
    · have hlt : j < cs.length := (List.getElem?_eq_some_iff.1 hj).1
      have hoc : ob.cs[j]? = some c := by
        rw [← htk, List.getElem?_take, if_pos hlt] at hj; exact hj
      obtain ⟨u, y1, y2⟩ := o3 j c hoc
      have hcf : flatP c = true := List.all_eq_true.1 hfl c (List.mem_of_getElem? hj)
      simp only [Array.getD_eq_getD_getElem?, y1, Option.getD_some]
      exact (y2.flat hcf).flat hcf
  have hnI : ∀ o, ¬ g'.I b0 o := fun o hi => (hr'.h.imm b0 o hi).1 id0 hb0
  have hf : OwnF P ⟨g'.ι.take H.length, I2⟩ w' (.slice (some ⟨b0, 0, none⟩) nn cap) nn cs e0 b0 := by
    refine ⟨⟨cap, us0, rfl, hle, by rw [← hT]; exact o1, by rw [hps]; exact hsz, by rw [hps]; exact hcs, by rw [hps, o2]; exact hcp⟩, hne, fun o ho hi => ?_⟩
    rcases hi with hi | ⟨_, hi⟩
    · exact hnI o hi
    · omega
  have hget : ∀ t, VC P ⟨g'.ι.take H.length, I2⟩ w' (one (.slice (some ⟨b0, 0, none⟩) nn cap) t) (Env.get [(0, .slice nn cs (some e0))] t) := fun t => by
    rw [Env.get_cons]
    unfold one
    by_cases e : t = 0
    · rw [if_pos e, if_pos e.symm]; exact .inr ⟨nn, cs, e0, b0, rfl, hv, hf⟩
    · rw [if_neg e, if_neg (Ne.symm e)]; exact (V.undef _).vc
  have hwho : ∀ t i b, ownAt (one (.slice (some ⟨b0, 0, none⟩) nn cap) t) (Env.get [(0, .slice nn cs (some e0))] t) i b → t = 0 ∧ i = 0 ∧ b = b0 := fun t i b h => by
    rw [Env.get_cons] at h
    unfold one at h
    by_cases e : t = 0
    · rw [if_pos e, if_pos e.symm] at h
      exact ⟨e, h.1, (Option.some.inj h.2.2).symm⟩
    · rw [if_neg (Ne.symm e)] at h; cases h.2.1
  have hnc : ¬ cellOwn g' w' (H1 ++ ext) b0 := by
    rintro ⟨id, j, o, c, b1, u, h1, h2, h3, h4, h5, h6⟩
    obtain ⟨vs, k1, k2, k3⟩ := hr'.h.obj id b1 o h1 h4
    obtain ⟨u', y1, y2⟩ := k3 j c h2
    rw [cell?_cells k1, y1] at h5
    obtain rfl := Option.some.inj h5
    rcases y2 with y2 | ⟨n, cs', e, bb, rfl, _, hf'⟩
    · cases c with
      | slice n cs' o' =>
        cases o' with
        | some e =>
          obtain ⟨rfl, rfl, rfl⟩ := y2.own_nil
          cases y2; cases h6
        | none => cases h3
      | _ => cases h3
    · obtain ⟨cap', vs', rfl, _⟩ := hf'.ex
      have : bb = b0 := Option.some.inj h6
      subst this
      exact hf'.obj id0 hb0
  refine ⟨_, .slice nn cs (some e0), H1, ⟨g'.ι.take H.length, I2⟩, rfl, ⟨rfl, hR⟩, ⟨⟨?_, fun id id' b h1 h2 => hr'.h.inj id id' b (hsub _ _ h1) (hsub _ _ h2), trivial, fun id b o h1 h2 => ?_, fun b o hi => ?_⟩, hget, fun t i t' i' b h h' => ?_, fun t i b h hh => ?_, fun id j id' j' b h1 h2 => hr'.cc id j id' j' b (hcell _ _ _ h1) (hcell _ _ _ h2)⟩,
    ⟨⟨fun id o ho => ?_, fun id b o o' hi h1 h2 hv => ?_⟩, st.os, st.tape, st.output, st.size, ⟨fun id b hi => hmk id b (List.getElem?_eq_some_iff.1 hi).1 (st.keeps.ι id b hi), fun b o hi => ⟨.inl (st.keeps.I b o hi).1, (st.keeps.I b o hi).2⟩⟩, fun id b hi => st.ι id b (hsub id b hi), fun b hb h1 h2 => ?_, fun id h => by
      have hlt := (List.getElem?_eq_some_iff.1 h).1
      show (g'.ι.take H.length)[id]? = some none
      rw [List.getElem?_take, if_pos (by omega)]; exact st.nil id h⟩,
    fun i b h => ?_, fun b ⟨id, j, h1⟩ => hc b ⟨id, j, hcell _ _ _ h1⟩⟩
  · have := hr'.h.len
    simp at this ⊢
    omega
  · obtain ⟨hl, h2'⟩ := htake id b h2
    obtain ⟨us, k1, k2, k3⟩ := hr'.h.obj id b o (by rw [List.getElem?_append_left (by omega)]; exact h1) h2'
    refine ⟨us, k1, k2, fun j c hj => ?_⟩
    obtain ⟨u, y1, y2⟩ := k3 j c hj
    refine ⟨u, y1, ?_⟩
    obtain ⟨b1, hb1⟩ := hfull id b hl h2'
    obtain ⟨oo, q1, q2⟩ := hkp.old id o h1
    rcases q2 c (List.mem_of_getElem? hj) with hcf | hcm
    · exact .inl ((y2.flat hcf).flat hcf)
    obtain ⟨j0, hj0⟩ := List.getElem?_of_mem hcm
    obtain ⟨us1, z1, z2, z3⟩ := hr.h.obj id b1 oo q1 hb1
    obtain ⟨u0, x1, x2⟩ := z3 j0 c hj0
    have both : ∀ (p : PV) (u u0 : Value), V g w u0 p → V g' w' u p → V ⟨g'.ι.take H.length, I2⟩ w' u p := fun p u u0 a0 a1 => V.both (g := g') (h := a1) (g0 := g) (g' := ⟨g'.ι.take H.length, I2⟩) hI2 hmk a0
    rcases y2 with y2 | ⟨n, cs', e, bb, rfl, hv', hf⟩
    · cases c with
      | slice n cs' o' =>
        cases o' with
        | some e =>
          obtain ⟨rfl, rfl, rfl⟩ := y2.own_nil
          exact .inl (.snil _)
        | none => exact .inl (both _ _ _ x2.dem y2)
      | tup cs' => exact x2.not_tup.elim
      | _ => exact .inl (both _ _ _ x2.dem y2)
    · exact .inr ⟨n, cs', e, bb, rfl, both _ _ _ x2.dem hv', hown hf⟩
  · rcases hi with hi | ⟨rfl, hi⟩
    · obtain ⟨k1, k2⟩ := hr'.h.imm b o hi
      exact ⟨fun id h2 => k1 id (hsub _ _ h2), k2⟩
    · exact ⟨hne, us0, _, _, o1, by rw [o2]; omega⟩
  · obtain ⟨rfl, rfl, _⟩ := hwho t i b h
    obtain ⟨rfl, rfl, _⟩ := hwho t' i' b h'
    exact ⟨rfl, rfl⟩
  · obtain ⟨_, _, rfl⟩ := hwho t i b h
    obtain ⟨id, j, h2⟩ := hh
    exact hnc ⟨id, j, hcell _ _ _ h2⟩
  · obtain ⟨o', k1, k2⟩ := st.fr.more id o ho
    have := (List.getElem?_eq_some_iff.1 ho).1
    rw [List.getElem?_append_left (by omega)] at k1
    exact ⟨o', k1, k2⟩
  · have := (List.getElem?_eq_some_iff.1 h1).1
    exact st.fr.same id b o o' hi h1 (by rw [List.getElem?_append_left (by omega)]; exact h2) hv
  · obtain ⟨k1, k2⟩ := st.far b hb h1 h2
    refine ⟨k1, fun o hi => ?_⟩
    rcases hi with hi | ⟨rfl, _⟩
    · exact k2 o hi
    · omega
  · have : b = b0 := (Option.some.inj h.2.2).symm
    subst this
    exact .inl hnew
end
end Ps

/- A call's own row becomes an object. -/
set_option linter.unusedVariables false
namespace Ps
open Go
section
variable {P : Program}
theorem Imm.flatAt {g : Gh} {w : World} {b off n cap : Nat} {cs : List PV} (h : V g w (.slice (some ⟨b, off, none⟩) n cap) (.slice n cs none)) {j : Nat} {c : PV} (hj : cs[j]? = some c) : ∃ u, w.cell? ⟨b, off + j, none⟩ = some u ∧ V g w u c := by
  cases h with
  | slice _ _ _ _ _ u hn h1 h2 => exact ⟨u j, (h1 j c hj).2, h2 j c hj⟩
/-- A row of its own that a call answers: from now on an object. -/
theorem CallOk.obj {f : Nat} {args : List PV} {H : PH} {n e0 sz : Nat} {cs : List PV} (h : CallOk P f args H fun r H' => r = .slice n cs (some e0) ∧ H' = H) (hn : 0 < n) (hps : psize P e0 = sz) (hfl : cs.all flatP = true) :
    CallOk P f args H fun r H' => ∃ cap k, n ≤ cap ∧ cs.length + k = cap * sz ∧ r = .sref H.length 0 n cap ∧ H' = H ++ [⟨e0, cs ++ List.replicate k .undef, 0⟩] := by
  intro g w vs hs hr
  refine (h g w vs hs hr).mono ?_
  rintro e w' ⟨v, r, H', g', rfl, ⟨rfl, rfl⟩, hr', st, ho, hc⟩
  have h0 : VC P g' w' v (.slice n cs (some e0)) := hr'.e 0
  have h0 : VH P g' w' v (.slice n cs (some e0)) := h0
  obtain ⟨b, hv, hf⟩ : ∃ b, V g' w' v (.slice n cs none) ∧ OwnF P g' w' v n cs e0 b := by
    rcases h0 with h0 | ⟨n', cs', e', b, he, hv, hf⟩
    · have := h0.own_nil.2.1
      omega
    · cases he
      exact ⟨b, hv, hf⟩
  obtain ⟨cap, us, rfl, hle, hus, hp0, hcl, huz⟩ := hf.ex
  rw [hps] at hp0 hcl huz
  have hlen : g.ι.length = H'.length := hr.h.len
  have hlen' : g'.ι.length = H'.length := hr'.h.len
  have hown : ownAt (one (.slice (some ⟨b, 0, none⟩) n cap) 0) (Env.get [(0, .slice n cs (some e0))] 0) 0 b := ⟨rfl, rfl, rfl⟩
  have hnc : ¬ cellOwn g' w' H' b := hr'.sc 0 0 b hown
  have hheap : ∀ (id b1 : Nat) (o : PObj), g.ι[id]? = some (some b1) → H'[id]? = some o → w'.heap[b1]? = w.heap[b1]? := fun id b1 o h1 h2 => (st.fr.same id b1 o o h1 h2 h2 rfl).2
  have hfull : ∀ (id b1 : Nat), id < H'.length → g'.ι[id]? = some (some b1) → g.ι[id]? = some (some b1) := fun id b1 hl h => by
    have hlt : id < g.ι.length := by omega
    cases hx : g.ι[id] with
    | some b0 =>
      have k1 : g.ι[id]? = some (some b0) := by rw [List.getElem?_eq_getElem hlt, hx]
      have k2 := st.keeps.ι id b0 k1
      rw [h] at k2
      cases k2
      exact k1
    | none =>
      have := st.nil id (by rw [List.getElem?_eq_getElem hlt, hx])
      rw [h] at this; cases this
  have hcellold : ∀ id j b1, cellOwnAt g w H' id j b1 → cellOwnAt g' w' H' id j b1 := fun id j b1 ⟨o, c, b0, u, h1, h2, h3, h4, h5, h6⟩ =>
    ⟨o, c, b0, u, h1, h2, h3, st.keeps.ι _ _ h4, by
      obtain ⟨vs1, k1, _⟩ := hr.h.obj id b0 o h1 h4
      have k2 := (hheap id b0 o h4 h1).trans k1
      rw [cell?_cells k2, ← cell?_cells k1]; exact h5, h6⟩
  have hnew : w.heap.size ≤ b := by
    rcases ho 0 b ⟨rfl, rfl, rfl⟩ with h | ⟨id, j, h⟩
    · exact h
    · exact absurd ⟨id, j, hcellold id j b h⟩ hnc
  let g2 : Gh := ⟨g'.ι ++ [some b], fun b1 o => g'.I b1 o ∧ b1 ≠ b⟩
  have hι : ∀ (id b1 : Nat), g2.ι[id]? = some (some b1) → (id < H'.length ∧ g'.ι[id]? = some (some b1)) ∨ (id = H'.length ∧ b1 = b) := fun id b1 hi => by
    by_cases hl : id < H'.length
    · exact .inl ⟨hl, by rw [← hi]; exact (List.getElem?_append_left (by omega)).symm⟩
    · have hlt := (List.getElem?_eq_some_iff.1 hi).1
      simp only [g2, List.length_append, List.length_cons, List.length_nil] at hlt
      have e : id = g'.ι.length := by omega
      subst e
      have : (g'.ι ++ [some b])[g'.ι.length]? = some (some b) := by simp
      rw [show g2.ι[g'.ι.length]? = (g'.ι ++ [some b])[g'.ι.length]? from rfl, this] at hi
      cases hi
      exact .inr ⟨hlen', rfl⟩
  have hold : ∀ (id b1 : Nat), g'.ι[id]? = some (some b1) → g2.ι[id]? = some (some b1) := fun id b1 hi => by
    have hlt := (List.getElem?_eq_some_iff.1 hi).1
    rw [← hi]; exact List.getElem?_append_left hlt
  have hat : g2.ι[H'.length]? = some (some b) := by
    show (g'.ι ++ [some b])[H'.length]? = _
    rw [← hlen']; simp
  have hkeep : Keeps g w g2 w' := ⟨fun id b1 hi => hold _ _ (st.keeps.ι id b1 hi), fun b1 o hi => ⟨⟨(st.keeps.I b1 o hi).1, fun e => by
    have := hr.h.ilt hi
    omega⟩, (st.keeps.I b1 o hi).2⟩⟩
  have hget2 : ∀ (t : Nat) (x : PObj), (H' ++ [x])[t]? = if t < H'.length then H'[t]? else if t = H'.length then some x else none := fun t x => by
    split
    · exact List.getElem?_append_left (by assumption)
    · split
      · rename_i h1 h2; subst h2; simp
      · rw [List.getElem?_eq_none (by simp; omega)]
  generalize hX : PObj.mk e0 (cs ++ List.replicate (cap * sz - cs.length) .undef) 0 = X
  have hXc : ∀ (j : Nat) (c : PV), X.cs[j]? = some c → (flatP c = true ∧ cs[j]? = some c) ∨ (c = .undef ∧ j < cap * sz) := fun j c hj => by
    subst hX
    by_cases hl : j < cs.length
    · rw [List.getElem?_append_left hl] at hj
      exact .inl ⟨List.all_eq_true.1 hfl c (List.mem_of_getElem? hj), hj⟩
    · rw [List.getElem?_append_right (by omega)] at hj
      have h1 := (List.getElem?_eq_some_iff.1 hj).1
      rw [List.length_replicate] at h1
      rw [List.getElem?_replicate, if_pos h1] at hj
      exact .inr ⟨(Option.some.inj hj).symm, by omega⟩
  have hcc : ∀ id j b1, cellOwnAt g2 w' (H' ++ [X]) id j b1 → cellOwnAt g' w' H' id j b1 := fun id j b1 ⟨o, c, b0, u, h1, h2, h3, h4, h5, h6⟩ => by
    rcases hι _ _ h4 with ⟨k1, k2⟩ | ⟨k1, k2⟩
    · rw [List.getElem?_append_left k1] at h1
      exact ⟨o, c, b0, u, h1, h2, h3, k2, h5, h6⟩
    · subst k1
      have : (H' ++ [X])[H'.length]? = some X := by simp
      rw [this] at h1; cases h1
      rcases hXc j c h2 with ⟨q, _⟩ | ⟨rfl, _⟩
      · cases c <;> first | (cases q; done) | (cases h3; done)
      · cases h3
  have hno : ∀ t i b1, ¬ ownAt (one (.slice (some ⟨b, 0, none⟩) n cap) t) (Env.get [(0, .sref H'.length 0 n cap)] t) i b1 := fun t i b1 h => by
    rw [Env.get_cons] at h
    unfold one at h
    by_cases e : t = 0
    · rw [if_pos e, if_pos e.symm] at h; cases h.2.1
    · rw [if_neg (Ne.symm e)] at h; cases h.2.1
  have hcs : cs.length ≤ cap * sz := by rw [hcl]; exact Nat.mul_le_mul_right _ hle
  refine ⟨_, .sref H'.length 0 n cap, H' ++ [X], g2, rfl, ⟨cap, cap * sz - cs.length, hle, by omega, rfl, by rw [hX]⟩, ⟨⟨?_, fun id id' b1 h1 h2 => ?_, trivial, fun id b1 o h1 h2 => ?_, fun b1 o hi => ?_⟩, fun t => ?_, fun t i t' i' b1 h _ => absurd h (hno t i b1), fun t i b1 h _ => hno t i b1 h, fun id j id' j' b1 h1 h2 => hr'.cc id j id' j' b1 (hcc _ _ _ h1) (hcc _ _ _ h2)⟩,
    ⟨⟨fun id o h => ⟨o, by rw [List.getElem?_append_left (List.getElem?_eq_some_iff.1 h).1]; exact h, Nat.le_refl _⟩, fun id b1 o o' hi h1 h2 hv => ?_⟩, st.os, st.tape, st.output, st.size, hkeep, fun id b1 hi => ?_, fun b1 hb h1 h2 => ?_, fun id h => ?_⟩,
    fun i b1 h => ?_, fun b1 ⟨id, j, h1⟩ => hc b1 ⟨id, j, hcc _ _ _ h1⟩⟩
  · show (g'.ι ++ [some b]).length = _
    simp [hlen']
  · rcases hι _ _ h1 with ⟨a1, a2⟩ | ⟨a1, a2⟩ <;> rcases hι _ _ h2 with ⟨c1, c2⟩ | ⟨c1, c2⟩
    · exact hr'.h.inj id id' b1 a2 c2
    · subst c2; exact absurd a2 (hf.obj id)
    · subst a2; exact absurd c2 (hf.obj id')
    · omega
  · rcases hι _ _ h2 with ⟨a1, a2⟩ | ⟨a1, a2⟩
    · rw [List.getElem?_append_left a1] at h1
      obtain ⟨us1, k1, k2, k3⟩ := hr'.h.obj id b1 o h1 a2
      have hg := hfull id b1 a1 a2
      obtain ⟨us2, z1, z2, z3⟩ := hr.h.obj id b1 o h1 hg
      have := (hheap id b1 o hg h1).trans z1
      rw [k1] at this
      cases this
      refine ⟨us1, k1, k2, fun j c hj => ?_⟩
      obtain ⟨u, y1, y2⟩ := k3 j c hj
      obtain ⟨u', x1, x2⟩ := z3 j c hj
      rw [y1] at x1; cases x1
      refine ⟨u, y1, ?_⟩
      rcases x2 with x2 | ⟨nn, cc, ee, bb, rfl, xv, xf⟩
      · exact .inl (x2.mono hkeep)
      · rcases y2 with y2 | ⟨_, _, _, bb', he, yv, yf⟩
        · obtain ⟨rfl, rfl, rfl⟩ := y2.own_nil
          exact .inl (.snil _)
        · cases he
          refine .inr ⟨nn, cc, ee, bb', rfl, xv.mono hkeep, ⟨yf.ex, fun id2 hi => ?_, fun o2 ho2 hi => yf.spare o2 ho2 hi.1⟩⟩
          rcases hι _ _ hi with ⟨_, q⟩ | ⟨_, q⟩
          · exact yf.obj id2 q
          · subst q
            exact hnc ⟨id, j, o, _, b1, u, h1, hj, rfl, a2, by rw [cell?_cells k1]; exact y1, yf.blk⟩
    · subst a1; subst a2
      have : (H' ++ [X])[H'.length]? = some X := by simp
      rw [this] at h1; cases h1
      refine ⟨us, by rw [← hX]; exact hus, ?_, fun j c hj => ?_⟩
      · rw [huz, ← hX]
        simp only [List.length_append, List.length_replicate]
        omega
      · rcases hXc j c hj with ⟨q1, q2⟩ | ⟨rfl, q2⟩
        · obtain ⟨u, x1, x2⟩ := Imm.flatAt hv q2
          rw [Nat.zero_add, cell?_cells hus] at x1
          exact ⟨u, x1, .inl (x2.flat q1)⟩
        · have hj2 : j < us.size := by omega
          exact ⟨us[j], by simp [hj2], .inl (.undef _)⟩
  · obtain ⟨k1, k2⟩ := hr'.h.imm b1 o hi.1
    refine ⟨fun id h2 => ?_, k2⟩
    rcases hι _ _ h2 with ⟨_, q⟩ | ⟨_, q⟩
    · exact k1 id q
    · exact hi.2 q
  · rw [Env.get_cons]
    unfold one
    by_cases e : t = 0
    · rw [if_pos e, if_pos e.symm]; exact (V.sref _ b 0 n cap hat hle).vc
    · rw [if_neg e, if_neg (Ne.symm e)]; exact (V.undef _).vc
  · have hl := (List.getElem?_eq_some_iff.1 h1).1
    rw [List.getElem?_append_left hl, h1] at h2
    cases h2
    exact ⟨rfl, hheap id b1 o hi h1⟩
  · rcases hι _ _ hi with ⟨_, q⟩ | ⟨_, q⟩
    · exact st.ι id b1 q
    · subst q; exact .inr hnew
  · obtain ⟨k1, k2⟩ := st.far b1 hb h1 h2
    exact ⟨k1, fun o hi => k2 o hi.1⟩
  · have := st.nil id h
    have hlt := (List.getElem?_eq_some_iff.1 this).1
    rw [← this]; exact List.getElem?_append_left hlt
  · cases h.2.1
end
end Ps

/- An argument that is nil is a row of nothing. -/
set_option linter.unusedVariables false
namespace Ps
open Go
/-- What may stand in an argument's place where the contract says another one. -/
def nilLe (a b : PV) : Prop := a = b ∨ (a = .nilS ∧ b = .slice 0 [] none)
theorem nilLe_vc {P : Program} {g : Gh} {w : World} {v : Value} {a b : PV} (h : nilLe a b) (k : VC P g w v a) : VC P g w v b := by
  rcases h with rfl | ⟨rfl, rfl⟩
  · exact k
  · rcases k with k | ⟨_, _, _, _, k, _⟩
    · cases k; exact .inl (.snil _)
    · cases k
theorem nilLe_own {v : Value} {a b : PV} {i bb : Nat} (h : nilLe a b) (k : ownAt v b i bb) : ownAt v a i bb := by
  rcases h with rfl | ⟨rfl, rfl⟩
  · exact k
  · cases k.2.1
inductive NilLe : List PV → List PV → Prop
  | nil : NilLe [] []
  | same (c : PV) {a b : List PV} (h : NilLe a b) : NilLe (c :: a) (c :: b)
  | turn {a b : List PV} (h : NilLe a b) : NilLe (.nilS :: a) (.slice 0 [] none :: b)
theorem NilLe.len {a b : List PV} (h : NilLe a b) : a.length = b.length := by
  induction h with
  | nil => rfl
  | same c h ih => simp [ih]
  | turn h ih => simp [ih]
theorem NilLe.get {a b : List PV} (h : NilLe a b) : ∀ i t, nilLe ((args0 i a).get t) ((args0 i b).get t) := by
  induction h with
  | nil => exact fun i t => .inl rfl
  | same c h ih =>
    intro i t
    show nilLe (Env.get ((i, c) :: args0 (i + 1) _) t) (Env.get ((i, c) :: args0 (i + 1) _) t)
    rw [Env.get_cons, Env.get_cons]
    split
    · exact .inl rfl
    · exact ih _ _
  | turn h ih =>
    intro i t
    show nilLe (Env.get ((i, _) :: args0 (i + 1) _) t) (Env.get ((i, _) :: args0 (i + 1) _) t)
    rw [Env.get_cons, Env.get_cons]
    split
    · exact .inr ⟨rfl, rfl⟩
    · exact ih _ _
theorem CallOk.nils {P : Program} {f : Nat} {a b : List PV} {H : PH} {Q : PV → PH → Prop} (h : CallOk P f b H Q) (hn : NilLe a b) : CallOk P f a H Q := fun g w vs hs hr =>
  h g w vs (hs.trans hn.len) ⟨hr.h, fun t => nilLe_vc (hn.get 0 t) (hr.e t), fun t i t' i' bb h1 h2 => hr.ss t i t' i' bb (nilLe_own (hn.get 0 t) h1) (nilLe_own (hn.get 0 t') h2), fun t i bb h1 => hr.sc t i bb (nilLe_own (hn.get 0 t) h1), hr.cc⟩
end Ps

/- What a call made is forgotten; what it wrote stays. -/
set_option linter.unusedVariables false
namespace Ps
open Go
section
variable {P : Program}
/-- What the call made and nobody sees is forgotten; of the old objects some were written. -/
theorem CallOk.gcK {f : Nat} {args : List PV} {H : PH} {Q R : PV → PH → Prop} (h : CallOk P f args H Q) (hq : ∀ r H', Q r H' → oldR r = true ∧ ∃ H1 ext, H' = H1 ++ ext ∧ Kept H H1 ∧ R r H1) :
    CallOk P f args H R := by
  intro g w vs hs hr
  refine (h g w vs hs hr).mono ?_
  rintro e w' ⟨v, r, H', g', rfl, q, hr', st, ho, hc⟩
  obtain ⟨hold, H1, ext, rfl, hkp, hR⟩ := hq r H' q
  have hl1 := hkp.len
  have hlen : g.ι.length = H.length := hr.h.len
  have hfull : ∀ (id b : Nat), id < H.length → g'.ι[id]? = some (some b) → ∃ b0, g.ι[id]? = some (some b0) := fun id b hl h => by
    have hlt : id < g.ι.length := by omega
    cases hx : g.ι[id] with
    | some b0 => exact ⟨b0, by rw [List.getElem?_eq_getElem hlt, hx]⟩
    | none =>
      have := st.nil id (by rw [List.getElem?_eq_getElem hlt, hx])
      rw [h] at this; cases this
  have htake : ∀ (id b : Nat), (g'.ι.take H.length)[id]? = some (some b) → id < H.length ∧ g'.ι[id]? = some (some b) := fun id b hi => by
    rw [List.getElem?_take] at hi
    split at hi
    · exact ⟨by assumption, hi⟩
    · cases hi
  have hmk : ∀ (id b : Nat), id < g.ι.length → g'.ι[id]? = some (some b) → (g'.ι.take H.length)[id]? = some (some b) := fun id b hl hi => by
    rw [List.getElem?_take, if_pos (by omega)]; exact hi
  have hsub : ∀ (id b : Nat), (g'.ι.take H.length)[id]? = some (some b) → g'.ι[id]? = some (some b) := fun id b hi => (htake id b hi).2
  have hV : V (⟨g'.ι.take H.length, g'.I⟩) w' = V (⟨g'.ι.take H.length, g'.I⟩) w' := rfl
  have hcell : ∀ id j b, cellOwnAt ⟨g'.ι.take H.length, g'.I⟩ w' H1 id j b → cellOwnAt g' w' (H1 ++ ext) id j b := fun id j b ⟨o, c, b0, v, h1, h2, h3, h4, h5, h6⟩ =>
    ⟨o, c, b0, v, by rw [List.getElem?_append_left (List.getElem?_eq_some_iff.1 h1).1]; exact h1, h2, h3, hsub _ _ h4, h5, h6⟩
  have hRV : ∀ (u : Value) (p : PV), oldP p = true → VH P g' w' u p → VH P ⟨g'.ι.take H.length, g'.I⟩ w' u p := fun u p hp hu => by
    rcases hu with hu | ⟨n, cs, e, b, rfl, hv, hf⟩
    · exact .inl (V.old (g := g') (h := hu) (g' := ⟨g'.ι.take H.length, g'.I⟩) (fun _ _ h => h) hp)
    · exact .inr ⟨n, cs, e, b, rfl, V.old (g := g') (h := hv) (g' := ⟨g'.ι.take H.length, g'.I⟩) (fun _ _ h => h) (by simpa [oldP] using hp), OwnF.sub (g := g') (h := hf) (g' := ⟨g'.ι.take H.length, g'.I⟩) rfl hsub⟩
  have hRC : VC P ⟨g'.ι.take H.length, g'.I⟩ w' v r := by
    have h0 := hr'.e 0
    have h0 : VC P g' w' v r := h0
    cases r with
    | tup cs =>
      obtain ⟨us, rfl, k1, k2⟩ := h0
      exact ⟨us, rfl, k1, fun j c hj => hRV _ _ (oldPs_get hold j c hj) (k2 j c hj)⟩
    | _ => exact hRV _ _ hold h0
  have hget : ∀ t, VC P ⟨g'.ι.take H.length, g'.I⟩ w' (one v t) (Env.get [(0, r)] t) := fun t => by
    rw [Env.get_cons]
    unfold one
    by_cases e : t = 0
    · rw [if_pos e, if_pos e.symm]; exact hRC
    · rw [if_neg e, if_neg (Ne.symm e)]; exact (V.undef _).vc
  refine ⟨v, r, H1, ⟨g'.ι.take H.length, g'.I⟩, rfl, hR, ⟨⟨?_, fun id id' b h1 h2 => hr'.h.inj id id' b (hsub _ _ h1) (hsub _ _ h2), trivial, fun id b o h1 h2 => ?_, fun b o hi => ?_⟩, hget, hr'.ss, fun t i b h1 h2 => ?_, fun id j id' j' b h1 h2 => hr'.cc id j id' j' b (hcell _ _ _ h1) (hcell _ _ _ h2)⟩,
    ⟨⟨fun id o ho => ?_, fun id b o o' hi h1 h2 hv => ?_⟩, st.os, st.tape, st.output, st.size, ⟨fun id b hi => hmk id b (List.getElem?_eq_some_iff.1 hi).1 (st.keeps.ι id b hi), st.keeps.I⟩, fun id b hi => st.ι id b (hsub id b hi), st.far, fun id h => by
      have hlt := (List.getElem?_eq_some_iff.1 h).1
      show (g'.ι.take H.length)[id]? = some none
      rw [List.getElem?_take, if_pos (by omega)]; exact st.nil id h⟩, ho, fun b ⟨id, j, h1⟩ => hc b ⟨id, j, hcell _ _ _ h1⟩⟩
  · have := hr'.h.len
    simp at this ⊢
    omega
  · obtain ⟨hl, h2'⟩ := htake id b h2
    obtain ⟨us, k1, k2, k3⟩ := hr'.h.obj id b o (by rw [List.getElem?_append_left (by omega)]; exact h1) h2'
    refine ⟨us, k1, k2, fun j c hj => ?_⟩
    obtain ⟨u, y1, y2⟩ := k3 j c hj
    refine ⟨u, y1, ?_⟩
    obtain ⟨b0, hb0⟩ := hfull id b hl h2'
    obtain ⟨oo, q1, q2⟩ := hkp.old id o h1
    rcases q2 c (List.mem_of_getElem? hj) with hcf | hcm
    · exact .inl ((y2.flat hcf).flat hcf)
    obtain ⟨j0, hj0⟩ := List.getElem?_of_mem hcm
    obtain ⟨us0, z1, z2, z3⟩ := hr.h.obj id b0 oo q1 hb0
    obtain ⟨u0, x1, x2⟩ := z3 j0 c hj0
    have both : ∀ (p : PV) (u u0 : Value), V g w u0 p → V g' w' u p → V ⟨g'.ι.take H.length, g'.I⟩ w' u p := fun p u u0 a0 a1 => V.both (g := g') (h := a1) (g0 := g) (g' := ⟨g'.ι.take H.length, g'.I⟩) (fun _ _ h => h) hmk a0
    rcases y2 with y2 | ⟨n, cs, e, bb, rfl, hv, hf⟩
    · cases c with
      | slice n cs o' =>
        cases o' with
        | some e =>
          obtain ⟨rfl, rfl, rfl⟩ := y2.own_nil
          exact .inl (.snil _)
        | none => exact .inl (both _ _ _ x2.dem y2)
      | tup cs => exact x2.not_tup.elim
      | _ => exact .inl (both _ _ _ x2.dem y2)
    · exact .inr ⟨n, cs, e, bb, rfl, both _ _ _ x2.dem hv, OwnF.sub (g := g') (h := hf) (g' := ⟨g'.ι.take H.length, g'.I⟩) rfl hsub⟩
  · obtain ⟨k1, k2⟩ := hr'.h.imm b o hi
    exact ⟨fun id h2 => k1 id (hsub _ _ h2), k2⟩
  · obtain ⟨id, j, h2⟩ := h2
    exact hr'.sc t i b h1 ⟨id, j, hcell _ _ _ h2⟩
  · obtain ⟨o', k1, k2⟩ := st.fr.more id o ho
    have := (List.getElem?_eq_some_iff.1 ho).1
    rw [List.getElem?_append_left (by omega)] at k1
    exact ⟨o', k1, k2⟩
  · have := (List.getElem?_eq_some_iff.1 h1).1
    exact st.fr.same id b o o' hi h1 (by rw [List.getElem?_append_left (by omega)]; exact h2) hv

end
end Ps

/- Calls that were deferred; and a walk of the kit's over what the calculus knows. -/
set_option linter.unusedVariables false
set_option linter.unusedSimpArgs false
namespace Ps
open Go
/-- A deferred call: as CallOk. -/
def CallDOk (P : Program) (f : Nat) (args : List PV) (H : PH) (Q : PV → PH → Prop) : Prop :=
  ∀ (g : Gh) (w : World) (vs : Array Value) (u : FrameMode), vs.size = args.length → Rel P g w (valOf vs) (args0 0 args) H →
    (callFunc f vs).run P w = .ok (.enter f vs) w ∧ CallsD P f vs u w fun e u' w' => u' = u ∧ ∃ v r H' g', e = .returned v ∧ Q r H' ∧ Rel P g' w' (one v) [(0, r)] H' ∧ Step g w H (cellOwn g w H) g' w' H' ∧
      (∀ i b, ownAt v r i b → w.heap.size ≤ b ∨ cellOwn g w H b) ∧ ∀ b, cellOwn g' w' H' b → w.heap.size ≤ b ∨ cellOwn g w H b
section
variable {P : Program} {tt : TT} {imm : List Nat}
theorem callDOk_of_pFun {f : Nat} {fn : Func} {args : List PV} {H : PH} {Q : PV → PH → Prop} (hm : P.follows .mixedOrders = true) (hT : ttOk P tt = true) (hd : 6 ≤ P.depth) (hf : P.funcs[f]? = some fn)
    (hname : (fn.name == "runtime.NumGoroutine") = false) (hp : pFun P tt imm fn args H Q) : CallDOk P f args H Q := by
  intro g w vs u hs hr
  unfold pFun at hp
  split at hp
  · rename_i c hc
    split at hp
    · rename_i hle
      have hle : args.length ≤ fn.ntmps := Nat.le_of_ble_eq_true hle
      refine ⟨run_callFunc_body hf hname (by rw [hc]; rfl), callsD_of_wp hf hc ?_⟩
      have hval : ∀ t, vals { tmps := vs ++ Array.replicate (fn.ntmps - vs.size) undef, defers := [] } t = valOf vs t := fun t => by
        simp only [vals, valOf, Array.getD_eq_getD_getElem?]
        rcases Nat.lt_or_ge t vs.size with h | h
        · rw [Array.getElem?_append_left h]
        · rw [Array.getElem?_append_right h, Array.getElem?_eq_none h, Array.getElem?_replicate]
          split <;> rfl
      have hV : ∀ t, V g w (valOf vs t) (Env.get (args0 0 (args.map dem)) t) := fun t => by
        have := (hr.e t).dem
        rw [args0_get] at this ⊢
        simp only [Nat.zero_le, if_true, Nat.sub_zero, List.getD_eq_getElem?_getD, List.getElem?_map] at this ⊢
        cases h : args[t]? with
        | none => exact .undef _
        | some p => rw [h] at this; exact this
      have hinv : Inv P g w H (cellOwn g w H) fn.ntmps g w { tmps := vs ++ Array.replicate (fn.ntmps - vs.size) undef, defers := [] } (args0 0 (args.map dem)) H := by
        have hrel : Rel P g w (valOf vs) (args0 0 (args.map dem)) H := ⟨hr.h, fun t => (hV t).vc, fun t i t' i' b h => absurd h (no_own (hV t) i b), fun t i b h => absurd h (no_own (hV t) i b), hr.cc⟩
        refine ⟨?_, by simp; omega, rfl, ⟨Same.refl _ _ _, rfl, rfl, rfl, Nat.le_refl _, Keeps.refl _ _, fun _ _ h => .inl h, fun b _ _ _ => ⟨rfl, fun o h => h⟩, fun _ h => h⟩, fun t i b h => ?_, fun b h => .inr h⟩
        · rw [show vals { tmps := vs ++ Array.replicate (fn.ntmps - vs.size) undef, defers := [] } = valOf vs from funext hval]; exact hrel
        · rw [hval] at h; exact absurd h (no_own (hV t) i b)
      refine pCode_sound hm hT hd c _ _ (fun e g' w' a E H' inv hk => ?_) _ _ _ _ _ hinv hp
      have fin : ∀ (hk : pRes tt H' fn.results.toList E fun vs => Q (tupOf vs) H'), a.defers = [] ∧ ∃ v, (results fn a.tmps).run P w' = .ok v w' ∧
          ∃ v' r H2 g2, Ending.returned v = .returned v' ∧ Q r H2 ∧ Rel P g2 w' (one v') [(0, r)] H2 ∧ Step g w H (cellOwn g w H) g2 w' H2 ∧ (∀ i b, ownAt v' r i b → w.heap.size ≤ b ∨ cellOwn g w H b) ∧
            ∀ b, cellOwn g2 w' H2 b → w.heap.size ≤ b ∨ cellOwn g w H b := fun hk => by
        obtain ⟨us, ps, h1, h2, h3, h4, h5, h6⟩ := pRes_sound hT fn.results.toList E _ inv hk
        obtain ⟨j1, j2⟩ := res_VC h3 h4
        refine ⟨inv.defers, valRes us, results_eq fn a h1, _, tupOf ps, H', g', rfl, h2, ⟨inv.rel.h, fun t => ?_, fun t i t' i' b ho ho' => ?_, fun t i b ho => ?_, inv.rel.cc⟩, inv.step, fun i b ho => ?_, inv.cown⟩
        · rw [Env.get_cons]
          unfold one
          by_cases e : t = 0
          · rw [if_pos e, if_pos e.symm]; exact j1
          · rw [if_neg e, if_neg (Ne.symm e)]; exact (V.undef _).vc
        · rw [Env.get_cons] at ho ho'
          unfold one at ho ho'
          by_cases e : t = 0
          · by_cases e' : t' = 0
            · rw [if_pos e, if_pos e.symm] at ho
              rw [if_pos e', if_pos e'.symm] at ho'
              obtain ⟨c, u, y1, y2, y3, y4⟩ := j2 i b ho
              obtain ⟨c', u', z1, z2, z3, z4⟩ := j2 i' b ho'
              exact ⟨e.trans e'.symm, h6 i i' c c' u u' b y1 y2 y3 y4 z1 z2 z3 z4⟩
            · rw [if_neg (Ne.symm e')] at ho'; cases ho'.2.1
          · rw [if_neg (Ne.symm e)] at ho; cases ho.2.1
        · rw [Env.get_cons] at ho
          unfold one at ho
          by_cases e : t = 0
          · rw [if_pos e, if_pos e.symm] at ho
            obtain ⟨c, u, y1, y2, y3, y4⟩ := j2 i b ho
            obtain ⟨t', ht'⟩ := h5 i c u b y1 y2 y3 y4
            exact inv.rel.sc t' 0 b ht'
          · rw [if_neg (Ne.symm e)] at ho; cases ho.2.1
        · obtain ⟨c, u, y1, y2, y3, y4⟩ := j2 i b ho
          obtain ⟨t', ht'⟩ := h5 i c u b y1 y2 y3 y4
          exact inv.own t' 0 b ht'
      cases e with
      | normal => exact fin hk
      | ret => exact fin hk
      | exit i => exact hk.elim
    · exact hp.elim
  · exact hp.elim
end
theorem callDOk_of_pFun2 {P : Program} {tt : TT} {imm : List Nat} (hm : P.follows .mixedOrders = true) (hT : ttOk P tt = true) (hd : 6 ≤ P.depth) {f : Nat} {fn : Func} (hf : P.funcs[f]? = some fn)
    (hn : (fn.name == "runtime.NumGoroutine") = false) {args : List PV} {H : PH} {Q : PV → PH → Prop} (h : pFun2 P tt imm fn args H Q) : CallDOk P f args H Q :=
  callDOk_of_pFun hm hT hd hf hn (by rw [← pFunX.2]; exact h)
section
variable {P : Program}
/-- How all stands, from a beginning. -/
def St (P : Program) (g0 : Gh) (w0 : World) (H0 : PH) (g : Gh) (w : World) (H : PH) : Prop := Inv P g0 w0 H0 (cellOwn g0 w0 H0) 0 g w { tmps := #[], defers := [] } [] H
theorem Env.get_nil (t : Nat) : Env.get [] t = .undef := rfl
theorem St.start {g : Gh} {w : World} {H : PH} {val : Nat → Value} {E : Env} (hr : Rel P g w val E H) : St P g w H g w H :=
  ⟨⟨hr.h, fun t => (V.undef _).vc, fun t i t' i' b h => (by cases h.2.1), fun t i b h => (by cases h.2.1), hr.cc⟩, rfl, rfl,
    ⟨Same.refl _ _ _, rfl, rfl, rfl, Nat.le_refl _, Keeps.refl _ _, fun _ _ h => .inl h, fun b _ _ _ => ⟨rfl, fun o h => h⟩, fun _ h => h⟩, fun t i b h => (by cases h.2.1), fun b h => .inr h⟩
theorem St.keeps {g0 g : Gh} {w0 w : World} {H0 H : PH} (h : St P g0 w0 H0 g w H) : Keeps g0 w0 g w := h.step.keeps
/-- A call, from there. -/
theorem St.call {g0 g : Gh} {w0 w : World} {H0 H : PH} (h : St P g0 w0 H0 g w H) {f : Nat} {fn : Func} (hf : P.funcs[f]? = some fn) (hname : (fn.name == "runtime.NumGoroutine") = false) (hb : fn.body.isNone = false)
    {args : List PV} {Q : PV → PH → Prop} (hc : CallOk P f args H Q) {vs : Array Value} (hs : vs.size = args.length) (hv : ∀ (j : Nat) (c : PV), args[j]? = some c → V g w (vs.getD j undef) c) :
    Calls P f vs w fun e w' => ∃ v r H' g', e = .returned v ∧ Q r H' ∧ St P g0 w0 H0 g' w' H' ∧ Keeps g w g' w' ∧ VC P g' w' v r := by
  rcases hc g w vs hs (Rel.args h.rel.h h.rel.cc hs hv) with ⟨_, h2⟩ | ⟨v, w', h1, _⟩
  · refine h2.mono ?_
    rintro e w' ⟨v, r, H', g', rfl, q, hr, hst, ho, hcc⟩
    obtain ⟨i1, i2, _⟩ := Inv.call h hr hst ho hcc
    exact ⟨v, r, H', g', rfl, q, i1, hst.keeps, i2⟩
  · rw [run_callFunc_body hf hname hb] at h1
    cases h1
theorem St.callD {g0 g : Gh} {w0 w : World} {H0 H : PH} (h : St P g0 w0 H0 g w H) {f : Nat}
    {args : List PV} {Q : PV → PH → Prop} (hc : CallDOk P f args H Q) {vs : Array Value} (u : FrameMode) (hs : vs.size = args.length) (hv : ∀ (j : Nat) (c : PV), args[j]? = some c → V g w (vs.getD j undef) c) :
    (callFunc f vs).run P w = .ok (.enter f vs) w ∧ CallsD P f vs u w fun e u' w' => u' = u ∧ ∃ v r H' g', e = .returned v ∧ Q r H' ∧ St P g0 w0 H0 g' w' H' ∧ Keeps g w g' w' := by
  obtain ⟨h1, h2⟩ := hc g w vs u hs (Rel.args h.rel.h h.rel.cc hs hv)
  refine ⟨h1, h2.mono ?_⟩
  rintro e u' w' ⟨hu, v, r, H', g', rfl, q, hr, hst, ho, hcc⟩
  exact ⟨hu, v, r, H', g', rfl, q, (Inv.call h hr hst ho hcc).1, hst.keeps⟩
/-- The end: nothing is answered. -/
theorem St.fin {g0 g : Gh} {w0 w : World} {H0 H : PH} (h : St P g0 w0 H0 g w H) : Rel P g w (one (.tuple #[])) [(0, .tup [])] H ∧ Step g0 w0 H0 (cellOwn g0 w0 H0) g w H ∧
    (∀ i b, ownAt (.tuple #[]) (.tup []) i b → w0.heap.size ≤ b ∨ cellOwn g0 w0 H0 b) ∧ ∀ b, cellOwn g w H b → w0.heap.size ≤ b ∨ cellOwn g0 w0 H0 b := by
  refine ⟨⟨h.rel.h, fun t => ?_, fun t i t' i' b k => ?_, fun t i b k => ?_, h.rel.cc⟩, h.step, fun i b k => absurd k (unit_own i b), h.cown⟩
  · rw [Env.get_cons]
    unfold one
    by_cases e : t = 0
    · rw [if_pos e, if_pos e.symm]; exact unit_vc
    · rw [if_neg e, if_neg (Ne.symm e)]; exact (V.undef _).vc
  · rw [Env.get_cons] at k
    unfold one at k
    by_cases e : t = 0
    · rw [if_pos e, if_pos e.symm] at k; exact absurd k (unit_own i b)
    · rw [if_neg (Ne.symm e)] at k; cases k.2.1
  · rw [Env.get_cons] at k
    unfold one at k
    by_cases e : t = 0
    · rw [if_pos e, if_pos e.symm] at k; exact absurd k (unit_own i b)
    · rw [if_neg (Ne.symm e)] at k; cases k.2.1
end
end Ps
