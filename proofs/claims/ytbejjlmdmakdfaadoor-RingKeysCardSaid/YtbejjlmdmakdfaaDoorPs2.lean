/- PSem, part 2: what holds between the steps of a call, and how it goes on. -/
import Derived.Test.YtbejjlmdmakdfaaDoorPs1
set_option linter.all false
set_option linter.unusedVariables false
set_option linter.unusedSimpArgs false
set_option linter.unnecessarySimpa false
namespace Ps
open Go

theorem Array.getD_set (a : Array Value) (d t : Nat) (v : Value) (h : d < a.size) : (a.setIfInBounds d v).getD t undef = if t = d then v else a.getD t undef := by
  by_cases e : t = d
  · subst e; simp [Array.getD_eq_getD_getElem?, h]
  · rw [if_neg e]; simp [Array.getD_eq_getD_getElem?, Ne.symm e]

theorem cell?_of_heap {w w' : World} {b : Nat} (h : w'.heap[b]? = w.heap[b]?) (o : Nat) : w'.cell? ⟨b, o, none⟩ = w.cell? ⟨b, o, none⟩ := by
  simp [World.cell?, h]
theorem cell?_cells {w : World} {b : Nat} {vs : Array Value} {e : Nat} {fr : Nat × Nat} (h : w.heap[b]? = some (.cells vs e fr)) (o : Nat) : w.cell? ⟨b, o, none⟩ = vs[o]? := by
  simp [World.cell?, h]

/-- A block that nothing touches. -/
structure Quiet (g : Gh) (w : World) (g' : Gh) (w' : World) (b : Nat) : Prop where
  heap : w'.heap[b]? = w.heap[b]?
  I : ∀ o, g'.I b o → g.I b o
  ι : ∀ (id : Nat), g'.ι[id]? ≠ some (some b)

theorem OwnF.quiet {P : Program} {g g' : Gh} {w w' : World} {v : Value} {n : Nat} {cs : List PV} {e b : Nat} (h : OwnF P g w v n cs e b) (q : Quiet g w g' w' b) :
    OwnF P g' w' v n cs e b := by
  obtain ⟨cap, vs, h1, h2, h3, h4⟩ := h.ex
  exact ⟨⟨cap, vs, h1, h2, q.heap.trans h3, h4⟩, q.ι, fun o ho hi => h.spare o ho (q.I o hi)⟩

theorem OwnF.blk {P : Program} {g : Gh} {w : World} {v : Value} {n : Nat} {cs : List PV} {e b : Nat} (h : OwnF P g w v n cs e b) : blk v = some b := by
  obtain ⟨cap, vs, rfl, _⟩ := h.ex; rfl

theorem VH.mono {P : Program} {g g' : Gh} {w w' : World} {v : Value} {p : PV} (h : VH P g w v p) (k : Keeps g w g' w')
    (hq : ∀ b, isOwn p = true → blk v = some b → Quiet g w g' w' b) : VH P g' w' v p := by
  rcases h with h | ⟨n, cs, e, b, rfl, hv, ho⟩
  · exact .inl (h.mono k)
  · exact .inr ⟨n, cs, e, b, rfl, hv.mono k, ho.quiet (hq b rfl ho.blk)⟩

theorem VC.mono {P : Program} {g g' : Gh} {w w' : World} {v : Value} {p : PV} (h : VC P g w v p) (k : Keeps g w g' w')
    (hq : ∀ i b, ownAt v p i b → Quiet g w g' w' b) : VC P g' w' v p := by
  cases p with
  | tup cs =>
    obtain ⟨vs, rfl, h1, h2⟩ := h
    exact ⟨vs, rfl, h1, fun j c hj => (h2 j c hj).mono k fun b ho hb => hq j b ⟨c, hj, ho, vs, rfl, hb⟩⟩
  | _ => exact VH.mono h k fun b ho hb => hq 0 b ⟨rfl, ho, hb⟩

theorem V.own_nil {g : Gh} {w : World} {v : Value} {n : Nat} {cs : List PV} {e : Nat} (h : V g w v (.slice n cs (some e))) : v = .slice none 0 0 ∧ n = 0 ∧ cs = [] := by
  cases h; exact ⟨rfl, rfl, rfl⟩
theorem V.own_blk {g : Gh} {w : World} {v : Value} {p : PV} (h : V g w v p) (ho : isOwn p = true) : Ps.blk v = none := by
  cases p with
  | slice n cs o =>
    cases o with
    | none => cases ho
    | some e => obtain ⟨rfl, _⟩ := h.own_nil; rfl
  | _ => cases ho
theorem VH.own {P : Program} {g : Gh} {w : World} {v : Value} {p : PV} {b : Nat} (h : VH P g w v p) (ho : isOwn p = true) (hb : blk v = some b) :
    ∃ n cs e, p = .slice n cs (some e) ∧ V g w v (.slice n cs none) ∧ OwnF P g w v n cs e b := by
  rcases h with h | ⟨n, cs, e, b', rfl, hv, hf⟩
  · rw [h.own_blk ho] at hb; cases hb
  · have := hf.blk; rw [this] at hb; cases hb; exact ⟨n, cs, e, rfl, hv, hf⟩
theorem V.dem {g : Gh} {w : World} {v : Value} {p : PV} (h : V g w v p) : V g w v (dem p) := by
  cases p with
  | slice n cs o =>
    cases o with
    | none => exact h
    | some e => obtain ⟨rfl, rfl, rfl⟩ := h.own_nil; exact .snil none
  | tup cs => exact .undef _
  | _ => exact h
theorem VH.dem {P : Program} {g : Gh} {w : World} {v : Value} {p : PV} (h : VH P g w v p) : V g w v (dem p) := by
  rcases h with h | ⟨n, cs, e, b, rfl, hv, hf⟩
  · exact h.dem
  · exact hv
theorem VC.dem {P : Program} {g : Gh} {w : World} {v : Value} {p : PV} (h : VC P g w v p) : V g w v (dem p) := by
  cases p with
  | tup cs => exact .undef _
  | _ => exact VH.dem h
theorem dem_own (p : PV) : isOwn (dem p) = false := by cases p <;> rfl

abbrev vals (a : Act) (t : Nat) : Value := a.tmps.getD t undef

structure Inv (P : Program) (g0 : Gh) (w0 : World) (H0 : PH) (F0 : Nat → Prop) (N : Nat) (g : Gh) (w : World) (a : Act) (E : Env) (H : PH) : Prop where
  rel : Rel P g w (vals a) E H
  size : a.tmps.size = N
  defers : a.defers = []
  step : Step g0 w0 H0 F0 g w H
  own : ∀ t i b, ownAt (vals a t) (E.get t) i b → w0.heap.size ≤ b ∨ F0 b
  cown : ∀ b, cellOwn g w H b → w0.heap.size ≤ b ∨ F0 b

section
variable {P : Program} {g0 : Gh} {w0 : World} {H0 : PH} {F0 : Nat → Prop} {N : Nat} {g : Gh} {w : World} {a : Act} {E : Env} {H : PH}

theorem put_some (a : Act) (d : Nat) (v : Value) : a.put (some d) v = { a with tmps := a.tmps.setIfInBounds d v } := rfl
theorem vals_put (a : Act) (d t : Nat) (v : Value) (h : d < a.tmps.size) : vals (a.put (some d) v) t = if t = d then v else vals a t :=
  Array.getD_set a.tmps d t v h

/-- A slot gets a value. -/
theorem Inv.put (inv : Inv P g0 w0 H0 F0 N g w a E H) {d : Nat} (hd : d < N) {v : Value} {p : PV} (hv : VC P g w v p)
    (ho : ∀ i b, ownAt v p i b → (∀ t i', t ≠ d → ¬ ownAt (vals a t) (E.get t) i' b) ∧ ¬ cellOwn g w H b ∧ (w0.heap.size ≤ b ∨ F0 b))
    (hi : ∀ i i' b, ownAt v p i b → ownAt v p i' b → i = i') : Inv P g0 w0 H0 F0 N g w (a.put (some d) v) ((d, p) :: E) H := by
  have hd' : d < a.tmps.size := by rw [inv.size]; exact hd
  have hval : ∀ t, vals (a.put (some d) v) t = if t = d then v else vals a t := fun t => vals_put a d t v hd'
  have hget : ∀ t, Env.get ((d, p) :: E) t = if t = d then p else E.get t := fun t => by
    rw [Env.get_cons]; by_cases h : d = t
    · subst h; simp
    · rw [if_neg h, if_neg (Ne.symm h)]
  refine ⟨⟨inv.rel.h, fun t => ?_, fun t i t' i' b h h' => ?_, fun t i b h => ?_, inv.rel.cc⟩, ?_, inv.defers, inv.step, fun t i b h => ?_, inv.cown⟩
  · rw [hval, hget]
    by_cases h : t = d
    · simp [h, hv]
    · rw [if_neg h, if_neg h]; exact inv.rel.e t
  · rw [hval, hget] at h h'
    by_cases e : t = d
    · by_cases e' : t' = d
      · simp only [e, e', if_true] at h h' ⊢
        exact ⟨trivial, hi _ _ _ h h'⟩
      · simp only [e, if_true] at h
        simp only [e', if_false] at h'
        exact absurd h' ((ho _ _ h).1 t' i' e')
    · by_cases e' : t' = d
      · simp only [e, if_false] at h
        simp only [e', if_true] at h'
        exact absurd h ((ho _ _ h').1 t i e)
      · simp only [e, if_false] at h
        simp only [e', if_false] at h'
        exact inv.rel.ss t i t' i' b h h'
  · rw [hval, hget] at h
    by_cases e : t = d
    · simp only [e, if_true] at h; exact (ho _ _ h).2.1
    · simp only [e, if_false] at h; exact inv.rel.sc t i b h
  · rw [put_some]; simp [inv.size]
  · rw [hval, hget] at h
    by_cases e : t = d
    · simp only [e, if_true] at h; exact (ho _ _ h).2.2
    · simp only [e, if_false] at h; exact inv.own t i b h

theorem no_own {v : Value} {p : PV} {g : Gh} {w : World} (h : V g w v p) : ∀ i b, ¬ ownAt v p i b := by
  intro i b ho
  cases p with
  | tup cs => cases h
  | _ => obtain ⟨_, h2, h3⟩ := ho; first | (cases h2; done) | (rw [h.own_blk h2] at h3; cases h3)

theorem V.vc {v : Value} {p : PV} (h : V g w v p) : VC P g w v p := by
  cases p with
  | tup cs => cases h
  | _ => exact .inl h

/-- A slot gets a plain value. -/
theorem Inv.putV (inv : Inv P g0 w0 H0 F0 N g w a E H) {d : Nat} (hd : d < N) {v : Value} {p : PV} (hv : V g w v p) :
    Inv P g0 w0 H0 F0 N g w (a.put (some d) v) ((d, p) :: E) H :=
  inv.put hd hv.vc (fun i b h => absurd h (no_own hv i b)) (fun i _ b h => absurd h (no_own hv i b))

/-- A slot's value is seen as less. -/
theorem Inv.weaken (inv : Inv P g0 w0 H0 F0 N g w a E H) {s : Nat} {p : PV} (hv : VC P g w (vals a s) p)
    (ho : ∀ i b, ownAt (vals a s) p i b → ownAt (vals a s) (E.get s) i b) : Inv P g0 w0 H0 F0 N g w a ((s, p) :: E) H := by
  have hget : ∀ t, Env.get ((s, p) :: E) t = if t = s then p else E.get t := fun t => by
    rw [Env.get_cons]; by_cases h : s = t
    · subst h; simp
    · rw [if_neg h, if_neg (Ne.symm h)]
  have hsub : ∀ t i b, ownAt (vals a t) (Env.get ((s, p) :: E) t) i b → ownAt (vals a t) (E.get t) i b := by
    intro t i b h
    rw [hget] at h
    by_cases e : t = s
    · subst e; rw [if_pos rfl] at h; exact ho i b h
    · rw [if_neg e] at h; exact h
  refine ⟨⟨inv.rel.h, fun t => ?_, fun t i t' i' b h h' => inv.rel.ss t i t' i' b (hsub _ _ _ h) (hsub _ _ _ h'), fun t i b h => inv.rel.sc t i b (hsub _ _ _ h), inv.rel.cc⟩,
    inv.size, inv.defers, inv.step, fun t i b h => inv.own t i b (hsub _ _ _ h), inv.cown⟩
  rw [hget]
  by_cases e : t = s
  · subst e; rw [if_pos rfl]; exact hv
  · rw [if_neg e]; exact inv.rel.e t

/-- An owner that gives up. -/
theorem Inv.demote (inv : Inv P g0 w0 H0 F0 N g w a E H) {s n : Nat} {cs : List PV} {o : Option Nat} (h : E.get s = .slice n cs o) :
    Inv P g0 w0 H0 F0 N g w a ((s, .slice n cs none) :: E) H := by
  have hv := inv.rel.e s
  rw [h] at hv
  have hv' : V g w (vals a s) (.slice n cs none) := VH.dem (p := .slice n cs o) hv
  exact inv.weaken hv'.vc (fun i b ho => absurd ho (no_own hv' i b))

/-- The world and the objects go on; no slot is written. -/
theorem Inv.go (inv : Inv P g0 w0 H0 F0 N g w a E H) {g' : Gh} {w' : World} {H' : PH} (hos : w'.os = w.os) (htape : w'.tape = w.tape) (hout : w'.output = w.output)
    (hsize : w.heap.size ≤ w'.heap.size) (hk : Keeps g w g' w') (hι : ∀ (id b : Nat), g'.ι[id]? = some (some b) → g.ι[id]? = some (some b) ∨ w.heap.size ≤ b)
    (hfar : ∀ b, b < w0.heap.size → (∀ (id : Nat), g0.ι[id]? ≠ some (some b)) → ¬ F0 b → w'.heap[b]? = w.heap[b]? ∧ ∀ o, g'.I b o → g.I b o)
    (hfr : Same g w H w' H') (hown : ∀ t i b, ownAt (vals a t) (E.get t) i b → Quiet g w g' w' b) (hH : RelH P g' w' H')
    (hc : ∀ id j b, cellOwnAt g' w' H' id j b → cellOwnAt g w H id j b ∨
      ((∀ t i, ¬ ownAt (vals a t) (E.get t) i b) ∧ (∀ id' j', cellOwnAt g' w' H' id' j' b → id' = id ∧ j' = j) ∧ (w0.heap.size ≤ b ∨ F0 b))) :
    Inv P g0 w0 H0 F0 N g' w' a E H' := by
  refine ⟨⟨hH, fun t => (inv.rel.e t).mono hk fun i b h => hown t i b h, inv.rel.ss, fun t i b h => ?_, fun id j id' j' b h h' => ?_⟩, inv.size, inv.defers, ?_, inv.own, fun b ⟨id, j, h⟩ => ?_⟩
  · rintro ⟨id, j, hcell⟩
    rcases hc id j b hcell with hcell' | hcell'
    · exact inv.rel.sc t i b h ⟨id, j, hcell'⟩
    · exact hcell'.1 t i h
  · rcases hc id j b h with h1 | h1
    · rcases hc id' j' b h' with h2 | h2
      · exact inv.rel.cc id j id' j' b h1 h2
      · have := h2.2.1 id j h; exact this
    · have := h1.2.1 id' j' h'; exact ⟨this.1.symm, this.2.symm⟩
  · have s := inv.step
    refine ⟨s.fr.trans s.keeps.ι hfr, hos.trans s.os, htape.trans s.tape, hout.trans s.output, Nat.le_trans s.size hsize, s.keeps.trans hk, fun id b h => ?_, fun b hb hi hc => ?_⟩
    · rcases hι id b h with h | h
      · exact s.ι id b h
      · exact .inr (Nat.le_trans s.size h)
    · have h1 := s.far b hb hi hc
      have h2 := hfar b hb hi hc
      exact ⟨h2.1.trans h1.1, fun o h => h1.2 o (h2.2 o h)⟩
  · rcases hc id j b h with h1 | h1
    · exact inv.cown b ⟨id, j, h1⟩
    · exact h1.2.2
end
end Ps
