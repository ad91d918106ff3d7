/- PSem, part 3: memory grows, and is written. -/
import Derived.Test.YtbejjlmdmakdfaaDoorPs2
set_option linter.all false
set_option linter.unusedVariables false
set_option linter.unusedSimpArgs false
set_option linter.unnecessarySimpa false
namespace Ps
open Go

theorem heap_lt {w : World} {b : Nat} {o : Obj} (h : w.heap[b]? = some o) : b < w.heap.size := (Array.getElem?_eq_some_iff.1 h).1

/-- One block more. -/
structure Pushes (w w1 : World) (o : Obj) : Prop where
  heap : w1.heap = w.heap.push o
  os : w1.os = w.os
  tape : w1.tape = w.tape
  output : w1.output = w.output
theorem Pushes.old {w w1 : World} {o : Obj} (h : Pushes w w1 o) {b : Nat} (hb : b < w.heap.size) : w1.heap[b]? = w.heap[b]? := by
  rw [h.heap, Array.getElem?_push]; simp [Nat.ne_of_lt hb]
theorem Pushes.new {w w1 : World} {o : Obj} (h : Pushes w w1 o) : w1.heap[w.heap.size]? = some o := by
  rw [h.heap, Array.getElem?_push]; simp
theorem Pushes.size {w w1 : World} {o : Obj} (h : Pushes w w1 o) : w1.heap.size = w.heap.size + 1 := by rw [h.heap]; simp
theorem Pushes.alloc (w : World) (o : Obj) : Pushes w (w.alloc o) o := ⟨rfl, rfl, rfl, rfl⟩

def addI (I : Nat → Nat → Prop) (b k : Nat) : Nat → Nat → Prop := fun b' o => I b' o ∨ (b' = b ∧ o < k)

section
variable {P : Program} {g0 : Gh} {w0 : World} {H0 : PH} {F0 : Nat → Prop} {N : Nat} {g : Gh} {w : World} {a : Act} {E : Env} {H : PH}

theorem RelH.ex (h : RelH P g w H) {id b : Nat} (hi : g.ι[id]? = some (some b)) : ∃ o, H[id]? = some o := by
  have : id < H.length := by rw [← h.len]; exact (List.getElem?_eq_some_iff.1 hi).1
  exact ⟨_, List.getElem?_eq_getElem this⟩
theorem RelH.lt (h : RelH P g w H) {id b : Nat} (hi : g.ι[id]? = some (some b)) : b < w.heap.size := by
  obtain ⟨o, ho⟩ := h.ex hi
  obtain ⟨vs, h1, _⟩ := h.obj id b o ho hi
  exact heap_lt h1
theorem RelH.ilt (h : RelH P g w H) {b o : Nat} (hi : g.I b o) : b < w.heap.size := by
  obtain ⟨_, vs, e, fr, h1, _⟩ := h.imm b o hi
  exact heap_lt h1
theorem ownAt_vh {v : Value} {p : PV} {i b : Nat} (h : VC P g w v p) (ho : ownAt v p i b) : ∃ n cs e u, VH P g w u (.slice n cs (some e)) ∧ OwnF P g w u n cs e b := by
  cases p with
  | tup cs =>
    obtain ⟨vs, rfl, h1, h2⟩ := h
    obtain ⟨c, hc, hoc, vs', he, hb⟩ := ho
    cases he
    obtain ⟨n, ds, e, rfl, hv, hf⟩ := (h2 i c hc).own hoc hb
    exact ⟨n, ds, e, _, h2 i _ hc, hf⟩
  | _ =>
    obtain ⟨rfl, hoc, hb⟩ := ho
    obtain ⟨n, ds, e, he, _, hf⟩ := VH.own h hoc hb
    exact ⟨n, ds, e, _, he ▸ (show VH P g w v _ from h), hf⟩
theorem ownF_lt {v : Value} {n : Nat} {cs : List PV} {e b : Nat} (h : OwnF P g w v n cs e b) : b < w.heap.size := by
  obtain ⟨cap, vs, _, _, h3, _⟩ := h.ex
  exact heap_lt h3
theorem Rel.own_lt {val : Nat → Value} (h : Rel P g w val E H) {t i b : Nat} (ho : ownAt (val t) (E.get t) i b) : b < w.heap.size ∧ (∀ (id : Nat), g.ι[id]? ≠ some (some b)) := by
  obtain ⟨n, cs, e, u, _, hf⟩ := ownAt_vh (h.e t) ho
  exact ⟨ownF_lt hf, hf.obj⟩
theorem RelH.cown (h : RelH P g w H) {id j b : Nat} (ho : cellOwnAt g w H id j b) : ∃ n cs e u, OwnF P g w u n cs e b := by
  obtain ⟨o, c, b0, v, h1, h2, h3, h4, h5, h6⟩ := ho
  obtain ⟨vs, k1, k2, k3⟩ := h.obj id b0 o h1 h4
  obtain ⟨v', k4, k5⟩ := k3 j c h2
  rw [cell?_cells k1] at h5
  rw [h5] at k4; cases k4
  obtain ⟨n, ds, e, _, _, hf⟩ := k5.own h3 h6
  exact ⟨n, ds, e, _, hf⟩

theorem quiet_push {w1 : World} {o : Obj} (hp : Pushes w w1 o) (k : Nat) {b : Nat} (hb : b < w.heap.size) (hi : ∀ (id : Nat), g.ι[id]? ≠ some (some b)) :
    Quiet g w ⟨g.ι, addI g.I w.heap.size k⟩ w1 b := by
  refine ⟨hp.old hb, fun o h => ?_, hi⟩
  rcases h with h | ⟨rfl, _⟩
  · exact h
  · exact absurd hb (Nat.lt_irrefl _)

theorem keeps_push {w1 : World} {o : Obj} (h : RelH P g w H) (hp : Pushes w w1 o) (k : Nat) : Keeps g w ⟨g.ι, addI g.I w.heap.size k⟩ w1 :=
  ⟨fun _ _ h => h, fun _ o hi => ⟨.inl hi, cell?_of_heap (hp.old (h.ilt hi)) o⟩⟩

theorem same_push {w1 : World} {o : Obj} (h : RelH P g w H) (hp : Pushes w w1 o) : Same g w H w1 H :=
  ⟨fun _ o h => ⟨o, h, Nat.le_refl _⟩, fun _ _ _ _ hi h1 h2 _ => ⟨Option.some.inj (h2.symm.trans h1), hp.old (h.lt hi)⟩⟩

/-- Data are laid: its first cells are looked at from now on. -/
theorem Inv.push (inv : Inv P g0 w0 H0 F0 N g w a E H) {w1 : World} {vs : Array Value} {e : Nat} {fr : Nat × Nat} (hp : Pushes w w1 (.cells vs e fr)) (k : Nat) (hk : k ≤ vs.size) :
    Inv P g0 w0 H0 F0 N ⟨g.ι, addI g.I w.heap.size k⟩ w1 a E H := by
  have hh := inv.rel.h
  have hkeep := keeps_push hh hp k
  have hcell : ∀ id j b, cellOwnAt ⟨g.ι, addI g.I w.heap.size k⟩ w1 H id j b → cellOwnAt g w H id j b := by
    rintro id j b ⟨o, c, b0, v, h1, h2, h3, h4, h5, h6⟩
    exact ⟨o, c, b0, v, h1, h2, h3, h4, (cell?_of_heap (hp.old (hh.lt h4)) j).symm.trans h5, h6⟩
  refine inv.go hp.os hp.tape hp.output (by rw [hp.size]; omega) hkeep (fun _ _ h => .inl h) (fun b hb _ _ => ?_) (same_push hh hp) (fun t i _ ho => quiet_push hp k (inv.rel.own_lt ho).1 (inv.rel.own_lt ho).2) ?_
    (fun id j b h => .inl (hcell id j b h))
  · have hb' : b < w.heap.size := Nat.lt_of_lt_of_le hb inv.step.size
    refine ⟨hp.old hb', fun o h => ?_⟩
    rcases h with h | ⟨rfl, _⟩
    · exact h
    · exact absurd hb' (Nat.lt_irrefl _)
  · refine ⟨hh.len, hh.inj, hh.full, fun id b o h1 h2 => ?_, fun b o h => ?_⟩
    · obtain ⟨vs', k1, k2, k3⟩ := hh.obj id b o h1 h2
      refine ⟨vs', (hp.old (heap_lt k1)).trans k1, k2, fun j c hj => ?_⟩
      obtain ⟨v, k4, k5⟩ := k3 j c hj
      refine ⟨v, k4, k5.mono hkeep fun b' ho hb => ?_⟩
      obtain ⟨n, cs, e', _, _, hf⟩ := k5.own ho hb
      exact quiet_push hp k (ownF_lt hf) hf.obj
    · rcases h with h | ⟨rfl, h⟩
      · obtain ⟨h1, vs', e', fr', h2, h3⟩ := hh.imm b o h
        exact ⟨h1, vs', e', fr', (hp.old (heap_lt h2)).trans h2, h3⟩
      · exact ⟨fun id hi => Nat.lt_irrefl _ (hh.lt hi), vs, e, fr, hp.new, Nat.lt_of_lt_of_le h hk⟩

/-- An object is made. -/
theorem Inv.pushObj (inv : Inv P g0 w0 H0 F0 N g w a E H) {w1 : World} {vs : Array Value} {T : Nat} {cs : List PV} (hp : Pushes w w1 (.cells vs T (0, 0))) (hs : vs.size = cs.length)
    (hv : ∀ (j : Nat) (c : PV), cs[j]? = some c → ∃ v, vs[j]? = some v ∧ V g w v c) :
    Inv P g0 w0 H0 F0 N ⟨g.ι ++ [some w.heap.size], g.I⟩ w1 a E (H ++ [⟨T, cs, 0⟩]) := by
  have hh := inv.rel.h
  have hold : ∀ (id b : Nat), g.ι[id]? = some (some b) → (g.ι ++ [some w.heap.size])[id]? = some (some b) := fun id b h => by
    rw [List.getElem?_append_left (List.getElem?_eq_some_iff.1 h).1]; exact h
  have hnew : ∀ (id b : Nat), (g.ι ++ [some w.heap.size])[id]? = some (some b) → g.ι[id]? = some (some b) ∨ (id = H.length ∧ b = w.heap.size) := fun id b h => by
    rcases Nat.lt_or_ge id g.ι.length with hl | hl
    · rw [List.getElem?_append_left hl] at h; exact .inl h
    · rw [List.getElem?_append_right hl] at h
      rcases Nat.eq_zero_or_pos (id - g.ι.length) with h0 | h0
      · rw [h0] at h; simp at h; exact .inr ⟨by rw [← hh.len]; omega, h.symm⟩
      · rw [List.getElem?_eq_none (by simp; omega)] at h; cases h
  have hkeep : Keeps g w ⟨g.ι ++ [some w.heap.size], g.I⟩ w1 := ⟨hold, fun b o hi => ⟨hi, cell?_of_heap (hp.old (hh.ilt hi)) o⟩⟩
  have hquiet : ∀ b, b < w.heap.size → (∀ (id : Nat), g.ι[id]? ≠ some (some b)) → Quiet g w ⟨g.ι ++ [some w.heap.size], g.I⟩ w1 b := fun b hb hi =>
    ⟨hp.old hb, fun o h => h, fun id h => by
      rcases hnew id b h with h | ⟨_, rfl⟩
      · exact hi id h
      · exact Nat.lt_irrefl _ hb⟩
  have hcell : ∀ id j b, cellOwnAt ⟨g.ι ++ [some w.heap.size], g.I⟩ w1 (H ++ [⟨T, cs, 0⟩]) id j b → cellOwnAt g w H id j b := by
    rintro id j b ⟨o, c, b0, v, h1, h2, h3, h4, h5, h6⟩
    rcases hnew id b0 h4 with h4 | ⟨rfl, rfl⟩
    · obtain ⟨o', ho'⟩ := hh.ex h4
      have hl : id < H.length := (List.getElem?_eq_some_iff.1 ho').1
      rw [List.getElem?_append_left hl] at h1
      exact ⟨o, c, b0, v, h1, h2, h3, h4, (cell?_of_heap (hp.old (hh.lt h4)) j).symm.trans h5, h6⟩
    · rw [List.getElem?_append_right (Nat.le_refl _)] at h1
      simp at h1; subst h1
      rw [cell?_cells hp.new] at h5
      obtain ⟨v', k1, k2⟩ := hv j c h2
      rw [h5] at k1; cases k1
      rw [k2.own_blk h3] at h6; cases h6
  refine inv.go hp.os hp.tape hp.output (by rw [hp.size]; omega) hkeep (fun id b h => ?_) (fun b hb _ _ => ⟨hp.old (Nat.lt_of_lt_of_le hb inv.step.size), fun o h => h⟩)
    ⟨fun id o h => ⟨o, by rw [List.getElem?_append_left (List.getElem?_eq_some_iff.1 h).1]; exact h, Nat.le_refl _⟩, fun id b o o' hi h1 h2 _ => by
      rw [List.getElem?_append_left (List.getElem?_eq_some_iff.1 h1).1] at h2
      exact ⟨Option.some.inj (h2.symm.trans h1), hp.old (hh.lt hi)⟩⟩
    (fun t i b ho => hquiet b (inv.rel.own_lt ho).1 (inv.rel.own_lt ho).2) ?_ (fun id j b h => .inl (hcell id j b h))
  · rcases hnew id b h with h | ⟨_, rfl⟩
    · exact .inl h
    · exact .inr (Nat.le_refl _)
  · refine ⟨by simp [hh.len], fun id id' b h h' => ?_, fun id hid => ?_, fun id b o h1 h2 => ?_, fun b o h => ?_⟩
    rotate_left
    · show ∃ b, (g.ι ++ [some w.heap.size])[id]? = some (some b)
      rcases Nat.lt_or_ge id g.ι.length with hl | hl
      · obtain ⟨b, hb⟩ := hh.full id hl
        exact ⟨b, hold id b hb⟩
      · have : id = g.ι.length := by
          have hid : id < (g.ι ++ [some w.heap.size]).length := hid
          simp at hid; omega
        subst this
        exact ⟨w.heap.size, by simp⟩
    rotate_right
    · rcases hnew id b h with h | ⟨rfl, rfl⟩
      · rcases hnew id' b h' with h' | ⟨rfl, rfl⟩
        · exact hh.inj id id' b h h'
        · exact absurd (hh.lt h) (Nat.lt_irrefl _)
      · rcases hnew id' _ h' with h' | ⟨rfl, _⟩
        · exact absurd (hh.lt h') (Nat.lt_irrefl _)
        · rfl
    · rcases hnew id b h2 with h2 | ⟨rfl, rfl⟩
      · obtain ⟨o', ho'⟩ := hh.ex h2
        have hl : id < H.length := (List.getElem?_eq_some_iff.1 ho').1
        rw [List.getElem?_append_left hl] at h1
        obtain ⟨vs', k1, k2, k3⟩ := hh.obj id b o h1 h2
        refine ⟨vs', (hp.old (heap_lt k1)).trans k1, k2, fun j c hj => ?_⟩
        obtain ⟨v, k4, k5⟩ := k3 j c hj
        refine ⟨v, k4, k5.mono hkeep fun b' ho hb => ?_⟩
        obtain ⟨n, cs, e', _, _, hf⟩ := k5.own ho hb
        exact hquiet b' (ownF_lt hf) hf.obj
      · rw [List.getElem?_append_right (Nat.le_refl _)] at h1
        simp at h1; subst h1
        refine ⟨vs, hp.new, hs, fun j c hj => ?_⟩
        obtain ⟨v, k1, k2⟩ := hv j c hj
        exact ⟨v, k1, .inl (k2.mono hkeep)⟩
    · obtain ⟨h1, vs', e', fr', h2, h3⟩ := hh.imm b o h
      refine ⟨fun id hi => ?_, vs', e', fr', (hp.old (heap_lt h2)).trans h2, h3⟩
      rcases hnew id b hi with hi | ⟨_, rfl⟩
      · exact h1 id hi
      · exact absurd (heap_lt h2) (Nat.lt_irrefl _)

/-- A block is written. -/
structure Writes (w w1 : World) (b : Nat) (o : Obj) : Prop where
  here : w1.heap[b]? = some o
  far : ∀ b', b' ≠ b → w1.heap[b']? = w.heap[b']?
  size : w1.heap.size = w.heap.size
  os : w1.os = w.os
  tape : w1.tape = w.tape
  output : w1.output = w.output
theorem Writes.refl {w : World} {b : Nat} {o : Obj} (h : w.heap[b]? = some o) : Writes w w b o := ⟨h, fun _ _ => rfl, rfl, rfl, rfl, rfl⟩

theorem Inv.iFar (inv : Inv P g0 w0 H0 F0 N g w a E H) {id b : Nat} (hi : g.ι[id]? = some (some b)) (hb : b < w0.heap.size) (h0 : ∀ (id : Nat), g0.ι[id]? ≠ some (some b)) : False := by
  rcases inv.step.ι id b hi with h | h
  · exact h0 id h
  · omega

/-- An object's cells are written. -/
theorem Inv.store (inv : Inv P g0 w0 H0 F0 N g w a E H) {w1 : World} {id b : Nat} {ob : PObj} {vs' : Array Value} {cs' : List PV} (hid : H[id]? = some ob) (hi : g.ι[id]? = some (some b))
    (hw : Writes w w1 b (.cells vs' ob.T (0, 0))) (hs : vs'.size = cs'.length)
    (hc : ∀ (j : Nat) (c : PV), cs'[j]? = some c → ∃ v, vs'[j]? = some v ∧ VH P g w v c) (j0 : Nat)
    (ho : ∀ (j : Nat) (c : PV) (v : Value) (bb : Nat), cs'[j]? = some c → isOwn c = true → vs'[j]? = some v → blk v = some bb → cellOwnAt g w H id j bb ∨
      (j = j0 ∧ (∀ t i, ¬ ownAt (vals a t) (E.get t) i bb) ∧ ¬ cellOwn g w H bb ∧ (w0.heap.size ≤ bb ∨ F0 bb))) :
    Inv P g0 w0 H0 F0 N g w1 a E (H.set id ⟨ob.T, cs', ob.ver + 1⟩) := by
  have hh := inv.rel.h
  have hlt : id < H.length := (List.getElem?_eq_some_iff.1 hid).1
  have hkeep : Keeps g w g w1 := ⟨fun _ _ h => h, fun b' o h => ⟨h, cell?_of_heap (hw.far b' (fun e => (hh.imm b' o h).1 id (e ▸ hi))) o⟩⟩
  have hquiet : ∀ b', (∀ (id : Nat), g.ι[id]? ≠ some (some b')) → Quiet g w g w1 b' := fun b' h => ⟨hw.far b' (fun e => h id (e ▸ hi)), fun _ h => h, h⟩
  have hother : ∀ id', id' ≠ id → (H.set id ⟨ob.T, cs', ob.ver + 1⟩)[id']? = H[id']? := fun id' h => by rw [List.getElem?_set_ne (Ne.symm h)]
  have hthis : (H.set id ⟨ob.T, cs', ob.ver + 1⟩)[id]? = some ⟨ob.T, cs', ob.ver + 1⟩ := by simp [hlt]
  have hcell : ∀ id' j bb, cellOwnAt g w1 (H.set id ⟨ob.T, cs', ob.ver + 1⟩) id' j bb → cellOwnAt g w H id' j bb ∨
      (id' = id ∧ j = j0 ∧ (∀ t i, ¬ ownAt (vals a t) (E.get t) i bb) ∧ ¬ cellOwn g w H bb ∧ (w0.heap.size ≤ bb ∨ F0 bb)) := by
    rintro id' j bb ⟨o, c, b0, v, h1, h2, h3, h4, h5, h6⟩
    by_cases e : id' = id
    · subst e
      rw [hthis] at h1; cases h1
      rw [hi] at h4; cases h4
      rw [cell?_cells hw.here] at h5
      rcases ho j c v bb h2 h3 h5 h6 with h | h
      · exact .inl h
      · exact .inr ⟨rfl, h⟩
    · rw [hother id' e] at h1
      have hne : b0 ≠ b := fun e' => e (hh.inj id' id b (e' ▸ h4) hi)
      exact .inl ⟨o, c, b0, v, h1, h2, h3, h4, (cell?_of_heap (hw.far b0 hne) j).symm.trans h5, h6⟩
  refine inv.go hw.os hw.tape hw.output (by rw [hw.size]; omega) hkeep (fun _ _ h => .inl h) (fun b' hb h0 _ => ⟨hw.far b' (fun e => inv.iFar hi (e ▸ hb) (e ▸ h0)), fun _ h => h⟩)
    ⟨fun id' o h => ?_, fun id' b' o o' hi' h1 h2 hv => ?_⟩ (fun t i b' h => hquiet b' (inv.rel.own_lt h).2) ?_ (fun id' j bb h => ?_)
  · by_cases e : id' = id
    · subst e; rw [hid] at h; cases h; exact ⟨_, hthis, by simp⟩
    · exact ⟨o, (hother id' e).trans h, Nat.le_refl _⟩
  · by_cases e : id' = id
    · subst e; rw [hid] at h1; cases h1; rw [hthis] at h2; cases h2; simp at hv
    · rw [hother id' e] at h2
      exact ⟨Option.some.inj (h2.symm.trans h1), hw.far b' (fun e' => e (hh.inj id' id b (e' ▸ hi') hi))⟩
  · refine ⟨by simp [hh.len], hh.inj, hh.full, fun id' b' o h1 h2 => ?_, fun b' o h => ?_⟩
    · by_cases e : id' = id
      · subst e
        rw [hthis] at h1; cases h1
        rw [hi] at h2; cases h2
        refine ⟨vs', hw.here, hs, fun j c hj => ?_⟩
        obtain ⟨v, k1, k2⟩ := hc j c hj
        refine ⟨v, k1, k2.mono hkeep fun b' h1 h2 => ?_⟩
        obtain ⟨n, cs, e', _, _, hf⟩ := k2.own h1 h2
        exact hquiet b' hf.obj
      · rw [hother id' e] at h1
        obtain ⟨vs, k1, k2, k3⟩ := hh.obj id' b' o h1 h2
        refine ⟨vs, (hw.far b' (fun e' => e (hh.inj id' id b (e' ▸ h2) hi))).trans k1, k2, fun j c hj => ?_⟩
        obtain ⟨v, k4, k5⟩ := k3 j c hj
        refine ⟨v, k4, k5.mono hkeep fun b'' h1 h2 => ?_⟩
        obtain ⟨n, cs, e', _, _, hf⟩ := k5.own h1 h2
        exact hquiet b'' hf.obj
    · obtain ⟨h1, vs, e, fr, h2, h3⟩ := hh.imm b' o h
      exact ⟨h1, vs, e, fr, (hw.far b' (fun e' => h1 id (e' ▸ hi))).trans h2, h3⟩
  · rcases hcell id' j bb h with h | ⟨rfl, rfl, h1, h2, h3⟩
    · exact .inl h
    · refine .inr ⟨h1, fun id'' j'' h' => ?_, h3⟩
      rcases hcell id'' j'' bb h' with h' | ⟨h4, h5, _⟩
      · exact absurd ⟨id'', j'', h'⟩ h2
      · exact ⟨h4, h5⟩

/-- A row that nobody owns is written behind what is looked at, and that is looked at from now on. -/
theorem Inv.extend (inv : Inv P g0 w0 H0 F0 N g w a E H) {w1 : World} {b : Nat} {vs vs1 : Array Value} {e : Nat} {fr fr1 : Nat × Nat} (hb : w.heap[b]? = some (.cells vs e fr))
    (hw : Writes w w1 b (.cells vs1 e fr1)) (k : Nat) (hk : k ≤ vs1.size) (hi : ∀ (id : Nat), g.ι[id]? ≠ some (some b)) (hs : vs.size ≤ vs1.size)
    (hsame : ∀ o, g.I b o → vs1[o]? = vs[o]?) (ho : ∀ t i, ¬ ownAt (vals a t) (E.get t) i b) (hc : ¬ cellOwn g w H b) (hf : w0.heap.size ≤ b ∨ F0 b) :
    Inv P g0 w0 H0 F0 N ⟨g.ι, addI g.I b k⟩ w1 a E H := by
  have hh := inv.rel.h
  have hkeep : Keeps g w ⟨g.ι, addI g.I b k⟩ w1 := ⟨fun _ _ h => h, fun b' o h => ⟨.inl h, by
    by_cases e : b' = b
    · subst e; rw [cell?_cells hw.here, cell?_cells hb]; exact hsame o h
    · exact cell?_of_heap (hw.far b' e) o⟩⟩
  have hquiet : ∀ b', b' ≠ b → (∀ (id : Nat), g.ι[id]? ≠ some (some b')) → Quiet g w ⟨g.ι, addI g.I b k⟩ w1 b' := fun b' hne h => ⟨hw.far b' hne, fun o h => by
    rcases h with h | ⟨h, _⟩
    · exact h
    · exact absurd h hne, h⟩
  have hcell : ∀ id j bb, cellOwnAt ⟨g.ι, addI g.I b k⟩ w1 H id j bb → cellOwnAt g w H id j bb := by
    rintro id j bb ⟨o, c, b0, v, h1, h2, h3, h4, h5, h6⟩
    exact ⟨o, c, b0, v, h1, h2, h3, h4, (cell?_of_heap (hw.far b0 (fun e => hi id (e ▸ h4))) j).symm.trans h5, h6⟩
  refine inv.go hw.os hw.tape hw.output (by rw [hw.size]; omega) hkeep (fun _ _ h => .inl h) (fun b' hb' h0 h1 => ?_)
    ⟨fun _ o h => ⟨o, h, Nat.le_refl _⟩, fun id _ _ _ h1 h2 h3 _ => ⟨Option.some.inj (h3.symm.trans h2), hw.far _ (fun e => hi id (e ▸ h1))⟩⟩ (fun t i b' h => hquiet b' (fun e => ho t i (e ▸ h)) (inv.rel.own_lt h).2) ?_ (fun id j bb h => .inl (hcell id j bb h))
  · have hne : b' ≠ b := by
      rintro rfl
      rcases hf with hf | hf
      · omega
      · exact h1 hf
    exact ⟨hw.far b' hne, fun o h => by
      rcases h with h | ⟨h, _⟩
      · exact h
      · exact absurd h hne⟩
  · refine ⟨hh.len, hh.inj, hh.full, fun id b' o h1 h2 => ?_, fun b' o h => ?_⟩
    · obtain ⟨vs', k1, k2, k3⟩ := hh.obj id b' o h1 h2
      refine ⟨vs', (hw.far b' (fun e => hi id (e ▸ h2))).trans k1, k2, fun j c hj => ?_⟩
      obtain ⟨v, k4, k5⟩ := k3 j c hj
      refine ⟨v, k4, k5.mono hkeep fun b'' hoc hbk => ?_⟩
      obtain ⟨n, cs, e', _, _, hff⟩ := k5.own hoc hbk
      refine hquiet b'' (fun e => hc ⟨id, j, o, c, b', v, h1, hj, hoc, h2, ?_, e ▸ hbk⟩) hff.obj
      rw [cell?_cells k1]; exact k4
    · by_cases e' : b' = b
      · subst e'
        refine ⟨hi, vs1, e, fr1, hw.here, ?_⟩
        rcases h with h | ⟨_, h⟩
        · obtain ⟨_, vs', e', fr', h2, h3⟩ := hh.imm b' o h
          rw [hb] at h2; cases h2; omega
        · omega
      · rcases h with h | ⟨h, _⟩
        · obtain ⟨h1, vs', e2, fr', h2, h3⟩ := hh.imm b' o h
          exact ⟨h1, vs', e2, fr', (hw.far b' e').trans h2, h3⟩
        · exact absurd h e'

/-- A call has been made. -/
theorem Inv.call (inv : Inv P g0 w0 H0 F0 N g w a E H) {g' : Gh} {w' : World} {v : Value} {r : PV} {H' : PH} (hr : Rel P g' w' (one v) [(0, r)] H') (hs : Step g w H (cellOwn g w H) g' w' H')
    (ho : ∀ i b, ownAt v r i b → w.heap.size ≤ b ∨ cellOwn g w H b) (hc : ∀ b, cellOwn g' w' H' b → w.heap.size ≤ b ∨ cellOwn g w H b) :
    Inv P g0 w0 H0 F0 N g' w' a E H' ∧ VC P g' w' v r ∧
      (∀ i b, ownAt v r i b → (∀ t i', ¬ ownAt (vals a t) (E.get t) i' b) ∧ ¬ cellOwn g' w' H' b ∧ (w0.heap.size ≤ b ∨ F0 b)) ∧
      ∀ i i' b, ownAt v r i b → ownAt v r i' b → i = i' := by
  have hslot : ∀ t i b, ownAt (vals a t) (E.get t) i b → b < w.heap.size ∧ (∀ (id : Nat), g.ι[id]? ≠ some (some b)) ∧ ¬ cellOwn g w H b := fun t i b h =>
    ⟨(inv.rel.own_lt h).1, (inv.rel.own_lt h).2, inv.rel.sc t i b h⟩
  have hno : ∀ b, (w.heap.size ≤ b ∨ cellOwn g w H b) → ∀ t i, ¬ ownAt (vals a t) (E.get t) i b := fun b h t i h' => by
    obtain ⟨h1, _, h3⟩ := hslot t i b h'
    rcases h with h | h
    · omega
    · exact h3 h
  have hfr : ∀ b, (w.heap.size ≤ b ∨ cellOwn g w H b) → w0.heap.size ≤ b ∨ F0 b := fun b h => by
    rcases h with h | h
    · exact .inl (Nat.le_trans inv.step.size h)
    · exact inv.cown b h
  have h0 : ∀ i b, ownAt v r i b → ownAt (one v 0) (Env.get [(0, r)] 0) i b := fun i b h => h
  refine ⟨inv.go hs.os hs.tape hs.output hs.size hs.keeps hs.ι (fun b hb h1 h2 => ?_) hs.fr (fun t i b h => ?_) hr.h (fun id j b h => .inr ⟨hno b (hc b ⟨id, j, h⟩), fun id' j' h' => ?_, hfr b (hc b ⟨id, j, h⟩)⟩),
    hr.e 0, fun i b h => ⟨hno b (ho i b h), hr.sc 0 i b (h0 i b h), hfr b (ho i b h)⟩, fun i i' b h h' => (hr.ss 0 i 0 i' b (h0 _ _ h) (h0 _ _ h')).2⟩
  · have hb' : b < w.heap.size := Nat.lt_of_lt_of_le hb inv.step.size
    refine hs.far b hb' (fun id hi => ?_) (fun hcb => ?_)
    · exact inv.iFar hi hb h1
    · rcases inv.cown b hcb with h | h
      · omega
      · exact h2 h
  · obtain ⟨h1, h2, h3⟩ := hslot t i b h
    obtain ⟨h4, h5⟩ := hs.far b h1 h2 h3
    exact ⟨h4, h5, fun id hi => by
      rcases hs.ι id b hi with hi | hi
      · exact h2 id hi
      · omega⟩
  · have := hr.cc id' j' id j b h' h
    exact this
end
end Ps
