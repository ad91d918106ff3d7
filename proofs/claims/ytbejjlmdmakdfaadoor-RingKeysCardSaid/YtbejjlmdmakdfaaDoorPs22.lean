/- PSem, part 22: what a call made and nobody sees is forgotten. -/
import Derived.Test.YtbejjlmdmakdfaaDoorPs21
set_option linter.all false
set_option linter.unusedVariables false
set_option linter.unusedSimpArgs false
set_option linter.unnecessarySimpa false
set_option linter.unusedSimpArgs false
set_option linter.unusedVariables false
namespace Ps
open Go

theorem dropN_cells {α : Type} (f : α → PV) (l : List α) {i : Nat} {x : α} (h : l[i]? = some x) : dropN (0 + (i : Int).toNat * 1) (l.map f) = f x :: (l.drop (i + 1)).map f := by
  have hl := (List.getElem?_eq_some_iff.1 h).1
  rw [dropN_eq, ← List.map_drop]
  simp only [Nat.zero_add, Int.toNat_natCast, Nat.mul_one]
  rw [List.drop_eq_getElem_cons hl, List.map_cons]
  congr 2
  exact (List.getElem?_eq_some_iff.1 h).2

theorem setCells_map {α : Type} (f : α → PV) : ∀ (l : List α) (i : Nat) (x : α), i < l.length → setCells i [f x] (l.map f) = (l.set i x).map f
  | [], i, x, h => by simp at h
  | y :: l, 0, x, h => by simp [setCells]
  | y :: l, i + 1, x, h => by
    have := setCells_map f l i x (by simpa using h)
    simp [setCells, this]

mutual
/-- A value that names no object. -/
def oldP : PV → Bool
  | .ptr (some _) => false
  | .sref _ _ _ _ => false
  | .elem cs => oldPs cs
  | .slice _ cs _ => oldPs cs
  | .func _ a b => oldPs a && oldPs b
  | .agg cs => oldPs cs
  | .tup _ => false
  | _ => true
def oldPs : List PV → Bool
  | [] => true
  | c :: r => oldP c && oldPs r
end
def oldR : PV → Bool
  | .tup cs => oldPs cs
  | p => oldP p
theorem oldPs_get : ∀ {cs : List PV}, oldPs cs = true → ∀ (j : Nat) (c : PV), cs[j]? = some c → oldP c = true
  | [], _, j, c, h => by simp at h
  | x :: r, ho, j, c, h => by
    simp only [oldPs, Bool.and_eq_true] at ho
    cases j with
    | zero => simp at h; subst h; exact ho.1
    | succ j => exact oldPs_get ho.2 j c (by simpa using h)

theorem V.old {g g' : Gh} {w : World} (hI : ∀ b o, g.I b o → g'.I b o) {v : Value} {p : PV} (h : V g w v p) : oldP p = true → V g' w v p := by
  induction h with
  | undef v => exact fun _ => .undef v
  | bool b => exact fun _ => .bool b
  | int k n => exact fun _ => .int k n
  | str s => exact fun _ => .str s
  | nilp => exact fun _ => .nilp
  | ptr id b off h => intro ho; simp [oldP] at ho
  | elem b off cs u h1 h2 ih =>
    intro ho
    simp only [oldP] at ho
    exact .elem b off cs u (fun j c hj => ⟨hI _ _ (h1 j c hj).1, (h1 j c hj).2⟩) fun j c hj => ih j c hj (oldPs_get ho j c hj)
  | snil o => exact fun _ => .snil o
  | slice b off n cap cs u hn h1 h2 ih =>
    intro ho
    simp only [oldP] at ho
    exact .slice b off n cap cs u hn (fun j c hj => ⟨hI _ _ (h1 j c hj).1, (h1 j c hj).2⟩) fun j c hj => ih j c hj (oldPs_get ho j c hj)
  | sref id b off n cap h hn => intro ho; simp [oldP] at ho
  | func f x y ps qs h1 h2 h3 h4 i1 i2 =>
    intro ho
    simp only [oldP, Bool.and_eq_true] at ho
    exact .func f x y ps qs h1 h2 (fun j c hj => i1 j c hj (oldPs_get ho.1 j c hj)) fun j c hj => i2 j c hj (oldPs_get ho.2 j c hj)
  | nilF => exact fun _ => .nilF
  | nilS => exact fun _ => .nilS
  | agg vs cs h1 h2 ih =>
    intro ho
    simp only [oldP] at ho
    exact .agg vs cs h1 fun j c hj => ih j c hj (oldPs_get ho j c hj)

/-- What stood ahead names no later object. -/
theorem V.both {g0 g g' : Gh} {w0 w : World} (hI : ∀ b o, g.I b o → g'.I b o) (hι : ∀ (id b : Nat), id < g0.ι.length → g.ι[id]? = some (some b) → g'.ι[id]? = some (some b)) {v : Value} {p : PV} (h : V g w v p) :
    ∀ {v0 : Value}, V g0 w0 v0 p → V g' w v p := by
  induction h with
  | undef v => exact fun _ => .undef v
  | bool b => exact fun _ => .bool b
  | int k n => exact fun _ => .int k n
  | str s => exact fun _ => .str s
  | nilp => exact fun _ => .nilp
  | ptr id b off h =>
    intro v0 h0
    obtain ⟨b0, _, h1⟩ := h0.inv_ptr
    exact .ptr id b off (hι id b (List.getElem?_eq_some_iff.1 h1).1 h)
  | elem b off cs u h1 h2 ih =>
    intro v0 h0
    obtain ⟨b0, off0, _, u0, k1, k2⟩ := h0.inv_elem
    exact .elem b off cs u (fun j c hj => ⟨hI _ _ (h1 j c hj).1, (h1 j c hj).2⟩) fun j c hj => ih j c hj (k2 j c hj)
  | snil o => exact fun _ => .snil o
  | slice b off n cap cs u hn h1 h2 ih =>
    intro v0 h0
    rcases h0.inv_slice with ⟨_, _, rfl⟩ | ⟨b0, off0, cap0, _, _, u0, k1, k2⟩
    · exact .slice b off n cap [] u hn (fun j c hj => by simp at hj) fun j c hj => by simp at hj
    · exact .slice b off n cap cs u hn (fun j c hj => ⟨hI _ _ (h1 j c hj).1, (h1 j c hj).2⟩) fun j c hj => ih j c hj (k2 j c hj)
  | sref id b off n cap h hn =>
    intro v0 h0
    obtain ⟨b0, _, h1, _⟩ := h0.inv_sref
    exact .sref id b off n cap (hι id b (List.getElem?_eq_some_iff.1 h1).1 h) hn
  | func f x y ps qs h1 h2 h3 h4 i1 i2 =>
    intro v0 h0
    obtain ⟨x0, y0, _, e1, e2, e3, e4⟩ := h0.inv_func
    exact .func f x y ps qs h1 h2 (fun j c hj => i1 j c hj (e3 j c hj)) fun j c hj => i2 j c hj (e4 j c hj)
  | nilF => exact fun _ => .nilF
  | nilS => exact fun _ => .nilS
  | agg vs cs h1 h2 ih =>
    intro v0 h0
    obtain ⟨vs0, _, _, k⟩ := h0.inv_agg
    exact .agg vs cs h1 fun j c hj => ih j c hj (k j c hj)

section
variable {P : Program}
theorem OwnF.sub {g g' : Gh} {w : World} {v : Value} {n : Nat} {cs : List PV} {e b : Nat} (hI : g'.I = g.I) (hι : ∀ (id b : Nat), g'.ι[id]? = some (some b) → g.ι[id]? = some (some b)) (h : OwnF P g w v n cs e b) : OwnF P g' w v n cs e b :=
  ⟨h.ex, fun id hi => h.obj id (hι id b hi), fun o ho hi => h.spare o ho (by rw [← hI]; exact hi)⟩

theorem CallOk.gc {f : Nat} {args : List PV} {H : PH} {Q : PV → PH → Prop} (h : CallOk P f args H Q) (hq : ∀ r H', Q r H' → oldR r = true ∧ ∃ ext, H' = H ++ ext) :
    CallOk P f args H fun r H' => H' = H ∧ ∃ ext, Q r (H ++ ext) := by
  intro g w vs hs hr
  refine (h g w vs hs hr).mono ?_
  rintro e w' ⟨v, r, H', g', rfl, q, hr', st, ho, hc⟩
  obtain ⟨hold, ext, rfl⟩ := hq r H' q
  have hlen : g.ι.length = H.length := hr.h.len
  have htake : ∀ (id b : Nat), (g'.ι.take H.length)[id]? = some (some b) → id < H.length ∧ g'.ι[id]? = some (some b) := fun id b hi => by
    rw [List.getElem?_take] at hi
    split at hi
    · exact ⟨by assumption, hi⟩
    · cases hi
  have hmk : ∀ (id b : Nat), id < g.ι.length → g'.ι[id]? = some (some b) → (g'.ι.take H.length)[id]? = some (some b) := fun id b hl hi => by
    rw [List.getElem?_take, if_pos (by omega)]; exact hi
  have hsub : ∀ (id b : Nat), (g'.ι.take H.length)[id]? = some (some b) → g'.ι[id]? = some (some b) := fun id b hi => (htake id b hi).2
  have hV : V (⟨g'.ι.take H.length, g'.I⟩) w' = V (⟨g'.ι.take H.length, g'.I⟩) w' := rfl
  have hcell : ∀ id j b, cellOwnAt ⟨g'.ι.take H.length, g'.I⟩ w' H id j b → cellOwnAt g' w' (H ++ ext) id j b := fun id j b ⟨o, c, b0, v, h1, h2, h3, h4, h5, h6⟩ =>
    ⟨o, c, b0, v, by rw [List.getElem?_append_left (List.getElem?_eq_some_iff.1 h1).1]; exact h1, h2, h3, hsub _ _ h4, h5, h6⟩
  have hRV : ∀ (u : Value) (p : PV), oldP p = true → VH P g' w' u p → VH P ⟨g'.ι.take H.length, g'.I⟩ w' u p := fun u p hp hu => by
    rcases hu with hu | ⟨n, cs, e, b, rfl, hv, hf⟩
    · exact .inl (V.old (g := g') (h := hu) (g' := ⟨g'.ι.take H.length, g'.I⟩) (fun _ _ h => h) hp)
    · exact .inr ⟨n, cs, e, b, rfl, V.old (g := g') (h := hv) (g' := ⟨g'.ι.take H.length, g'.I⟩) (fun _ _ h => h) (by simpa [oldP] using hp), OwnF.sub (g := g') (h := hf) (g' := ⟨g'.ι.take H.length, g'.I⟩) rfl hsub⟩
  have hRC : VC P ⟨g'.ι.take H.length, g'.I⟩ w' v r := by
    have h0 := hr'.e 0
    have h0 : VC P g' w' v r := h0
    cases r with
    | tup cs =>
      obtain ⟨us, rfl, k1, k2⟩ := h0
      exact ⟨us, rfl, k1, fun j c hj => hRV _ _ (oldPs_get hold j c hj) (k2 j c hj)⟩
    | _ => exact hRV _ _ hold h0
  have hget : ∀ t, VC P ⟨g'.ι.take H.length, g'.I⟩ w' (one v t) (Env.get [(0, r)] t) := fun t => by
    rw [Env.get_cons]
    unfold one
    by_cases e : t = 0
    · rw [if_pos e, if_pos e.symm]; exact hRC
    · rw [if_neg e, if_neg (Ne.symm e)]; exact (V.undef _).vc
  refine ⟨v, r, H, ⟨g'.ι.take H.length, g'.I⟩, rfl, ⟨rfl, ext, q⟩, ⟨⟨?_, fun id id' b h1 h2 => hr'.h.inj id id' b (hsub _ _ h1) (hsub _ _ h2), fun id hid => ?_, fun id b o h1 h2 => ?_, fun b o hi => ?_⟩, hget, hr'.ss, fun t i b h1 h2 => ?_, fun id j id' j' b h1 h2 => hr'.cc id j id' j' b (hcell _ _ _ h1) (hcell _ _ _ h2)⟩,
    ⟨⟨fun id o ho => ⟨o, ho, Nat.le_refl _⟩, fun id b o o' hi h1 h2 hv => ?_⟩, st.os, st.tape, st.output, st.size, ⟨fun id b hi => hmk id b (List.getElem?_eq_some_iff.1 hi).1 (st.keeps.ι id b hi), st.keeps.I⟩, fun id b hi => st.ι id b (hsub id b hi), st.far⟩, ho, fun b ⟨id, j, h1⟩ => hc b ⟨id, j, hcell _ _ _ h1⟩⟩
  · have := hr'.h.len
    simp at this ⊢
    omega
  · have hid : id < (g'.ι.take H.length).length := hid
    rw [List.length_take] at hid
    obtain ⟨b, hb⟩ := hr'.h.full id (by omega)
    exact ⟨b, hmk id b (by omega) hb⟩
  · obtain ⟨hl, h2'⟩ := htake id b h2
    obtain ⟨us, k1, k2, k3⟩ := hr'.h.obj id b o (by rw [List.getElem?_append_left hl]; exact h1) h2'
    refine ⟨us, k1, k2, fun j c hj => ?_⟩
    obtain ⟨u, y1, y2⟩ := k3 j c hj
    refine ⟨u, y1, ?_⟩
    obtain ⟨b0, hb0⟩ := hr.h.full id (by omega)
    obtain ⟨us0, z1, z2, z3⟩ := hr.h.obj id b0 o h1 hb0
    obtain ⟨u0, x1, x2⟩ := z3 j c hj
    have both : ∀ (p : PV) (u u0 : Value), V g w u0 p → V g' w' u p → V ⟨g'.ι.take H.length, g'.I⟩ w' u p := fun p u u0 a0 a1 => V.both (g := g') (h := a1) (g0 := g) (g' := ⟨g'.ι.take H.length, g'.I⟩) (fun _ _ h => h) hmk a0
    rcases y2 with y2 | ⟨n, cs, e, bb, rfl, hv, hf⟩
    · cases c with
      | slice n cs o' =>
        cases o' with
        | some e =>
          obtain ⟨rfl, rfl, rfl⟩ := y2.own_nil
          exact .inl (.snil _)
        | none => exact .inl (both _ _ _ x2.dem y2)
      | tup cs => exact x2.not_tup.elim
      | _ => exact .inl (both _ _ _ x2.dem y2)
    · exact .inr ⟨n, cs, e, bb, rfl, both _ _ _ x2.dem hv, OwnF.sub (g := g') (h := hf) (g' := ⟨g'.ι.take H.length, g'.I⟩) rfl hsub⟩
  · obtain ⟨k1, k2⟩ := hr'.h.imm b o hi
    exact ⟨fun id h2 => k1 id (hsub _ _ h2), k2⟩
  · obtain ⟨id, j, h2⟩ := h2
    exact hr'.sc t i b h1 ⟨id, j, hcell _ _ _ h2⟩
  · rw [h1] at h2; cases h2
    have hl := (List.getElem?_eq_some_iff.1 h1).1
    exact st.fr.same id b o o hi h1 (by rw [List.getElem?_append_left hl]; exact h1) rfl

/-- A number, a text, a truth. -/
def flatP : PV → Bool
  | .bool _ => true
  | .int _ _ => true
  | .str _ => true
  | _ => false
theorem V.flat {g g' : Gh} {w : World} {v : Value} {p : PV} (h : V g w v p) (hp : flatP p = true) : V g' w v p := by
  cases h <;> first | (cases hp; done) | exact .bool _ | exact .int _ _ | exact .str _
theorem VH.flat {g : Gh} {w : World} {v : Value} {p : PV} (h : VH P g w v p) (hp : flatP p = true) : V g w v p := by
  rcases h with h | ⟨n, cs, e, b, rfl, _⟩
  · exact h
  · cases hp

/-- A row that the call made and answers, and that nobody writes any more: its cells, by value. -/
theorem CallOk.frz {f : Nat} {args : List PV} {H : PH} {Q : PV → PH → Prop} {nn : Nat} {cs : List PV} (h : CallOk P f args H Q)
    (hq : ∀ r H', Q r H' → ∃ ext id cap o, H' = H ++ ext ∧ r = .sref id 0 nn cap ∧ H.length ≤ id ∧ H'[id]? = some o ∧ cs.length ≤ o.cs.length ∧ o.cs.take cs.length = cs ∧ cs.all flatP = true) :
    CallOk P f args H fun r H' => r = .slice nn cs none ∧ H' = H := by
  intro g w vs hs hr
  refine (h g w vs hs hr).mono ?_
  rintro e w' ⟨v, r, H', g', rfl, q, hr', st, ho, hc⟩
  obtain ⟨ext, id0, cap, ob, rfl, rfl, hid0, hob, hcl, htk, hfl⟩ := hq r H' q
  have h0 : VC P g' w' v (.sref id0 0 nn cap) := hr'.e 0
  have h0 : V g' w' v (.sref id0 0 nn cap) := by
    rcases h0 with h0 | ⟨_, _, _, _, h0, _⟩
    · exact h0
    · cases h0
  obtain ⟨b0, rfl, hb0, hle⟩ := h0.inv_sref
  obtain ⟨us0, o1, o2, o3⟩ := hr'.h.obj id0 b0 ob hob hb0
  have hlen : g.ι.length = H.length := hr.h.len
  have hnew : w.heap.size ≤ b0 := by
    rcases st.ι id0 b0 hb0 with h | h
    · exact absurd (List.getElem?_eq_some_iff.1 h).1 (by omega)
    · exact h
  let I2 : Nat → Nat → Prop := fun b o => g'.I b o ∨ (b = b0 ∧ o < cs.length)
  have hI2 : ∀ b o, g'.I b o → I2 b o := fun b o h => .inl h
  have htake : ∀ (id b : Nat), (g'.ι.take H.length)[id]? = some (some b) → id < H.length ∧ g'.ι[id]? = some (some b) := fun id b hi => by
    rw [List.getElem?_take] at hi
    split at hi
    · exact ⟨by assumption, hi⟩
    · cases hi
  have hmk : ∀ (id b : Nat), id < g.ι.length → g'.ι[id]? = some (some b) → (g'.ι.take H.length)[id]? = some (some b) := fun id b hl hi => by
    rw [List.getElem?_take, if_pos (by omega)]; exact hi
  have hsub : ∀ (id b : Nat), (g'.ι.take H.length)[id]? = some (some b) → g'.ι[id]? = some (some b) := fun id b hi => (htake id b hi).2
  have hne : ∀ (id : Nat), (g'.ι.take H.length)[id]? ≠ some (some b0) := fun id hi => by
    obtain ⟨k1, k2⟩ := htake id b0 hi
    have := hr'.h.inj id id0 b0 k2 hb0
    omega
  have hcell : ∀ id j b, cellOwnAt ⟨g'.ι.take H.length, I2⟩ w' H id j b → cellOwnAt g' w' (H ++ ext) id j b := fun id j b ⟨o, c, b0, v, h1, h2, h3, h4, h5, h6⟩ =>
    ⟨o, c, b0, v, by rw [List.getElem?_append_left (List.getElem?_eq_some_iff.1 h1).1]; exact h1, h2, h3, hsub _ _ h4, h5, h6⟩
  have hown : ∀ {u : Value} {n : Nat} {cs' : List PV} {e b : Nat}, OwnF P g' w' u n cs' e b → OwnF P ⟨g'.ι.take H.length, I2⟩ w' u n cs' e b := fun hf =>
    ⟨hf.ex, fun id hi => hf.obj id (hsub id _ hi), fun o ho hi => by
      rcases hi with hi | ⟨rfl, _⟩
      · exact hf.spare o ho hi
      · exact hf.obj id0 hb0⟩
  have hv : V ⟨g'.ι.take H.length, I2⟩ w' (.slice (some ⟨b0, 0, none⟩) nn cap) (.slice nn cs none) := by
    refine .slice b0 0 nn cap cs (fun j => us0.getD j undef) hle (fun j c hj => ?_) fun j c hj => ?_
    · have hlt : j < cs.length := (List.getElem?_eq_some_iff.1 hj).1
      refine ⟨.inr ⟨rfl, by omega⟩, ?_⟩
      rw [cell?_cells o1, Nat.zero_add]
      have : j < us0.size := by rw [o2]; omega
      simp [this]
    · have hlt : j < cs.length := (List.getElem?_eq_some_iff.1 hj).1
      have hoc : ob.cs[j]? = some c := by
        rw [← htk, List.getElem?_take, if_pos hlt] at hj; exact hj
      obtain ⟨u, y1, y2⟩ := o3 j c hoc
      have hcf : flatP c = true := List.all_eq_true.1 hfl c (List.mem_of_getElem? hj)
      simp only [Array.getD_eq_getD_getElem?, y1, Option.getD_some]
      exact (y2.flat hcf).flat hcf
  have hget : ∀ t, VC P ⟨g'.ι.take H.length, I2⟩ w' (one (.slice (some ⟨b0, 0, none⟩) nn cap) t) (Env.get [(0, .slice nn cs none)] t) := fun t => by
    rw [Env.get_cons]
    unfold one
    by_cases e : t = 0
    · rw [if_pos e, if_pos e.symm]; exact hv.vc
    · rw [if_neg e, if_neg (Ne.symm e)]; exact (V.undef _).vc
  have hno : ∀ t i b, ¬ ownAt (one (.slice (some ⟨b0, 0, none⟩) nn cap) t) (Env.get [(0, .slice nn cs none)] t) i b := fun t i b h => by
    rw [Env.get_cons] at h
    unfold one at h
    by_cases e : t = 0
    · rw [if_pos e, if_pos e.symm] at h; exact no_own hv i b h
    · rw [if_neg (Ne.symm e)] at h; cases h.2.1
  refine ⟨_, .slice nn cs none, H, ⟨g'.ι.take H.length, I2⟩, rfl, ⟨rfl, rfl⟩, ⟨⟨?_, fun id id' b h1 h2 => hr'.h.inj id id' b (hsub _ _ h1) (hsub _ _ h2), fun id hid => ?_, fun id b o h1 h2 => ?_, fun b o hi => ?_⟩, hget, fun t i t' i' b h _ => absurd h (hno t i b), fun t i b h _ => hno t i b h, fun id j id' j' b h1 h2 => hr'.cc id j id' j' b (hcell _ _ _ h1) (hcell _ _ _ h2)⟩,
    ⟨⟨fun id o ho => ⟨o, ho, Nat.le_refl _⟩, fun id b o o' hi h1 h2 hv => ?_⟩, st.os, st.tape, st.output, st.size, ⟨fun id b hi => hmk id b (List.getElem?_eq_some_iff.1 hi).1 (st.keeps.ι id b hi), fun b o hi => ⟨.inl (st.keeps.I b o hi).1, (st.keeps.I b o hi).2⟩⟩, fun id b hi => st.ι id b (hsub id b hi), fun b hb h1 h2 => ?_⟩,
    fun i b h => absurd h (no_own hv i b), fun b ⟨id, j, h1⟩ => hc b ⟨id, j, hcell _ _ _ h1⟩⟩
  · have := hr'.h.len
    simp at this ⊢
    omega
  · have hid : id < (g'.ι.take H.length).length := hid
    rw [List.length_take] at hid
    obtain ⟨b, hb⟩ := hr'.h.full id (by omega)
    exact ⟨b, hmk id b (by omega) hb⟩
  · obtain ⟨hl, h2'⟩ := htake id b h2
    obtain ⟨us, k1, k2, k3⟩ := hr'.h.obj id b o (by rw [List.getElem?_append_left hl]; exact h1) h2'
    refine ⟨us, k1, k2, fun j c hj => ?_⟩
    obtain ⟨u, y1, y2⟩ := k3 j c hj
    refine ⟨u, y1, ?_⟩
    obtain ⟨b1, hb1⟩ := hr.h.full id (by omega)
    obtain ⟨us1, z1, z2, z3⟩ := hr.h.obj id b1 o h1 hb1
    obtain ⟨u0, x1, x2⟩ := z3 j c hj
    have both : ∀ (p : PV) (u u0 : Value), V g w u0 p → V g' w' u p → V ⟨g'.ι.take H.length, I2⟩ w' u p := fun p u u0 a0 a1 => V.both (g := g') (h := a1) (g0 := g) (g' := ⟨g'.ι.take H.length, I2⟩) hI2 hmk a0
    rcases y2 with y2 | ⟨n, cs', e, bb, rfl, hv', hf⟩
    · cases c with
      | slice n cs' o' =>
        cases o' with
        | some e =>
          obtain ⟨rfl, rfl, rfl⟩ := y2.own_nil
          exact .inl (.snil _)
        | none => exact .inl (both _ _ _ x2.dem y2)
      | tup cs' => exact x2.not_tup.elim
      | _ => exact .inl (both _ _ _ x2.dem y2)
    · exact .inr ⟨n, cs', e, bb, rfl, both _ _ _ x2.dem hv', hown hf⟩
  · rcases hi with hi | ⟨rfl, hi⟩
    · obtain ⟨k1, k2⟩ := hr'.h.imm b o hi
      exact ⟨fun id h2 => k1 id (hsub _ _ h2), k2⟩
    · exact ⟨hne, us0, _, _, o1, by rw [o2]; omega⟩
  · rw [h1] at h2; cases h2
    have hl := (List.getElem?_eq_some_iff.1 h1).1
    exact st.fr.same id b o o hi h1 (by rw [List.getElem?_append_left hl]; exact h1) rfl
  · obtain ⟨k1, k2⟩ := st.far b hb h1 h2
    refine ⟨k1, fun o hi => ?_⟩
    rcases hi with hi | ⟨rfl, _⟩
    · exact k2 o hi
    · omega

/-- The usual shape. -/
theorem Pure.of_gc {f : Nat} {args : List PV} {v : PV} (ho : oldR v = true) (h : ∀ H, CallOk P f args H fun r H' => r = v ∧ ∃ ext, H' = H ++ ext) : Pure P f args v := fun H =>
  ((h H).gc fun r H' ⟨h1, h2⟩ => by subst h1; exact ⟨ho, h2⟩).mono fun r H' ⟨h1, _, h2, _⟩ => ⟨h2, h1⟩
end
end Ps
