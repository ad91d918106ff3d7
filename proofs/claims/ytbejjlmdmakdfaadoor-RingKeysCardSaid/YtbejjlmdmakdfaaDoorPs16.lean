/- PSem, part 16: an operation among others: what it does not look at stays. -/
import Derived.Test.YtbejjlmdmakdfaaDoorPs15
set_option linter.all false
set_option linter.unusedVariables false
set_option linter.unusedSimpArgs false
set_option linter.unnecessarySimpa false
set_option linter.unusedSimpArgs false
set_option linter.unusedVariables false
namespace Ps
open Go
section
variable {P : Program} {tt : TT} {imm : List Nat} {g0 : Gh} {w0 : World} {H0 : PH} {F0 : Nat → Prop} {N : Nat} {g : Gh} {w : World} {a : Act} {E : Env} {H : PH} {q : Q}

theorem dem_dem (p : PV) : dem (dem p) = dem p := by cases p <;> rfl
theorem ownAt_dem {v : Value} {p : PV} {i b : Nat} (h : ownAt v (dem p) i b) : False := by
  cases p <;> first | (cases h.2.1; done) | (obtain ⟨_, h, _⟩ := h; cases h)

theorem dmt_dmt (p : PV) : dmt (dmt p) = dmt p := by
  cases p with
  | tup cs =>
    show PV.tup ((cs.map dem).map dem) = PV.tup (cs.map dem)
    rw [List.map_map]
    congr 1
    exact List.map_congr_left fun c _ => dem_dem c
  | _ => exact rfl
theorem ownAt_dmt {v : Value} {p : PV} {i b : Nat} (h : ownAt v (dmt p) i b) : False := by
  cases p with
  | tup cs =>
    obtain ⟨c, h1, h2, _⟩ := h
    rw [List.getElem?_map, Option.map_eq_some_iff] at h1
    obtain ⟨d, _, rfl⟩ := h1
    rw [dem_own] at h2; cases h2
  | bool b => exact ownAt_dem (p := .bool b) h
  | int k n => exact ownAt_dem (p := .int k n) h
  | str s => exact ownAt_dem (p := .str s) h
  | ptr o => exact ownAt_dem (p := .ptr o) h
  | elem cs => exact ownAt_dem (p := .elem cs) h
  | slice n cs o => exact ownAt_dem (p := .slice n cs o) h
  | sref a b c d => exact ownAt_dem (p := .sref a b c d) h
  | func f a b => exact ownAt_dem (p := .func f a b) h
  | nilF => exact ownAt_dem (p := .nilF) h
  | agg cs => exact ownAt_dem (p := .agg cs) h
  | undef => exact ownAt_dem (p := .undef) h
  | nilS => exact ownAt_dem (p := .nilS) h
theorem VC.dmt {v : Value} {p : PV} (h : VC P g w v p) : VC P g w v (dmt p) := by
  cases p with
  | tup cs =>
    obtain ⟨vs, h1, h2, h3⟩ := h
    refine ⟨vs, h1, by simpa using h2, fun j c hj => ?_⟩
    rw [List.getElem?_map, Option.map_eq_some_iff] at hj
    obtain ⟨d, hd, rfl⟩ := hj
    exact .inl (h3 j d hd).dem
  | _ => exact (VC.dem h).vc

theorem Inv.subd {E' : Env} (inv : Inv P g0 w0 H0 F0 N g w a E H) (h : ∀ t, E'.get t = E.get t ∨ E'.get t = dmt (E.get t) ∨ E'.get t = .undef) : Inv P g0 w0 H0 F0 N g w a E' H := by
  have hsub : ∀ t i b, ownAt (vals a t) (E'.get t) i b → ownAt (vals a t) (E.get t) i b := fun t i b ho => by
    rcases h t with e | e | e
    · rw [e] at ho; exact ho
    · rw [e] at ho; exact (ownAt_dmt ho).elim
    · rw [e] at ho; cases ho.2.1
  refine ⟨⟨inv.rel.h, fun t => ?_, fun t i t' i' b h h' => inv.rel.ss t i t' i' b (hsub _ _ _ h) (hsub _ _ _ h'), fun t i b h => inv.rel.sc t i b (hsub _ _ _ h), inv.rel.cc⟩,
    inv.size, inv.defers, inv.step, fun t i b h => inv.own t i b (hsub _ _ _ h), inv.cown⟩
  rcases h t with e | e | e
  · rw [e]; exact inv.rel.e t
  · rw [e]; exact (inv.rel.e t).dmt
  · rw [e]; exact (V.undef _).vc

theorem Inv.sub {E' : Env} (inv : Inv P g0 w0 H0 F0 N g w a E H) (h : ∀ t, E'.get t = E.get t ∨ E'.get t = .undef) : Inv P g0 w0 H0 F0 N g w a E' H :=
  inv.subd fun t => (h t).imp id .inr

/-- What an operation may take for its own. -/
def Fr (g : Gh) (w : World) (a : Act) (E : Env) (H : PH) : Nat → Prop := fun b => (∃ t i, ownAt (vals a t) (E.get t) i b) ∨ cellOwn g w H b

theorem Inv.rebase {E' : Env} (inv : Inv P g0 w0 H0 F0 N g w a E H) (h : ∀ t, E'.get t = E.get t ∨ E'.get t = dmt (E.get t) ∨ E'.get t = .undef) : Inv P g w H (Fr g w a E' H) N g w a E' H := by
  have i2 := inv.subd h
  exact ⟨i2.rel, inv.size, inv.defers, ⟨Same.refl _ _ _, rfl, rfl, rfl, Nat.le_refl _, Keeps.refl _ _, fun _ _ h => .inl h, fun b _ _ _ => ⟨rfl, fun o h => h⟩⟩, fun t i b h => .inr (.inl ⟨t, i, h⟩), fun b h => .inr (.inr h)⟩

/-- The frame. -/
theorem Post.frame {E' E2 E3 : Env} {g' : Gh} {w' : World} {H' : PH} {q2 : Q} {v : Value} {p : PV} {s : Option Src} (inv : Inv P g0 w0 H0 F0 N g w a E H)
    (h : ∀ t, E'.get t = E.get t ∨ E'.get t = dmt (E.get t) ∨ E'.get t = .undef)
    (h3 : ∀ t, (E3.get t = E.get t ∧ ∀ i b, ¬ ownAt (vals a t) (E'.get t) i b) ∨ E3.get t = dmt (E.get t))
    (post : Post P g w H (Fr g w a E' H) N a g' w' E2 q2 H' v p s) : Post P g0 w0 H0 F0 N a g' w' E3 q2 H' v p s := by
  have inv3 : Inv P g0 w0 H0 F0 N g w a E3 H := inv.subd fun t => by
    rcases h3 t with h | h
    · exact .inl h.1
    · exact .inr (.inl h)
  have hsub : ∀ t i b, ownAt (vals a t) (E'.get t) i b → ownAt (vals a t) (E.get t) i b := fun t i b ho => by
    rcases h t with e | e | e
    · rw [e] at ho; exact ho
    · rw [e] at ho; exact (ownAt_dmt ho).elim
    · rw [e] at ho; cases ho.2.1
  have h3own : ∀ t i b, ownAt (vals a t) (E3.get t) i b → ownAt (vals a t) (E.get t) i b ∧ ∀ i' b', ¬ ownAt (vals a t) (E'.get t) i' b' := fun t i b ho => by
    rcases h3 t with e | e
    · rw [e.1] at ho; exact ⟨ho, e.2⟩
    · rw [e] at ho; exact (ownAt_dmt ho).elim
  have hnF : ∀ t i b, ownAt (vals a t) (E3.get t) i b → b < w.heap.size ∧ (∀ (id : Nat), g.ι[id]? ≠ some (some b)) ∧ ¬ Fr g w a E' H b := fun t i b ho => by
    obtain ⟨o1, o2⟩ := h3own t i b ho
    refine ⟨(inv.rel.own_lt o1).1, (inv.rel.own_lt o1).2, fun hF => ?_⟩
    rcases hF with ⟨t', i', hF⟩ | hF
    · have := (inv.rel.ss t i t' i' b o1 (hsub _ _ _ hF)).1
      subst this
      exact o2 _ _ hF
    · exact inv.rel.sc t i b o1 hF
  have hno : ∀ b, (w.heap.size ≤ b ∨ Fr g w a E' H b) → ∀ t i, ¬ ownAt (vals a t) (E3.get t) i b := fun b hb t i ho => by
    obtain ⟨n1, _, n3⟩ := hnF t i b ho
    rcases hb with hb | hb
    · omega
    · exact n3 hb
  have hbase : ∀ b, (w.heap.size ≤ b ∨ Fr g w a E' H b) → w0.heap.size ≤ b ∨ F0 b := fun b hb => by
    rcases hb with hb | ⟨t, i, hb⟩ | hb
    · exact .inl (Nat.le_trans inv.step.size hb)
    · exact inv.own t i b (hsub _ _ _ hb)
    · exact inv.cown b hb
  have st := post.inv.step
  refine ⟨inv3.go st.os st.tape st.output st.size st.keeps st.ι (fun b hb h1 h2 => ?_) st.fr (fun t i b ho => ?_) post.inv.rel.h (fun id j b hc => ?_), post.vc, fun i b ho => ?_, post.inj, post.qr, post.src⟩
  · refine st.far b (Nat.lt_of_lt_of_le hb inv.step.size) (fun id hi => inv.iFar hi hb h1) fun hF => ?_
    rcases hbase b (.inr hF) with h | h
    · omega
    · exact h2 h
  · obtain ⟨n1, n2, n3⟩ := hnF t i b ho
    obtain ⟨f1, f2⟩ := st.far b n1 n2 n3
    exact ⟨f1, f2, fun id hi => by
      rcases st.ι id b hi with hi | hi
      · exact n2 id hi
      · omega⟩
  · have hb := post.inv.cown b ⟨id, j, hc⟩
    exact .inr ⟨hno b hb, fun id' j' h' => post.inv.rel.cc id' j' id j b h' hc, hbase b hb⟩
  · obtain ⟨o1, o2, o3⟩ := post.ow i b ho
    exact ⟨hno b o3, o2, hbase b o3⟩
end
end Ps
