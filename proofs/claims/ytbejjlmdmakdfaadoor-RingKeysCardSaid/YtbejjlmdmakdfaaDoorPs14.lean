/- PSem, part 14: append. -/
import Derived.Test.YtbejjlmdmakdfaaDoorPs13
set_option linter.all false
set_option linter.unusedVariables false
set_option linter.unusedSimpArgs false
set_option linter.unnecessarySimpa false
set_option linter.unusedSimpArgs false
set_option linter.unusedVariables false
namespace Ps
open Go
section
variable {P : Program} {tt : TT} {imm : List Nat} {g0 : Gh} {w0 : World} {H0 : PH} {F0 : Nat → Prop} {N : Nat} {g : Gh} {w : World} {a : Act} {E : Env} {H : PH} {q : Q}

/-- A row that is nobody's any more. -/
structure Given (P : Program) (g0 : Gh) (w0 : World) (H0 : PH) (F0 : Nat → Prop) (N : Nat) (g : Gh) (w : World) (a : Act) (E : Env) (H : PH) (v : Value) (n : Nat) (cs : List PV) (e : Nat) : Prop where
  inv : Inv P g0 w0 H0 F0 N g w a E H
  vh : VH P g w v (.slice n cs (some e))
  free : ∀ b, blk v = some b → (∀ t i, ¬ ownAt (vals a t) (E.get t) i b) ∧ ¬ cellOwn g w H b ∧ (w0.heap.size ≤ b ∨ F0 b)

theorem given_slot (inv : Inv P g0 w0 H0 F0 N g w a E H) {s n : Nat} {cs : List PV} {e : Nat} (h : E.get s = .slice n cs (some e)) :
    Given P g0 w0 H0 F0 N g w a ((s, .slice n cs none) :: E) H (vals a s) n cs e := by
  have hv := inv.rel.e s
  rw [h] at hv
  refine ⟨inv.demote h, hv, fun b hb => ?_⟩
  have hat : ownAt (vals a s) (E.get s) 0 b := by rw [h]; exact ⟨rfl, rfl, hb⟩
  refine ⟨fun t i ht => ?_, inv.rel.sc _ _ _ hat, inv.own _ _ _ hat⟩
  rw [Env.get_cons] at ht
  by_cases e' : s = t
  · subst e'; rw [if_pos rfl] at ht; cases ht.2.1
  · rw [if_neg e'] at ht; exact e' (inv.rel.ss t i s 0 b ht hat).1.symm

theorem given_cell (inv : Inv P g0 w0 H0 F0 N g w a E H) {id off b n : Nat} {cs : List PV} {e : Nat} {o : PObj} {v : Value} (hid : H[id]? = some o) (hc : o.cs[off]? = some (.slice n cs (some e)))
    (hi : g.ι[id]? = some (some b)) (hcell : w.cell? ⟨b, off, none⟩ = some v) :
    Given P g0 w0 H0 F0 N g w a E (setH id o (setCells off [.slice n cs none] o.cs) H) v n cs e := by
  obtain ⟨vs, k1, k2, k3⟩ := inv.rel.h.obj id b o hid hi
  obtain ⟨v', k4, k5⟩ := k3 off _ hc
  rw [cell?_cells k1] at hcell
  rw [hcell] at k4; cases k4
  have hl : off + [PV.slice n cs none].length ≤ o.cs.length := (List.getElem?_eq_some_iff.1 hc).1
  have hget := setCells_get off [.slice n cs none] o.cs hl
  have hset : ∀ (j : Nat) (c : PV), (setCells off [.slice n cs none] o.cs)[j]? = some c → (j = off ∧ c = .slice n cs none) ∨ (j ≠ off ∧ o.cs[j]? = some c) := fun j c hj => by
    rw [hget] at hj
    split at hj
    · rename_i hh
      have : j = off := by have := hh.2; simp at this; omega
      subst this
      simp at hj
      exact .inl ⟨rfl, hj.symm⟩
    · rename_i hh
      exact .inr ⟨fun e' => hh ⟨by omega, by simp [e']⟩, hj⟩
  have hH : (setH id o (setCells off [.slice n cs none] o.cs) H)[id]? = some ⟨o.T, setCells off [.slice n cs none] o.cs, o.ver + 1⟩ := by
    have := (List.getElem?_eq_some_iff.1 hid).1
    simp [setH, this]
  have hinv : Inv P g0 w0 H0 F0 N g w a E (setH id o (setCells off [.slice n cs none] o.cs) H) := by
    refine inv.store hid hi (Writes.refl k1) (by rw [setCells_length _ _ _ hl]; exact k2) (fun j c hj => ?_) off (fun j c v' bb hj ho hv hb => ?_)
    · rcases hset j c hj with ⟨rfl, rfl⟩ | ⟨_, h⟩
      · exact ⟨v, hcell, .inl k5.dem⟩
      · exact k3 j c h
    · rcases hset j c hj with ⟨rfl, rfl⟩ | ⟨_, h⟩
      · cases ho
      · exact .inl ⟨o, c, b, v', hid, h, ho, hi, by rw [cell?_cells k1]; exact hv, hb⟩
  refine ⟨hinv, k5, fun bb hb => ?_⟩
  have hat : cellOwnAt g w H id off bb := ⟨o, _, b, v, hid, hc, rfl, hi, by rw [cell?_cells k1]; exact hcell, hb⟩
  refine ⟨fun t i ht => inv.rel.sc t i bb ht ⟨id, off, hat⟩, ?_, inv.cown bb ⟨id, off, hat⟩⟩
  rintro ⟨id', j', o', c', b', v', h1, h2, h3, h4, h5, h6⟩
  by_cases hid' : id' = id
  · subst hid'
    rw [hH] at h1; cases h1
    rcases hset j' c' h2 with ⟨rfl, rfl⟩ | ⟨hne, h⟩
    · cases h3
    · exact hne (inv.rel.cc id' j' id' off bb ⟨o, c', b', v', hid, h, h3, h4, h5, h6⟩ hat).2
  · rw [setH, List.getElem?_set_ne (Ne.symm hid')] at h1
    exact hid' (inv.rel.cc id' j' id off bb ⟨o', c', b', v', h1, h2, h3, h4, h5, h6⟩ hat).1

theorem own_of (inv : Inv P g0 w0 H0 F0 N g w a E H) (hq : QRel a g w q) {x : Operand} {T : Nat} {K : Nat → List PV → Nat → Env → PH → Prop} (hp : ownOf E q H x T tt K) :
    ∃ n cs e E' H', Given P g0 w0 H0 F0 N g w a E' H' (a.eval x) n cs e ∧ K n cs e E' H' := by
  unfold ownOf at hp
  split at hp
  · rename_i t
    split at hp
    · rename_i n cs e h
      exact ⟨n, cs, e, _, _, given_slot inv h, hp⟩
    · rename_i n cs h
      split at hp
      · rename_i s hs
        split at hp
        · rename_i n' cs' e h'
          have he : vals a t = vals a s := hq _ (qget_mem hs)
          have := given_slot inv h'
          rw [← he] at this
          exact ⟨_, _, _, _, _, this, hp⟩
        · exact hp.elim
      · rename_i id off hs
        obtain ⟨b, h1, h2⟩ : SrcIs a g w (vals a t) (.cell id off) := hq _ (qget_mem hs)
        split at hp
        · rename_i o ho
          split at hp
          · rename_i n' cs' e tl hd
            rw [dropN_eq] at hd
            have hc : o.cs[off]? = some (.slice n' cs' (some e)) := by
              have : (o.cs.drop off)[0]? = some (.slice n' cs' (some e)) := by rw [hd]; rfl
              simpa using this
            exact ⟨_, _, _, _, _, given_cell inv ho hc h1 h2, hp⟩
          · exact hp.elim
        · exact hp.elim
      · exact hp.elim
    · exact hp.elim
  · split at hp
    · split at hp
      · rename_i e hk
        exact ⟨_, _, e, _, _, ⟨inv, .inl (.snil _), fun b hb => by cases hb⟩, hp⟩
      · exact hp.elim
    · exact hp.elim
  · exact hp.elim

theorem run_append_none (t ty e n cap : Nat) (b : Option Addr) (i : TypeInfo) (ht : P.underlying t = some (.slice e)) (hi : P.info? e = some i) (hn : n ≤ cap) :
    (Builtin.append_ #[t, t] ty #[.slice b n cap, .slice none 0 0]).run P w = .ok (.slice b n cap) w := by
  cases b <;> simp [Builtin.append_, run_underlying ht, Go.sizeOf, typeInfo, hi, Builtin.lenOf, Builtin.firstCells, hn, storeCells]
theorem run_append_empty (t ty e cap : Nat) (b : Addr) (i : TypeInfo) (ht : P.underlying t = some (.slice e)) (hi : P.info? e = some i) :
    (Builtin.append_ #[t, t] ty #[.slice none 0 0, .slice (some b) 0 cap]).run P w = .ok (.slice none 0 0) w := by
  have hf := run_firstCells_some (P := P) w i.size 0 b 0 cap [] (by simp) (by simp)
  simp [Builtin.append_, run_underlying ht, Go.sizeOf, typeInfo, hi, Builtin.lenOf, hf]

theorem Imm.list {b off : Nat} {cs : List PV} (h : Imm g w b off cs) : ∃ us : List Value, us.length = cs.length ∧ (∀ (j : Nat) (v : Value), us[j]? = some v → w.cell? ((⟨b, off, none⟩ : Addr).add j) = some v) ∧
    ∀ (j : Nat) (c : PV), cs[j]? = some c → ∃ v, us[j]? = some v ∧ V g w v c := by
  obtain ⟨u, h1, h2⟩ := h
  refine ⟨(List.range cs.length).map u, by simp, fun j v hj => ?_, fun j c hj => ?_⟩
  · have hl : j < cs.length := by simpa using (List.getElem?_eq_some_iff.1 hj).1
    have := (h1 j _ (List.getElem?_eq_getElem hl)).2
    rw [Addr.add_plain, this]
    simp [List.getElem?_map, List.getElem?_range, hl] at hj
    rw [hj]
  · have hl : j < cs.length := (List.getElem?_eq_some_iff.1 hj).1
    exact ⟨u j, by simp [hl], h2 j c hj⟩

theorem given_append {E' : Env} {H' : PH} {v y : Value} {n m : Nat} {cs ds : List PV} {e T ty : Nat} {ei : TI} (gv : Given P g0 w0 H0 F0 N g w a E' H' v n cs e) (hy : V g w y (.slice m ds none))
    (hu : P.underlying T = some (.slice e)) (te : TIs P e ei) (hb : (n + m) * ei.bytes ≤ 140737488355328) (hl : ds.length = m * ei.sz) (hone : ds.all oneP = true) :
    ∃ r g1 w1, (Builtin.append_ #[T, T] ty #[v, y]).run P w = .ok r w1 ∧ Post P g0 w0 H0 F0 N a g1 w1 E' [] H' r (.slice (n + m) (cs ++ ds) (some e)) none := by
  obtain ⟨inf, z, i1, i2, i3, i4, i5⟩ := te.ex
  have hzs : z.cells.size = ei.sz := by rw [(zeqs_VL (g := g) (w := w) i5).1, te.len]
  have hb0 := te.bpos
  have hnm : (n + m) * 1 ≤ (n + m) * ei.bytes := Nat.mul_le_mul_left _ hb0
  rcases gv.vh with h | ⟨n', cs', e', b, heq, hV, hf⟩
  · obtain ⟨rfl, rfl, rfl⟩ := h.own_nil
    rcases hy.inv_slice with ⟨rfl, rfl, rfl⟩ | ⟨b2, off2, cap2, rfl, hle2, himm⟩
    · exact ⟨_, g, w, run_append_none T ty e 0 0 none inf hu i1 (Nat.le_refl _), Post.ofV gv.inv (.snil _) QRel.nil⟩
    · rcases Nat.eq_zero_or_pos m with rfl | hm
      · have : ds = [] := List.length_eq_zero_iff.1 (by rw [hl]; simp)
        subst this
        exact ⟨_, g, w, run_append_empty T ty e _ _ inf hu i1, Post.ofV gv.inv (.snil _) QRel.nil⟩
      · obtain ⟨us, u1, u2, u3⟩ := himm.list
        have hrun := run_append_nil (P := P) w T ty e inf z hu i1 i4 ⟨b2, off2, none⟩ m cap2 us (by rw [u1, hl, i2]) u2 hm (by omega) (by rw [i3]; simp only [Nat.zero_add] at hb; omega)
        have hge := grownCap_ge w m 0 e
        refine ⟨_, ⟨g.ι, addI g.I w.heap.size ds.length⟩, _, hrun, ?_⟩
        simp only [Nat.zero_add, List.nil_append]
        refine post_own (e := e) gv.inv QRel.nil (w1 := w.drew.alloc (.cells (us.toArray ++ Builtin.zeroCells z.cells (grownCap w m 0 e - m)) e)) ⟨rfl, rfl, rfl, rfl⟩ (fun j c hj => ?_) hge (by rw [te.psize]; exact te.pos) (by rw [te.psize]; exact hl) ?_
        · obtain ⟨v, k1, k2⟩ := u3 j c hj
          have hlt : j < us.length := (List.getElem?_eq_some_iff.1 k1).1
          exact ⟨v, by simp [Array.getElem?_append, hlt] ; rw [List.getElem?_eq_getElem hlt] at k1; exact Option.some.inj k1, k2⟩
        · rw [te.psize]
          simp only [Array.size_append, List.size_toArray, size_zeroCells, hzs, u1, hl, ← Nat.add_mul]
          congr 1; omega
  · cases heq
    obtain ⟨cap, vs, rfl, hnc, hheap, hps, hcl, hvs⟩ := hf.ex
    rw [te.psize] at hcl hvs hps
    obtain ⟨hfs, hfc, hf0⟩ := gv.free b rfl
    have hvsle : n * ei.sz ≤ vs.size := by rw [hvs]; exact Nat.mul_le_mul_right _ hnc
    rcases hV.inv_slice with ⟨h, _⟩ | ⟨b1, off1, cap1, heq, _, u0, hI0, hV0⟩
    · cases h
    cases heq
    have hold : ∀ (j : Nat) (c : PV), cs[j]? = some c → ∃ v, vs[j]? = some v ∧ V g w v c := fun j c hj => by
      have := (hI0 j c hj).2
      rw [cell?_cells hheap, Nat.zero_add] at this
      exact ⟨u0 j, this, hV0 j c hj⟩
    rcases hy.inv_slice with ⟨rfl, rfl, rfl⟩ | ⟨b2, off2, cap2, rfl, hle2, himm⟩
    · refine ⟨_, g, w, run_append_none T ty e n cap _ inf hu i1 hnc, ?_⟩
      simp only [Nat.add_zero, List.append_nil]
      exact ⟨gv.inv, gv.vh, fun i bb h => by
        have hbb : some b = some bb := h.2.2
        cases hbb; exact ⟨hfs, hfc, hf0⟩, fun i i' b h1 h2 => h1.1.trans h2.1.symm, QRel.nil, fun _ h => by cases h⟩
    · obtain ⟨us, u1, u2, u3⟩ := himm.list
      rcases Nat.lt_or_ge cap (n + m) with hg | hroom
      · have hfit := growslice_fits (bytes := inf.bytes) hg (by rw [i3]; exact hb)
        have hrun := run_append_grow (P := P) w T ty e inf z hu i1 i4 ⟨b, 0, none⟩ n cap (vs.toList.take (n * ei.sz)) (by rw [List.length_take, Array.length_toList, i2]; omega) (fun j v hj => by
          rw [Addr.add_plain, cell?_cells hheap, Nat.zero_add]
          rw [List.getElem?_take] at hj
          split at hj
          · rw [← Array.getElem?_toList]; exact hj
          · cases hj) ⟨b2, off2, none⟩ m cap2 us (by rw [u1, hl, i2]) u2 hg (by omega) hfit
        have hge := grownCap_ge w (n + m) cap e
        refine ⟨_, ⟨g.ι, addI g.I w.heap.size (cs ++ ds).length⟩, _, hrun, ?_⟩
        have hlt0 : (vs.toList.take (n * ei.sz)).length = n * ei.sz := by rw [List.length_take, Array.length_toList]; omega
        refine post_own (e := e) gv.inv QRel.nil (w1 := w.drew.alloc (.cells ((vs.toList.take (n * ei.sz)).toArray ++ us.toArray ++ Builtin.zeroCells z.cells (grownCap w (n + m) cap e - (n + m))) e)) ⟨rfl, rfl, rfl, rfl⟩ (fun j c hj => ?_) hge (by rw [te.psize]; exact te.pos)
          (by rw [te.psize, List.length_append, hcl, hl, Nat.add_mul]) ?_
        · have hval : ∃ v, (vs.toList.take (n * ei.sz) ++ us)[j]? = some v ∧ V g w v c := by
            rcases Nat.lt_or_ge j (n * ei.sz) with hj1 | hj1
            · rw [List.getElem?_append_left (by omega)] at hj
              obtain ⟨v, k1, k2⟩ := hold j c hj
              refine ⟨v, ?_, k2⟩
              rw [List.getElem?_append_left (by omega), List.getElem?_take, if_pos hj1, Array.getElem?_toList]; exact k1
            · rw [List.getElem?_append_right (by omega), hcl] at hj
              obtain ⟨v, k1, k2⟩ := u3 _ c hj
              refine ⟨v, ?_, k2⟩
              rw [List.getElem?_append_right (by omega), hlt0]; exact k1
          obtain ⟨v, k1, k2⟩ := hval
          refine ⟨v, ?_, k2⟩
          have hlt := (List.getElem?_eq_some_iff.1 k1).1
          rw [Array.getElem?_append_left (by simpa using hlt)]
          rw [List.append_toArray, List.getElem?_toArray]
          exact k1
        · rw [te.psize]
          simp only [Array.size_append, List.size_toArray, size_zeroCells, hzs, u1, hl, hlt0, ← Nat.add_mul]
          congr 1; omega
      · have hnews : ∀ u ∈ us, u.oneCell' = true := fun u hu' => by
          obtain ⟨j, hj, rfl⟩ := List.mem_iff_getElem.1 hu'
          have hlt : j < ds.length := by rw [← u1]; exact hj
          obtain ⟨v, k1, k2⟩ := u3 j _ (List.getElem?_eq_getElem hlt)
          rw [List.getElem?_eq_getElem hj] at k1; cases k1
          exact k2.one (List.all_eq_true.1 hone _ (List.getElem_mem hlt))
        have hfit : n * inf.size + us.length ≤ vs.size := by rw [u1, hl, hvs, i2, ← Nat.add_mul]; exact Nat.mul_le_mul_right _ hroom
        have hrun := run_append_room (P := P) w T ty e inf hu i1 b n cap vs hheap ⟨b2, off2, none⟩ m cap2 us (by rw [u1, hl, i2]) u2 hnews hroom hfit
        rw [i2] at hrun hfit
        refine ⟨_, ⟨g.ι, addI g.I b ((n + m) * ei.sz)⟩, _, hrun, ?_⟩
        generalize hrow : (vs.toList.take (n * ei.sz) ++ us ++ vs.toList.drop (n * ei.sz + us.length)).toArray = row
        have hrs : row.size = vs.size := by rw [← hrow]; simp; omega
        have hkle : (n + m) * ei.sz ≤ row.size := by rw [hrs, hvs]; exact Nat.mul_le_mul_right _ hroom
        have hlt0 : (vs.toList.take (n * ei.sz)).length = n * ei.sz := by rw [List.length_take, Array.length_toList]; omega
        have hrow1 : ∀ j, j < n * ei.sz → row[j]? = vs[j]? := fun j hj => by
          rw [← hrow, List.getElem?_toArray, List.append_assoc, List.getElem?_append_left (by omega), List.getElem?_take, if_pos hj, Array.getElem?_toList]
        have hrow2 : ∀ j, j < us.length → row[n * ei.sz + j]? = us[j]? := fun j hj => by
          rw [← hrow, List.getElem?_toArray, List.getElem?_append_left (by simp [hlt0]; omega), List.getElem?_append_right (by omega), hlt0]
          congr 1; omega
        have hw := writes_setRow (cs := row) hheap
        have hIb : ∀ o, g.I b o → o < n * ei.sz := fun o ho => by
          rcases Nat.lt_or_ge o (n * ei.sz) with h | h
          · exact h
          · exact absurd ho (hf.spare o (by omega))
        have hsame : ∀ o, g.I b o → row[o]? = vs[o]? := fun o ho => hrow1 o (hIb o ho)
        have hinv := gv.inv.extend hheap hw ((n + m) * ei.sz) hkle hf.obj (by omega) hsame hfs hfc hf0
        have hkeep : Keeps g w ⟨g.ι, addI g.I b ((n + m) * ei.sz)⟩ (w.setRow b row) := ⟨fun _ _ h => h, fun b' o h => ⟨.inl h, by
          by_cases hbb : b' = b
          · subst hbb; rw [cell?_cells hw.here, cell?_cells hheap]; exact hsame o h
          · exact cell?_of_heap (hw.far b' hbb) o⟩⟩
        have hex : ∀ j : Nat, ∃ v : Value, ∀ c, (cs ++ ds)[j]? = some c → row[j]? = some v ∧ V g w v c := fun j => by
          cases hjc : (cs ++ ds)[j]? with
          | none => exact ⟨undef, fun c h => by cases h⟩
          | some c =>
            rcases Nat.lt_or_ge j (n * ei.sz) with hj1 | hj1
            · rw [List.getElem?_append_left (by omega)] at hjc
              obtain ⟨v, k1, k2⟩ := hold j c hjc
              exact ⟨v, fun c' h => by cases h; exact ⟨by rw [hrow1 j hj1]; exact k1, k2⟩⟩
            · rw [List.getElem?_append_right (by omega), hcl] at hjc
              obtain ⟨v, k1, k2⟩ := u3 _ c hjc
              have hlt := (List.getElem?_eq_some_iff.1 k1).1
              have hr2 := hrow2 (j - n * ei.sz) hlt
              rw [show n * ei.sz + (j - n * ei.sz) = j by omega] at hr2
              exact ⟨v, fun c' h => by cases h; exact ⟨by rw [hr2]; exact k1, k2⟩⟩
        obtain ⟨u, hu'⟩ := Classical.axiomOfChoice hex
        have hclen : (cs ++ ds).length = (n + m) * ei.sz := by rw [List.length_append, hcl, hl, Nat.add_mul]
        have himm' : Imm ⟨g.ι, addI g.I b ((n + m) * ei.sz)⟩ (w.setRow b row) b 0 (cs ++ ds) := ⟨u, fun j c hj => ⟨.inr ⟨rfl, by
            have := (List.getElem?_eq_some_iff.1 hj).1; omega⟩, by rw [cell?_cells hw.here, Nat.zero_add]; exact (hu' j c hj).1⟩, fun j c hj => (hu' j c hj).2.mono hkeep⟩
        have hownf : OwnF P ⟨g.ι, addI g.I b ((n + m) * ei.sz)⟩ (w.setRow b row) (.slice (some ⟨b, 0, none⟩) (n + m) cap) (n + m) (cs ++ ds) e b :=
          ⟨⟨cap, row, rfl, hroom, hw.here, by rw [te.psize]; exact te.pos, by rw [te.psize]; exact hclen, by rw [te.psize, hrs]; exact hvs⟩, hf.obj, fun o ho h => by
            rcases h with h | ⟨_, h⟩
            · have := hIb o h
              rw [hclen, Nat.add_mul] at ho
              omega
            · omega⟩
        refine ⟨hinv, .inr ⟨_, _, e, b, rfl, himm'.vslice hroom, hownf⟩, fun i bb h => ?_, fun i i' b h1 h2 => h1.1.trans h2.1.symm, QRel.nil, fun _ h => by cases h⟩
        have hbb : some b = some bb := h.2.2
        cases hbb
        refine ⟨hfs, fun ⟨id, j, o, c, b0, v, h1, h2, h3, h4, h5, h6⟩ => hfc ⟨id, j, o, c, b0, v, h1, h2, h3, h4, ?_, h6⟩, hf0⟩
        rw [← h5]
        exact (cell?_of_heap (hw.far b0 (fun e' => hf.obj id (e' ▸ h4))) j).symm

theorem zero_VL {z : Value} {cs : List PV} {sz : Nat} (h : zeqs z.cells.toList cs = true) (hl : cs.length = sz) (hs : 0 < sz) (n : Nat) :
    (Builtin.zeroCells z.cells n).size = n * sz ∧ (zerosOf cs n).length = n * sz ∧ ∀ (j : Nat) (c : PV), (zerosOf cs n)[j]? = some c → ∃ v, (Builtin.zeroCells z.cells n)[j]? = some v ∧ V g w v c := by
  have hsz : z.cells.size = sz := by rw [(zeqs_VL (g := g) (w := w) h).1, hl]
  have e : Builtin.zeroCells z.cells n = madeCells z.cells (n * sz) := by rw [← hsz]; rfl
  rw [e]
  exact made_VL h hl hs n (fun _ => rfl) (Nat.le_refl _)

/-- What is read of a row, in memory. -/
structure Elems (g : Gh) (w : World) (v : Value) (m : Nat) (ds : List PV) : Prop where
  mk ::
  h : (v = .slice none 0 0 ∧ m = 0 ∧ ds = []) ∨ ∃ (b off cap : Nat) (us : List Value), v = .slice (some ⟨b, off, none⟩) m cap ∧ us.length = ds.length ∧ (∀ (j : Nat) (u : Value), us[j]? = some u → w.cell? ((⟨b, off, none⟩ : Addr).add j) = some u) ∧
    ∀ (j : Nat) (c : PV), ds[j]? = some c → ∃ u, us[j]? = some u ∧ V g w u c
theorem elems_of (inv : Inv P g0 w0 H0 F0 N g w a E H) {x : Operand} {sz : Nat} {K : Nat → List PV → Prop} (hp : elemsOf H (opnd E x) sz K) : ∃ m ds, Elems g w (a.eval x) m ds ∧ K m ds := by
  have hx := opnd_VC inv.rel x
  unfold elemsOf at hp
  split at hp
  · rename_i m ds o hb
    rw [hb] at hx
    rcases hx.slice.inv_slice with ⟨h1, h2, h3⟩ | ⟨b, off, cap, h1, _, himm⟩
    · exact ⟨m, ds, ⟨.inl ⟨h1, h2, h3⟩⟩, hp⟩
    · obtain ⟨us, u1, u2, u3⟩ := himm.list
      exact ⟨m, ds, ⟨.inr ⟨b, off, cap, us, h1, u1, u2, u3⟩⟩, hp⟩
  · rename_i id off m cap hb
    rw [hb] at hx
    split at hp
    · rename_i ob hid
      obtain ⟨b, h1, hi, _⟩ := (plain_of hx (by simp) (by simp)).inv_sref
      obtain ⟨vs, k1, k2, k3⟩ := inv.rel.h.obj id b ob hid hi
      refine ⟨m, _, ⟨.inr ⟨b, off, cap, (vs.toList.drop off).take (m * sz), h1, by simp [k2], fun j u hj => ?_, fun j c hj => ?_⟩⟩, hp⟩
      · rw [Addr.add_plain, cell?_cells k1]
        rw [List.getElem?_take] at hj
        split at hj
        · rw [List.getElem?_drop, Array.getElem?_toList] at hj; exact hj
        · cases hj
      · rw [List.getElem?_map, Option.map_eq_some_iff] at hj
        obtain ⟨d, hd, rfl⟩ := hj
        rw [List.getElem?_take] at hd ⊢
        split at hd
        · rename_i hlt
          rw [List.getElem?_drop] at hd
          obtain ⟨u, e1, e2⟩ := k3 _ _ hd
          rw [if_pos hlt, List.getElem?_drop, Array.getElem?_toList]
          exact ⟨u, e1, e2.dem⟩
        · cases hd
    · exact hp.elim
  · rename_i hb
    rw [hb] at hx
    exact ⟨0, [], ⟨.inl ⟨(plain_of hx (by simp) (by simp)).inv_nilS, rfl, rfl⟩⟩, hp⟩
  · exact hp.elim

theorem run_append_at (t ty e : TypeId) (i : TypeInfo) (ht : P.underlying t = some (.slice e)) (hi : P.info? e = some i) (b sLen sCap : Nat) (x : Addr) (m c : Nat) (news : List Value) (hl : news.length = m * i.size)
    (hnews : ∀ j u, news[j]? = some u → w.cell? (x.add j) = some u) (hroom : sLen + m ≤ sCap) {w1 : World} (hst : (storeCells ⟨b, sLen * i.size, none⟩ news).run P w = .ok () w1) :
    (Builtin.append_ #[t, t] ty #[.slice (some ⟨b, 0, none⟩) sLen sCap, .slice (some x) m c]).run P w = .ok (.slice (some ⟨b, 0, none⟩) (sLen + m) sCap) w1 := by
  have hf := run_firstCells_some (P := P) w i.size m x m c news hl hnews
  simp [Builtin.append_, run_underlying ht, Go.sizeOf, typeInfo, hi, Builtin.lenOf, hroom, hf, Addr.add_lit, hst]

theorem append_ref {id n m cap : Nat} {ds : List PV} {e T ty : Nat} {ei : TI} {ob : PObj} {v y : Value} (inv : Inv P g0 w0 H0 F0 N g w a E H) (hid : H[id]? = some ob) (hv : V g w v (.sref id 0 n cap)) (hy : Elems g w y m ds)
    (hu : P.underlying T = some (.slice e)) (te : TIs P e ei) (hb : (n + m) * ei.bytes ≤ 140737488355328) (hl : ds.length = m * ei.sz) (hone : ds.all oneP = true) (hn : n * ei.sz ≤ ob.cs.length)
    {K : PV → PH → Prop} (h1 : n + m ≤ cap → (n + m) * ei.sz ≤ ob.cs.length ∧ K (.sref id 0 (n + m) cap) (setH id ob (setCells (n * ei.sz) ds ob.cs) H))
    (h2 : cap < n + m → ∀ cap', n + m ≤ cap' → K (.sref H.length 0 (n + m) cap') (H ++ [⟨e, (ob.cs.take (n * ei.sz)).map dem ++ ds ++ zerosOf ei.zero (cap' - (n + m)), 0⟩])) :
    ∃ r p g1 w1 H', (Builtin.append_ #[T, T] ty #[v, y]).run P w = .ok r w1 ∧ Post P g0 w0 H0 F0 N a g1 w1 E [] H' r p none ∧ K p H' := by
  obtain ⟨inf, z, i1, i2, i3, i4, i5⟩ := te.ex
  have hzs : z.cells.size = ei.sz := by rw [(zeqs_VL (g := g) (w := w) i5).1, te.len]
  have hb0 := te.bpos
  have hnm : (n + m) * 1 ≤ (n + m) * ei.bytes := Nat.mul_le_mul_left _ hb0
  obtain ⟨b, rfl, hi, hle⟩ := hv.inv_sref
  obtain ⟨vs, k1, k2, k3⟩ := inv.rel.h.obj id b ob hid hi
  have room : ∀ (us : List Value), us.length = ds.length → (∀ (j : Nat) (c : PV), ds[j]? = some c → ∃ u, us[j]? = some u ∧ V g w u c) → (n + m) * ei.sz ≤ ob.cs.length →
      ∃ w1, (storeCells ⟨b, n * ei.sz, none⟩ us).run P w = .ok () w1 ∧ Inv P g0 w0 H0 F0 N g w1 a E (setH id ob (setCells (n * ei.sz) ds ob.cs) H) := fun us u1 u3 hfit => by
    obtain ⟨w1, e1, e2⟩ := inv.put_at (us := us.toArray) hid hi (off := n * ei.sz) (ds := ds) (by rw [hl, ← Nat.add_mul]; exact hfit) (by simp [u1]) (fun j c hj => by
      obtain ⟨u, y1, y2⟩ := u3 j c hj
      exact ⟨u, by simpa using y1, .inl y2⟩) (fun j c u bb hj ho hu hbb => by
        obtain ⟨u', y1, y2⟩ := u3 j c hj
        have : us[j]? = some u := by simpa using hu
        rw [y1] at this; cases this
        exact absurd (show ownAt u c 0 bb by cases c <;> first | (cases ho; done) | exact ⟨rfl, ho, hbb⟩) (no_own y2 0 bb)) (fun u hu => by
        have hu : u ∈ us := by simpa using hu
        obtain ⟨j, hj⟩ := List.getElem?_of_mem hu
        have hlt : j < ds.length := by rw [← u1]; exact (List.getElem?_eq_some_iff.1 hj).1
        obtain ⟨u', y1, y2⟩ := u3 j _ (List.getElem?_eq_getElem hlt)
        rw [y1] at hj; cases hj
        exact y2.one (List.all_eq_true.1 hone _ (List.getElem_mem hlt)))
    exact ⟨w1, by simpa using e1, e2⟩
  rcases hy.h with ⟨rfl, rfl, rfl⟩ | ⟨b2, off2, cap2, us, rfl, u1, u2, u3⟩
  · obtain ⟨q1, q2⟩ := h1 (by omega)
    obtain ⟨w1, e1, e2⟩ := room [] rfl (fun j c hj => by simp at hj) q1
    have hw : w1 = w := by
      have : (storeCells ⟨b, n * ei.sz, none⟩ []).run P w = .ok () w := by simp [storeCells]
      rw [e1] at this
      injection this
    subst hw
    exact ⟨_, _, g, w1, _, run_append_none T ty e n cap (some ⟨b, 0, none⟩) inf hu i1 hle, Post.ofV e2 (.sref id b 0 n cap hi hle) QRel.nil, q2⟩
  · rcases Nat.lt_or_ge cap (n + m) with hg | hroom
    · have hfit := growslice_fits (bytes := inf.bytes) hg (by rw [i3]; exact hb)
      have hlt0 : (vs.toList.take (n * ei.sz)).length = n * ei.sz := by rw [List.length_take, Array.length_toList]; omega
      have hrun := run_append_grow (P := P) w T ty e inf z hu i1 i4 ⟨b, 0, none⟩ n cap (vs.toList.take (n * ei.sz)) (by rw [hlt0, i2]) (fun j v hj => by
          rw [Addr.add_plain, cell?_cells k1, Nat.zero_add]
          rw [List.getElem?_take] at hj
          split at hj
          · rw [← Array.getElem?_toList]; exact hj
          · cases hj) ⟨b2, off2, none⟩ m cap2 us (by rw [u1, hl, i2]) u2 hg (by omega) hfit
      have hge := grownCap_ge w (n + m) cap e
      obtain ⟨y1, y2, y3⟩ := zero_VL (g := g) (w := w) i5 te.len te.pos (grownCap w (n + m) cap e - (n + m))
      have hpo := post_obj (T := e) (cs := (ob.cs.take (n * ei.sz)).map dem ++ ds ++ zerosOf ei.zero (grownCap w (n + m) cap e - (n + m))) inv QRel.nil
        (w1 := w.drew.alloc (.cells ((vs.toList.take (n * ei.sz)).toArray ++ us.toArray ++ Builtin.zeroCells z.cells (grownCap w (n + m) cap e - (n + m))) e)) ⟨rfl, rfl, rfl, rfl⟩ (by
          simp only [Array.size_append, List.size_toArray, hlt0, u1, y1, List.length_append, List.length_map, List.length_take, y2]; omega) (fun j c hj => by
          have htk : ((ob.cs.take (n * ei.sz)).map dem).length = n * ei.sz := by rw [List.length_map, List.length_take]; omega
          rcases Nat.lt_or_ge j (n * ei.sz) with hj1 | hj1
          · rw [List.append_assoc, List.getElem?_append_left (by omega), List.getElem?_map, List.getElem?_take, if_pos hj1, Option.map_eq_some_iff] at hj
            obtain ⟨d, hd, rfl⟩ := hj
            obtain ⟨u, e1, e2⟩ := k3 _ _ hd
            refine ⟨u, ?_, e2.dem⟩
            rw [Array.append_assoc, Array.getElem?_append_left (by simp only [List.size_toArray]; omega), List.getElem?_toArray, List.getElem?_take, if_pos hj1, Array.getElem?_toList]; exact e1
          · rcases Nat.lt_or_ge j (n * ei.sz + us.length) with hj2 | hj2
            · rw [List.append_assoc, List.getElem?_append_right (by omega), htk, List.getElem?_append_left (by omega)] at hj
              obtain ⟨u, e1, e2⟩ := u3 _ _ hj
              refine ⟨u, ?_, e2⟩
              rw [Array.getElem?_append_left (by simp only [Array.size_append, List.size_toArray]; omega), Array.getElem?_append_right (by simp only [List.size_toArray]; omega)]
              simp only [List.size_toArray, hlt0, List.getElem?_toArray]; exact e1
            · rw [List.getElem?_append_right (by rw [List.length_append]; omega), List.length_append, htk] at hj
              obtain ⟨u, e1, e2⟩ := y3 _ _ hj
              refine ⟨u, ?_, e2⟩
              rw [Array.getElem?_append_right (by simp only [Array.size_append, List.size_toArray]; omega)]
              simp only [Array.size_append, List.size_toArray, hlt0, u1]; exact e1)
      exact ⟨_, _, _, _, _, hrun, Post.ofV hpo.inv (.sref H.length w.heap.size 0 (n + m) _ (by rw [← inv.rel.h.len]; simp) hge) QRel.nil, h2 hg _ hge⟩
    · obtain ⟨q1, q2⟩ := h1 hroom
      obtain ⟨w1, e1, e2⟩ := room us u1 u3 q1
      rw [← i2] at e1
      have hrun := run_append_at (P := P) (w := w) T ty e inf hu i1 b n cap ⟨b2, off2, none⟩ m cap2 us (by rw [u1, hl, i2]) u2 hroom e1
      exact ⟨_, _, g, w1, _, hrun, Post.ofV e2 (.sref id b 0 (n + m) cap hi hroom) QRel.nil, q2⟩

theorem append_nilS {m : Nat} {ds : List PV} {e T ty : Nat} {ei : TI} {y : Value} (inv : Inv P g0 w0 H0 F0 N g w a E H) (hy : Elems g w y m ds)
    (hu : P.underlying T = some (.slice e)) (te : TIs P e ei) (hb : m * ei.bytes ≤ 140737488355328) (hl : ds.length = m * ei.sz) {K : PV → PH → Prop} (h1 : m = 0 → K .nilS H)
    (h2 : 0 < m → ∀ cap', m ≤ cap' → K (.sref H.length 0 m cap') (H ++ [⟨e, ds ++ zerosOf ei.zero (cap' - m), 0⟩])) :
    ∃ r p g1 w1 H', (Builtin.append_ #[T, T] ty #[.slice none 0 0, y]).run P w = .ok r w1 ∧ Post P g0 w0 H0 F0 N a g1 w1 E [] H' r p none ∧ K p H' := by
  obtain ⟨inf, z, i1, i2, i3, i4, i5⟩ := te.ex
  have hzs : z.cells.size = ei.sz := by rw [(zeqs_VL (g := g) (w := w) i5).1, te.len]
  have hb0 := te.bpos
  have hnm : m * 1 ≤ m * ei.bytes := Nat.mul_le_mul_left _ hb0
  rcases hy.h with ⟨rfl, rfl, rfl⟩ | ⟨b2, off2, cap2, us, rfl, u1, u2, u3⟩
  · exact ⟨_, _, g, w, _, run_append_none T ty e 0 0 none inf hu i1 (Nat.le_refl _), Post.ofV inv .nilS QRel.nil, h1 rfl⟩
  · rcases Nat.eq_zero_or_pos m with rfl | hm
    · exact ⟨_, _, g, w, _, run_append_empty T ty e _ _ inf hu i1, Post.ofV inv .nilS QRel.nil, h1 rfl⟩
    · have hrun := run_append_nil (P := P) w T ty e inf z hu i1 i4 ⟨b2, off2, none⟩ m cap2 us (by rw [u1, hl, i2]) u2 hm (by omega) (by rw [i3]; omega)
      have hge := grownCap_ge w m 0 e
      obtain ⟨y1, y2, y3⟩ := zero_VL (g := g) (w := w) i5 te.len te.pos (grownCap w m 0 e - m)
      have hpo := post_obj (T := e) (cs := ds ++ zerosOf ei.zero (grownCap w m 0 e - m)) inv QRel.nil
        (w1 := w.drew.alloc (.cells (us.toArray ++ Builtin.zeroCells z.cells (grownCap w m 0 e - m)) e)) ⟨rfl, rfl, rfl, rfl⟩ (by
          simp only [Array.size_append, List.size_toArray, u1, y1, List.length_append, y2]) (fun j c hj => by
          rcases Nat.lt_or_ge j us.length with hj2 | hj2
          · rw [List.getElem?_append_left (by omega)] at hj
            obtain ⟨u, e1, e2⟩ := u3 _ _ hj
            refine ⟨u, ?_, e2⟩
            rw [Array.getElem?_append_left (by simp only [List.size_toArray]; omega), List.getElem?_toArray]; exact e1
          · rw [List.getElem?_append_right (by omega)] at hj
            obtain ⟨u, e1, e2⟩ := y3 _ _ hj
            refine ⟨u, ?_, e2⟩
            rw [Array.getElem?_append_right (by simp only [List.size_toArray]; omega)]
            simp only [List.size_toArray, u1]; exact e1)
      exact ⟨_, _, _, _, _, hrun, Post.ofV hpo.inv (.sref H.length w.heap.size 0 m _ (by rw [← inv.rel.h.len]; simp) hge) QRel.nil, h2 hm _ hge⟩

theorem append_own {c : Call} {o : Oper} {K : KK} {s x : Operand} {T : Nat} (hT : ttOk P tt = true) (ho : o.op = .call c) (hc : c.callee = .builtin .append) (hargs : c.args = #[s, x]) (htys : c.argTypes = #[T, T])
    (inv : Inv P g0 w0 H0 F0 N g w a E H) (hq : QRel a g w q) (hp : pAppend tt E q H s x T fun v E' H' => K v none E' [] H') : OpS P g0 w0 H0 F0 N a w o K := by
  have hx := opnd_VC inv.rel x
  unfold pAppend at hp
  split at hp
  · rename_i m ds ow hb
    rw [hb] at hx
    obtain ⟨n, cs, e, E', H', gv, hp⟩ := own_of inv hq hp
    split at hp
    · rename_i i hi
      split at hp
      · rename_i e' hk
        split at hp
        · rename_i hee
          have hee := Nat.eq_of_beq_eq_true hee
          subst hee
          split at hp
          · rename_i ei hei
            obtain ⟨⟨h1, h2, h3⟩, hp⟩ := hp
            obtain ⟨r, g1, w1, hrun, hpost⟩ := given_append (ty := o.type) gv hx.slice ((tis hT hi).slice hk) (tis hT hei) h1 h2 h3
            intro next Q' hnx
            refine wp_value ?_ (hnx _ _ _ _ _ _ _ _ hpost hp)
            simp [execOp, ho, resolve, hc, hargs, htys, invoke, builtin, hrun]
          · exact hp.elim
        · exact hp.elim
      · exact hp.elim
    · exact hp.elim
  · exact hp.elim
theorem op_append {c : Call} {o : Oper} {K : KK} (hT : ttOk P tt = true) (ho : o.op = .call c) (hc : c.callee = .builtin .append) (inv : Inv P g0 w0 H0 F0 N g w a E H) (hq : QRel a g w q) (hp : pOp P tt imm E q H o K) :
    OpS P g0 w0 H0 F0 N a w o K := by
  simp only [pOp, ho, hc] at hp
  split at hp
  · rename_i s x hx'
    have hargs : c.args = #[s, x] := by rw [← Array.toList_inj]; exact hx'
    have hs := opnd_VC inv.rel s
    split at hp
    · rename_i T T' hT'
      split at hp
      · rename_i hb
        have hb := Nat.eq_of_beq_eq_true hb
        subst hb
        have htys : c.argTypes = #[T, T] := by rw [← Array.toList_inj]; exact hT'
        split at hp
        · rename_i id off n cap hb
          rw [hb] at hs
          unfold pAppendR at hp
          split at hp
          · rename_i i hi
            split at hp
            · rename_i e hk
              split at hp
              · rename_i ei hei
                obtain ⟨m, ds, hel, hp⟩ := elems_of inv hp
                split at hp
                · rename_i ob hid
                  obtain ⟨⟨rfl, h1, h2, h3, h4⟩, h5, h6⟩ := hp
                  obtain ⟨r, p, g1, w1, H', hrun, hpost, hk'⟩ := append_ref (ty := o.type) (K := fun v H' => K v none E [] H') inv hid (plain_of hs (by simp) (by simp)) hel ((tis hT hi).slice hk) (tis hT hei) h1 h2 h3 h4 h5 h6
                  intro next Q' hnx
                  refine wp_value ?_ (hnx _ _ _ _ _ _ _ _ hpost hk')
                  simp [execOp, ho, resolve, hc, hargs, htys, invoke, builtin, hrun]
                · exact hp.elim
              · exact hp.elim
            · exact hp.elim
          · exact hp.elim
        · rename_i hb
          rw [hb] at hs
          have hvb := (plain_of hs (by simp) (by simp)).inv_nilS
          split at hp
          · unfold pAppendN at hp
            split at hp
            · rename_i i hi
              split at hp
              · rename_i e hk
                split at hp
                · rename_i ei hei
                  obtain ⟨m, ds, hel, hp⟩ := elems_of inv hp
                  obtain ⟨⟨h1, h2, _⟩, h5, h6⟩ := hp
                  obtain ⟨r, p, g1, w1, H', hrun, hpost, hk'⟩ := append_nilS (ty := o.type) (K := fun v H' => K v none E [] H') inv hel ((tis hT hi).slice hk) (tis hT hei) h1 h2 h5 h6
                  intro next Q' hnx
                  refine wp_value ?_ (hnx _ _ _ _ _ _ _ _ hpost hk')
                  simp [execOp, ho, resolve, hc, hargs, htys, invoke, builtin, hvb, hrun]
                · exact hp.elim
              · exact hp.elim
            · exact hp.elim
          · exact append_own hT ho hc hargs htys inv hq hp
        · exact append_own hT ho hc hargs htys inv hq hp
      · exact hp.elim
    · exact hp.elim
  · exact hp.elim
end
end Ps
