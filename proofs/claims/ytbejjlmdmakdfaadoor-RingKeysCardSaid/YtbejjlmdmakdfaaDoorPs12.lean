/- PSem, part 12: values that are built of parts; stores. -/
import Derived.Test.YtbejjlmdmakdfaaDoorPs11
set_option linter.all false
set_option linter.unusedVariables false
set_option linter.unusedSimpArgs false
set_option linter.unnecessarySimpa false
set_option linter.unusedSimpArgs false
set_option linter.unusedVariables false
namespace Ps
open Go

/-- Values in a row. -/
def VL (g : Gh) (w : World) (vs : Array Value) (cs : List PV) : Prop := vs.size = cs.length ∧ ∀ (j : Nat) (c : PV), cs[j]? = some c → ∃ v, vs[j]? = some v ∧ V g w v c

theorem setCells_eq : ∀ (off : Nat) (ds cs : List PV), off + ds.length ≤ cs.length → setCells off ds cs = cs.take off ++ ds ++ cs.drop (off + ds.length)
  | off, [], cs, h => by simp [setCells]
  | 0, d :: ds, [], h => by simp at h
  | 0, d :: ds, c :: cs, h => by
    have := setCells_eq 0 ds cs (by simp at h ⊢; omega)
    simp only [setCells, this]
    simp
  | off + 1, d :: ds, [], h => by simp at h
  | off + 1, d :: ds, c :: cs, h => by
    have := setCells_eq off (d :: ds) cs (by simp at h ⊢; omega)
    simp only [setCells, this]
    rw [show off + 1 + (d :: ds).length = (off + (d :: ds).length) + 1 by omega]
    simp
theorem setCells_get (off : Nat) (ds cs : List PV) (h : off + ds.length ≤ cs.length) (j : Nat) : (setCells off ds cs)[j]? = if off ≤ j ∧ j < off + ds.length then ds[j - off]? else cs[j]? := by
  rw [setCells_eq off ds cs h]
  have ht : (cs.take off).length = off := by rw [List.length_take]; omega
  rcases Nat.lt_or_ge j off with h1 | h1
  · rw [if_neg (by omega), List.append_assoc, List.getElem?_append_left (by omega), List.getElem?_take, if_pos h1]
  · rcases Nat.lt_or_ge j (off + ds.length) with h2 | h2
    · rw [if_pos ⟨h1, h2⟩, List.getElem?_append_left (by simp [ht]; omega), List.getElem?_append_right (by omega), ht]
    · rw [if_neg (by omega), List.getElem?_append_right (by simp [ht]; omega), List.getElem?_drop]
      congr 1
      simp [ht]; omega
theorem setCells_length (off : Nat) (ds cs : List PV) (h : off + ds.length ≤ cs.length) : (setCells off ds cs).length = cs.length := by
  rw [setCells_eq off ds cs h]; simp; omega

theorem fold_set (off : Nat) : ∀ (l : List Value) (i : Nat) (cells : Array Value), off + i + l.length ≤ cells.size →
    ((l.zipIdx i).foldl (fun cs (p : Value × Nat) => cs.setIfInBounds (off + p.2) p.1) cells).size = cells.size ∧
    ∀ (k : Nat), ((l.zipIdx i).foldl (fun cs (p : Value × Nat) => cs.setIfInBounds (off + p.2) p.1) cells)[k]? = if off + i ≤ k ∧ k < off + i + l.length then l[k - (off + i)]? else cells[k]?
  | [], i, cells, h => by
    refine ⟨by simp, fun k => ?_⟩
    rw [if_neg (by simp)]; simp
  | v :: l, i, cells, h => by
    have ih := fold_set off l (i + 1) (cells.setIfInBounds (off + i) v) (by simp at h ⊢; omega)
    refine ⟨by simpa using ih.1, fun k => ?_⟩
    have ih2 := ih.2 k
    simp only [List.zipIdx_cons, List.foldl_cons]
    rw [ih2]
    simp only [List.length_cons] at h ⊢
    by_cases h1 : k = off + i
    · subst h1
      rw [if_neg (by omega), if_pos (by omega)]
      simp [Array.getElem?_setIfInBounds, show off + i < cells.size by omega]
    · by_cases h2 : off + (i + 1) ≤ k ∧ k < off + (i + 1) + l.length
      · rw [if_pos h2, if_pos (by omega)]
        rw [show k - (off + i) = (k - (off + (i + 1))) + 1 by omega]; simp
      · rw [if_neg h2, if_neg (by omega), Array.getElem?_setIfInBounds, if_neg (by omega)]

section
variable {P : Program} {tt : TT} {imm : List Nat} {g0 : Gh} {w0 : World} {H0 : PH} {F0 : Nat → Prop} {N : Nat} {g : Gh} {w : World} {a : Act} {E : Env} {H : PH} {q : Q}

theorem VL.fold {cells vs : Array Value} {cs ds : List PV} {off : Nat} (h : VL g w cells cs) (h' : VL g w vs ds) (hl : off + ds.length ≤ cs.length) :
    VL g w (vs.zipIdx.foldl (fun cs (p : Value × Nat) => cs.setIfInBounds (off + p.2) p.1) cells) (setCells off ds cs) := by
  have e : vs.zipIdx.foldl (fun cs (p : Value × Nat) => cs.setIfInBounds (off + p.2) p.1) cells = (vs.toList.zipIdx 0).foldl (fun cs (p : Value × Nat) => cs.setIfInBounds (off + p.2) p.1) cells := by
    rw [← Array.foldl_toList, Array.toList_zipIdx]
  have hs : vs.toList.length = ds.length := by rw [Array.length_toList]; exact h'.1
  have f := fold_set off vs.toList 0 cells (by rw [hs, h.1]; simpa using hl)
  rw [e]
  refine ⟨by rw [f.1, setCells_length _ _ _ hl]; exact h.1, fun j c hj => ?_⟩
  rw [setCells_get _ _ _ hl] at hj
  rw [f.2 j]
  simp only [Nat.add_zero, hs]
  split at hj
  · rename_i hc
    rw [if_pos hc, Array.getElem?_toList]
    exact h'.2 _ _ hj
  · rename_i hc
    rw [if_neg hc]
    exact h.2 _ _ hj

theorem fill_ok (hr : Rel P g w (vals a) E H) {pl place : Nat → Option (Nat × Nat)} (hpl : ∀ k r, pl k = some r → place k = some r) {K : List PV → Prop} :
    ∀ (parts : List (Nat × Operand)) (cells : Array Value) (cs : List PV), VL g w cells cs → pFill pl E parts cs K →
      ∃ cells' cs', Instr.fill place cells (parts.map fun p => (p.1, a.eval p.2)) = some cells' ∧ VL g w cells' cs' ∧ cs'.length = cs.length ∧ K cs'
  | [], cells, cs, hv, hp => ⟨cells, cs, rfl, hv, rfl, hp⟩
  | (i, x) :: rest, cells, cs, hv, hp => by
    unfold pFill at hp
    split at hp
    · rename_i off sz hi
      obtain ⟨hu, hp⟩ := frcd_eq hp
      have hx := (opnd_VC hr x).dem
      obtain ⟨h1, h2⟩ := cellsOf_V hx hu
      split at hp
      · rename_i hb
        have hb := Nat.eq_of_beq_eq_true hb
        split at hp
        · rename_i hle
          have hle : off + sz ≤ cs.length := Nat.le_of_ble_eq_true hle
          have hf : VL g w _ _ := VL.fold (off := off) hv ⟨h1, h2⟩ (by rw [hb]; exact hle)
          obtain ⟨cells', cs', k1, k2, k3, k4⟩ := fill_ok hr hpl rest _ _ hf hp
          refine ⟨cells', cs', ?_, k2, by rw [k3, setCells_length _ _ _ (by rw [hb]; exact hle)], k4⟩
          simp only [List.map_cons, Instr.fill, hpl _ _ hi]
          rw [if_neg (by simp only [h1, hb, hv.1]; simp; omega)]
          exact k1
        · exact hp.elim
      · exact hp.elim
    · exact hp.elim

theorem zeqs_VL {z : Value} {cs : List PV} (h : zeqs z.cells.toList cs = true) : VL g w z.cells cs := by
  obtain ⟨h4, h5⟩ := zeqs_V (g := g) (w := w) h
  exact ⟨by rw [← h4, Array.length_toList], fun j c hj => by
    obtain ⟨v, k1, k2⟩ := h5 j c hj
    rw [Array.getElem?_toList] at k1
    exact ⟨v, k1, k2⟩⟩

theorem VL.agg {vs : Array Value} {cs : List PV} (h : VL g w vs cs) : V g w (.agg vs) (.agg cs) := by
  refine .agg vs cs h.1 fun j c hj => ?_
  obtain ⟨v, h1, h2⟩ := h.2 j c hj
  rw [Array.getD_eq_getD_getElem?, h1]; exact h2

theorem places_ok : ∀ (gs : List Field), (∀ f ∈ gs, (P.info? f.type).isSome = true) → ∃ places : List (Nat × Nat), gs.mapM (fun f => (P.info? f.type).map fun i => (f.offset, i.size)) = some places ∧
    ∀ (k : Nat) (f : Field) (i : TypeInfo), gs[k]? = some f → P.info? f.type = some i → places[k]? = some (f.offset, i.size)
  | [], _ => ⟨[], rfl, fun k f i h => by simp at h⟩
  | f :: gs, h => by
    obtain ⟨ps, h1, h2⟩ := places_ok gs fun f hf => h f (List.mem_cons_of_mem _ hf)
    obtain ⟨i, hi⟩ := Option.isSome_iff_exists.1 (h f List.mem_cons_self)
    refine ⟨(f.offset, i.size) :: ps, by simp [List.mapM_cons, hi, h1], fun k f' i' hk hi' => ?_⟩
    cases k with
    | zero => simp at hk; subst hk; rw [hi] at hi'; cases hi'; rfl
    | succ k => simpa using h2 k f' i' (by simpa using hk) hi'

theorem op_build {T : Nat} {ps : Array (Nat × Operand)} {o : Oper} {K : KK} (hT : ttOk P tt = true) (ho : o.op = .build T ps) (inv : Inv P g0 w0 H0 F0 N g w a E H) (hq : QRel a g w q) (hp : pOp P tt imm E q H o K) :
    OpS P g0 w0 H0 F0 N a w o K := by
  simp only [pOp, ho] at hp
  have hmap : (ps.map fun p => (p.1, a.eval p.2)).toList = ps.toList.map fun p => (p.1, a.eval p.2) := by simp
  split at hp
  · rename_i i hi
    have ti := tis hT hi
    obtain ⟨inf, z, i1, i2, i3, i4, i5⟩ := ti.ex
    split at hp
    · rename_i fs hk
      obtain ⟨gs, u1, u2, u3⟩ := ti.strct hk
      obtain ⟨places, p1, p2⟩ := places_ok gs.toList (ti.strctInfo hk u1)
      obtain ⟨f1, f2⟩ := fieldsOk_get u2
      obtain ⟨cells, cs, c1, c2, c3, c4⟩ := fill_ok inv.rel (place := (places.toArray[·]?)) (fun k r hkr => by
        split at hkr
        · rename_i ft off hfs
          split at hkr
          · rename_i fi hfi
            cases hkr
            obtain ⟨fld, e1, e2, e3, e4⟩ := f2 k ft off hfs
            obtain ⟨finf, fz, y1, y2, _⟩ := (tis hT hfi).ex
            have := p2 k fld finf e1 (by rw [e2]; exact y1)
            simp only [List.getElem?_toArray]
            rw [this, e3, y2]
          · cases hkr
        · cases hkr) ps.toList z.cells i.zero (zeqs_VL i5) hp
      have hb : P.built T (ps.map fun p => (p.1, a.eval p.2)).toList = some cells := by
        unfold Program.built
        rw [hmap]
        simp only [i1, u1, i4]
        rw [p1]
        exact c1
      exact OpS.val inv hq (v := .agg cells) (by simp only [execOp, ho]; rw [show (ps.map fun (x : Nat × Operand) => match x with | (i, x) => (i, a.eval x)) = ps.map fun p => (p.1, a.eval p.2) from rfl, Sem.run_bind, run_build w T _ cells hb]; rfl) c2.agg c4
    · rename_i n e hk
      split at hp
      · rename_i ei hei
        obtain ⟨einf, ez, y1, y2, _⟩ := (tis hT hei).ex
        obtain ⟨cells, cs, c1, c2, c3, c4⟩ := fill_ok inv.rel (place := fun i => some (i * ei.sz, ei.sz)) (fun k r hkr => by
          split at hkr
          · exact hkr
          · cases hkr) ps.toList z.cells i.zero (zeqs_VL i5) hp
        have hb : P.built T (ps.map fun p => (p.1, a.eval p.2)).toList = some cells := by
          unfold Program.built
          simp only [i1, ti.arr hk, i4, y1, hmap, y2]
          exact c1
        exact OpS.val inv hq (v := .agg cells) (by simp only [execOp, ho]; rw [show (ps.map fun (x : Nat × Operand) => match x with | (i, x) => (i, a.eval x)) = ps.map fun p => (p.1, a.eval p.2) from rfl, Sem.run_bind, run_build w T _ cells hb]; rfl) c2.agg c4
      · exact hp.elim
    · exact hp.elim
  · exact hp.elim

theorem zerosOf_get {z : List PV} {sz : Nat} (hz : z.length = sz) (hs : 0 < sz) : ∀ (n : Nat), (zerosOf z n).length = n * sz ∧ ∀ j, j < n * sz → (zerosOf z n)[j]? = z[j % sz]?
  | 0 => ⟨by simp [zerosOf], fun j h => by omega⟩
  | n + 1 => by
    obtain ⟨h1, h2⟩ := zerosOf_get hz hs n
    refine ⟨by simp [zerosOf, h1, hz, Nat.add_mul, Nat.add_comm], fun j hj => ?_⟩
    simp only [zerosOf]
    rcases Nat.lt_or_ge j sz with h | h
    · rw [List.getElem?_append_left (by omega), Nat.mod_eq_of_lt h]
    · rw [List.getElem?_append_right (by omega), hz, h2 (j - sz) (by rw [Nat.add_mul] at hj; omega)]
      congr 1
      conv => rhs; rw [show j = (j - sz) + sz by omega, Nat.add_mod_right]

theorem made_VL {z : Value} {cs : List PV} {sz : Nat} (h : zeqs z.cells.toList cs = true) (hl : cs.length = sz) (hs : 0 < sz) (n : Nat) {zz : Array Value} (hzz : 0 < n → zz = z.cells) {m : Nat} (hnm : n ≤ m) :
    (madeCells zz (m * sz)).size = m * sz ∧ (zerosOf cs n).length = n * sz ∧ ∀ (j : Nat) (c : PV), (zerosOf cs n)[j]? = some c → ∃ v, (madeCells zz (m * sz))[j]? = some v ∧ V g w v c := by
  obtain ⟨h1, h2⟩ := zerosOf_get hl hs n
  refine ⟨size_madeCells _ _, h1, fun j c hj => ?_⟩
  have hj' : j < n * sz := by rw [← h1]; exact (List.getElem?_eq_some_iff.1 hj).1
  have hn : 0 < n := by rcases Nat.eq_zero_or_pos n with rfl | h
                        · simp at hj'
                        · exact h
  have hm : j < m * sz := Nat.lt_of_lt_of_le hj' (Nat.mul_le_mul_right _ hnm)
  rw [h2 j hj'] at hj
  obtain ⟨v, k1, k2⟩ := (zeqs_VL (g := g) (w := w) h).2 _ _ hj
  have hsz : z.cells.size = sz := by rw [(zeqs_VL (g := g) (w := w) h).1, hl]
  rw [hzz hn]
  refine ⟨v, ?_, k2⟩
  simp only [madeCells, Array.getElem?_map, Array.getElem?_range, hm, if_true, Option.map_some, hsz]
  simp [Array.getElem!_eq_getD, Array.getD_eq_getD_getElem?, k1]

theorem op_makeSlice {T : Nat} {l c : Operand} {o : Oper} {K : KK} (hT : ttOk P tt = true) (ho : o.op = .makeSlice T l c) (inv : Inv P g0 w0 H0 F0 N g w a E H) (hq : QRel a g w q) (hp : pOp P tt imm E q H o K) :
    OpS P g0 w0 H0 F0 N a w o K := by
  simp only [pOp, ho] at hp
  split at hp
  · rename_i i hi
    have ti := tis hT hi
    split at hp
    · rename_i e hk
      split at hp
      · rename_i ei hei
        have te := tis hT hei
        obtain ⟨inf, z, i1, i2, i3, i4, i5⟩ := te.ex
        split at hp
        · rename_i n hn
          split at hp
          · rename_i m hm
            obtain ⟨⟨h0, h1, h2⟩, hp⟩ := hp
            have hl := (opnd_VC inv.rel l); rw [hn] at hl
            have hc := (opnd_VC inv.rel c); rw [hm] at hc
            have hl := hl.int
            have hc := hc.int
            have hb0 := te.bpos
            have hm63 : m ≤ 140737488355328 := by
              have : m * 1 ≤ m * ei.bytes := Int.mul_le_mul_of_nonneg_left (by omega) (by omega)
              omega
            have hrun := run_make (P := P) w T e inf z (ti.slice hk) i1 i4 .i64 .i64 n m h0 h1 (by rw [i3, Int.mul_comm]; omega) (by omega)
            obtain ⟨k1, k2, k3⟩ := made_VL (g := g) (w := w) i5 te.len te.pos n.toNat (zz := z.cells) (fun _ => rfl) (m := m.toNat) (by omega)
            intro next Q' hnx
            split at hp
            · obtain ⟨y1, y2, y3⟩ := made_VL (g := g) (w := w) i5 te.len te.pos m.toNat (zz := z.cells) (fun _ => rfl) (m := m.toNat) (Nat.le_refl _)
              have hpo := post_obj (T := e) inv hq (Pushes.alloc w (.cells (madeCells z.cells (m.toNat * ei.sz)) e (0, 0))) (by rw [y1, y2]) y3
              refine wp_value ?_ (hnx _ _ _ _ _ _ _ _ (Post.ofV hpo.inv (.sref H.length w.heap.size 0 n.toNat m.toNat (by rw [← inv.rel.h.len]; simp) (by omega)) hpo.qr) hp)
              simp only [execOp, ho, hl, hc, Sem.run_bind, hrun, i2]
              rfl
            refine wp_value ?_ (hnx _ _ _ _ _ _ _ _ (post_own (e := e) inv hq (Pushes.alloc w _) k3 (cap := m.toNat) (by omega) (by rw [te.psize]; exact te.pos) (by rw [te.psize]; exact k2) (by rw [te.psize]; exact k1)) hp)
            simp only [execOp, ho, hl, hc, Sem.run_bind, hrun, i2]
            rfl
          · exact hp.elim
        · exact hp.elim
      · exact hp.elim
    · exact hp.elim
  · exact hp.elim

theorem op_buildSlice {T n : Nat} {ps : Array (Nat × Operand)} {o : Oper} {K : KK} (hT : ttOk P tt = true) (ho : o.op = .buildSlice T n ps) (inv : Inv P g0 w0 H0 F0 N g w a E H) (hq : QRel a g w q) (hp : pOp P tt imm E q H o K) :
    OpS P g0 w0 H0 F0 N a w o K := by
  simp only [pOp, ho] at hp
  split at hp
  · rename_i i hi
    have ti := tis hT hi
    split at hp
    · rename_i e hk
      split at hp
      · rename_i ei hei
        have te := tis hT hei
        unfold isLe at hp
        split at hp
        · rename_i hle
          have hle : n * ei.sz ≤ 16777216 := Nat.le_of_ble_eq_true hle
          obtain ⟨z, z1, z2, z3⟩ := te.run_zero w
          obtain ⟨k1, k2, k3⟩ := made_VL (g := g) (w := w) z2 te.len te.pos n (zz := if n * ei.sz = 0 then #[] else z.cells) (fun h => by
            rw [if_neg]; exact Nat.ne_of_gt (Nat.mul_pos h te.pos)) (m := n) (Nat.le_refl _)
          obtain ⟨cells, cs, c1, c2, c3, c4⟩ := fill_ok inv.rel (place := fun i => some (i * ei.sz, ei.sz)) (fun k r hkr => by
            split at hkr
            · exact hkr
            · cases hkr) ps.toList _ _ ⟨by rw [k1, k2], k3⟩ hp
          intro next Q' hnx
          have hcs : cs.length = n * ei.sz := by rw [c3, k2]
          refine wp_value ?_ (hnx _ _ _ _ _ _ _ _ (post_own (e := e) inv hq (Pushes.alloc w (.cells cells e (0, 0))) c2.2 (n := n) (cap := n) (Nat.le_refl _) (by rw [te.psize]; exact te.pos) (by rw [te.psize]; exact hcs) (by rw [te.psize, c2.1]; exact hcs)) c4)
          have hmap : (ps.map fun p => (p.1, a.eval p.2)).toList = ps.toList.map fun p => (p.1, a.eval p.2) := by simp
          have hmap2 : (ps.map fun (x : Nat × Operand) => match x with | (i, x) => (i, a.eval x)) = ps.map fun p => (p.1, a.eval p.2) := rfl
          have hgt : ¬ (n * ei.sz > 2 ^ 24) := by omega
          simp only [execOp, ho, hmap2]
          unfold Instr.buildSlice
          simp only [Sem.run_bind, run_underlying (ti.slice hk), te.run_sizeOf, Result.andThen_ok, hgt, if_false]
          by_cases h0 : n * ei.sz = 0
          · rw [if_pos h0] at c1
            simp only [h0, if_true, hmap] at c1 ⊢
            simp [madeCells, Array.range_zero'] at c1
            simp [c1, newRow, Array.range_zero']
          · rw [if_neg h0] at c1
            simp only [h0, if_false, hmap, z1, Sem.run_bind, Result.andThen_ok, madeCells] at c1 ⊢
            simp [c1, newRow, z1]
        · exact hp.elim
      · exact hp.elim
    · exact hp.elim
  · exact hp.elim

/-! ### stores -/
theorem V.one {v : Value} {p : PV} (h : V g w v p) (hp : oneP p = true) : v.oneCell' = true := by
  cases h <;> first | rfl | cases hp

theorem writes_setRow {b : Nat} {old cs : Array Value} {t : Nat} {fr : Nat × Nat} (h : w.heap[b]? = some (.cells old t fr)) : Writes w (w.setRow b cs) b (.cells cs t fr) :=
  ⟨setRow_heap w b old cs t fr h, fun b' hb => setRow_other w b b' cs hb, setRow_size w b cs, rfl, rfl, rfl⟩

/-- A place of an object is written. -/
theorem Inv.put_at (inv : Inv P g0 w0 H0 F0 N g w a E H) {id b off : Nat} {ob : PObj} {ds : List PV} {us : Array Value} (hid : H[id]? = some ob) (hi : g.ι[id]? = some (some b))
    (hl : off + ds.length ≤ ob.cs.length) (hs : us.size = ds.length) (hu : ∀ (j : Nat) (c : PV), ds[j]? = some c → ∃ v, us[j]? = some v ∧ VH P g w v c)
    (hown : ∀ (j : Nat) (c : PV) (v : Value) (bb : Nat), ds[j]? = some c → isOwn c = true → us[j]? = some v → blk v = some bb →
      j = 0 ∧ (∀ t i, ¬ ownAt (vals a t) (E.get t) i bb) ∧ ¬ cellOwn g w H bb ∧ (w0.heap.size ≤ bb ∨ F0 bb))
    (h1 : ∀ v ∈ us, v.oneCell' = true) :
    ∃ w1, (storeCells ⟨b, off, none⟩ us.toList).run P w = .ok () w1 ∧ Inv P g0 w0 H0 F0 N g w1 a E (setH id ob (setCells off ds ob.cs) H) := by
  obtain ⟨vs, k1, k2, k3⟩ := inv.rel.h.obj id b ob hid hi
  have hlen : us.toList.length = ds.length := by rw [Array.length_toList]; exact hs
  have hst := run_storeCells_at P b off ob.T us.toList 0 vs w k1 (by rw [hlen, k2]; simpa using hl) (fun v hv => h1 v (by simpa using hv))
  simp only [Nat.add_zero, hlen] at hst
  refine ⟨_, hst, ?_⟩
  have hgetv : ∀ (j : Nat), (vs.toList.take off ++ us.toList ++ vs.toList.drop (off + ds.length)).toArray[j]? = if off ≤ j ∧ j < off + ds.length then us[j - off]? else vs[j]? := fun j => by
    have ht : (vs.toList.take off).length = off := by rw [List.length_take, Array.length_toList]; omega
    rw [List.getElem?_toArray]
    rcases Nat.lt_or_ge j off with h1 | h1
    · rw [if_neg (by omega), List.append_assoc, List.getElem?_append_left (by omega), List.getElem?_take, if_pos h1, Array.getElem?_toList]
    · rcases Nat.lt_or_ge j (off + ds.length) with h2 | h2
      · rw [if_pos ⟨h1, h2⟩, List.getElem?_append_left (by simp [ht, hs]; omega), List.getElem?_append_right (by omega), ht, Array.getElem?_toList]
      · rw [if_neg (by omega), List.getElem?_append_right (by simp [ht, hs]; omega), List.getElem?_drop, ← Array.getElem?_toList]
        congr 1
        simp [ht, hs]; omega
  have hgetc := setCells_get off ds ob.cs hl
  refine inv.store hid hi (writes_setRow k1) ?_ (fun j c hj => ?_) off (fun j c v bb hj ho hv hb => ?_)
  · rw [setCells_length off ds ob.cs hl]
    simp [hs, k2]; omega
  · rw [hgetc] at hj
    rw [hgetv]
    split at hj
    · rename_i hc; rw [if_pos hc]; exact hu _ _ hj
    · rename_i hc; rw [if_neg hc]; exact k3 _ _ hj
  · rw [hgetc] at hj
    rw [hgetv] at hv
    split at hj
    · rename_i hc
      rw [if_pos hc] at hv
      obtain ⟨z1, z2⟩ := hown _ c v bb hj ho hv hb
      exact .inr ⟨by omega, z2⟩
    · rename_i hc
      rw [if_neg hc] at hv
      exact .inl ⟨ob, c, b, v, hid, hj, ho, hi, by rw [cell?_cells k1]; exact hv, hb⟩

theorem run_storeAt {T : Nat} {i : TI} (hT : TIs P T i) {b off : Nat} {v : Value} (hs : v.cells.size = i.sz) {w1 : World} (h : (storeCells ⟨b, off, none⟩ v.cells.toList).run P w = .ok () w1) :
    (Instr.storeAt T (.pointer (some ⟨b, off, none⟩)) v).run P w = .ok () w1 := by
  simp [Instr.storeAt, Instr.sureAddr, storeVar, hT.run_sizeOf, hs, h]

theorem op_store {T : Nat} {x y : Operand} {o : Oper} {K : KK} (hT : ttOk P tt = true) (ho : o.op = .store T x y) (inv : Inv P g0 w0 H0 F0 N g w a E H) (hq : QRel a g w q) (hp : pOp P tt imm E q H o K) :
    OpS P g0 w0 H0 F0 N a w o K := by
  simp only [pOp, ho] at hp
  split at hp
  · rename_i i hi
    have ti := tis hT hi
    split at hp
    · rename_i id off hx
      have hvx := (opnd_V inv hx (by simp) rfl)
      obtain ⟨b, e1, e2⟩ := hvx.inv_ptr
      split at hp
      · rename_i ob hob
        split at hp
        · rename_i hle
          have hle : off + i.sz ≤ ob.cs.length := Nat.le_of_ble_eq_true hle
          split at hp
          · rename_i n cs e hy
            split at hp
            · rename_i s
              have hy : E.get s = .slice n cs (some e) := hy
              have hv := inv.rel.e s
              rw [hy] at hv
              have hv : VH P g w (vals a s) (.slice n cs (some e)) := hv
              have hns : (vals a s).cells = #[vals a s] ∧ (vals a s).oneCell' = true := by
                rcases hv with h | ⟨n', cs', e', b', _, _, hf⟩
                · obtain ⟨h, _⟩ := h.own_nil; rw [h]; exact ⟨rfl, rfl⟩
                · obtain ⟨cap, vs, h, _⟩ := hf.ex; rw [h]; exact ⟨rfl, rfl⟩
              have inv' := inv.demote hy
              have hgs : ∀ t, Env.get ((s, PV.slice n cs none) :: E) t = if t = s then .slice n cs none else E.get t := fun t => by
                rw [Env.get_cons]; by_cases h : s = t
                · subst h; simp
                · rw [if_neg h, if_neg (Ne.symm h)]
              have hl1 : off + 1 ≤ ob.cs.length := by have := ti.pos; omega
              obtain ⟨w1, h1, h2⟩ := inv'.put_at (ds := [.slice n cs (some e)]) (us := #[vals a s]) hob e2 hl1 rfl (fun j c hj => by
                  cases j with
                  | zero => simp at hj; subst hj; exact ⟨_, rfl, hv⟩
                  | succ j => simp at hj)
                (fun j c v bb hj ho hv' hbb => by
                  cases j with
                  | succ j => simp at hj
                  | zero =>
                    have hv' : some (vals a s) = some v := hv'
                    cases hv'
                    have hat : ownAt (vals a s) (E.get s) 0 bb := by rw [hy]; exact ⟨rfl, rfl, hbb⟩
                    refine ⟨rfl, fun t i ht => ?_, inv.rel.sc _ _ _ hat, inv.own _ _ _ hat⟩
                    rw [hgs] at ht
                    by_cases ets : t = s
                    · subst ets; rw [if_pos rfl] at ht; cases ht.2.1
                    · rw [if_neg ets] at ht
                      exact ets (inv.rel.ss t i s 0 bb ht hat).1) (fun v hv => by rw [Array.mem_singleton.1 hv]; exact hns.2)
              intro next Q' hnx
              rw [← hns.1] at h1
              split at hp
              · rename_i hsz
                have hsz := Nat.eq_of_beq_eq_true hsz
                refine wp_skip ?_ (hnx _ _ _ _ _ _ _ _ (Post.ofV h2 (.undef _) ((hq.del s).slots)) hp)
                simp only [execOp, ho, e1]
                rw [show a.eval (.tmp s) = vals a s from rfl, Sem.run_bind, run_storeAt ti (by rw [hns.1, hsz]; rfl) h1]
                rfl
              · exact hp.elim
            · exact hp.elim
          · rename_i hno
            obtain ⟨hu, hp⟩ := frcd_eq hp
            split at hp
            · rename_i hb
              have hb := Nat.eq_of_beq_eq_true hb
              split at hp
              · rename_i hone
                have hy := (opnd_VC inv.rel y).dem
                obtain ⟨c1, c2⟩ := cellsOf_V hy hu
                obtain ⟨w1, h1, h2⟩ := inv.put_at (ds := cellsOf (dem (opnd E y))) (us := (a.eval y).cells) hob e2 (by rw [hb]; exact hle) c1 (fun j c hj => by
                    obtain ⟨v, k1, k2⟩ := c2 j c hj; exact ⟨v, k1, .inl k2⟩) (fun j c v bb hj ho hv hbb => by
                    obtain ⟨v', k1, k2⟩ := c2 j c hj
                    rw [hv] at k1; cases k1
                    rw [k2.own_blk ho] at hbb; cases hbb) (fun v hv => by
                    obtain ⟨j, hj, hv⟩ := Array.mem_iff_getElem.1 hv
                    have hl : j < (cellsOf (dem (opnd E y))).length := by rw [← c1]; exact hj
                    obtain ⟨v', k1, k2⟩ := c2 j _ (List.getElem?_eq_getElem hl)
                    rw [Array.getElem?_eq_getElem hj, hv] at k1; cases k1
                    exact k2.one (List.all_eq_true.1 hone _ (List.getElem_mem hl)))
                intro next Q' hnx
                refine wp_skip ?_ (hnx _ _ _ _ _ _ _ _ (Post.ofV h2 (.undef _) hq.slots) hp)
                simp only [execOp, ho, e1]
                rw [Sem.run_bind, run_storeAt ti (by rw [c1]; exact hb) h1]
                rfl
              · exact hp.elim
            · exact hp.elim
        · exact hp.elim
      · exact hp.elim
    · exact hp.elim
  · exact hp.elim
end
end Ps
