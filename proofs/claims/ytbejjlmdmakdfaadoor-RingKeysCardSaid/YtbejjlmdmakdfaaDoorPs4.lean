/- PSem, part 4: the table of types; reading. -/
import Derived.Test.YtbejjlmdmakdfaaDoorPs3
set_option linter.all false
set_option linter.unusedVariables false
set_option linter.unusedSimpArgs false
set_option linter.unnecessarySimpa false
namespace Ps
open Go

def zeq : Value → PV → Bool
  | .bool b, .bool c => b == c
  | .int k n, .int k' n' => decide (k = k') && decide (n = n')
  | .string s, .str t => decide (s.data.toList = t)
  | .pointer none, .ptr none => true
  | .slice none 0 0, .slice 0 [] _ => true
  | .nilFunc, .nilF => true
  | _, .undef => true
  | _, _ => false
def zeqs : List Value → List PV → Bool
  | [], [] => true
  | v :: vs, p :: ps => zeq v p && zeqs vs ps
  | _, _ => false

theorem zeq_V {g : Gh} {w : World} : ∀ {v : Value} {p : PV}, zeq v p = true → V g w v p := by
  intro v p h
  unfold zeq at h
  split at h
  · simp at h; subst h; exact .bool _
  · simp at h; obtain ⟨rfl, rfl⟩ := h; exact .int _ _
  · rename_i s t
    have h := of_decide_eq_true h
    subst h
    have : Value.string s = strV s.data.toList := by simp [strV]
    rw [this]; exact .str _
  · exact .nilp
  · exact .snil _
  · exact .nilF
  · exact .undef _
  · cases h
theorem zeqs_V {g : Gh} {w : World} : ∀ {vs : List Value} {ps : List PV}, zeqs vs ps = true → vs.length = ps.length ∧ ∀ (j : Nat) (c : PV), ps[j]? = some c → ∃ v, vs[j]? = some v ∧ V g w v c
  | [], [], _ => ⟨rfl, fun j c h => by simp at h⟩
  | v :: vs, p :: ps, h => by
    simp only [zeqs, Bool.and_eq_true] at h
    obtain ⟨h1, h2⟩ := zeqs_V (g := g) (w := w) h.2
    refine ⟨by simp [h1], fun j c hj => ?_⟩
    cases j with
    | zero => simp at hj; subst hj; exact ⟨v, rfl, zeq_V h.1⟩
    | succ j => simpa using h2 j c (by simpa using hj)
  | [], _ :: _, h => by cases h
  | _ :: _, [], h => by cases h

def fieldsOk : List Field → List (Nat × Nat) → Bool
  | [], [] => true
  | f :: fs, (t, o) :: r => decide (f.type = t) && decide (f.offset = o) && !decide (f.name = "_") && fieldsOk fs r
  | _, _ => false
def kindOk (P : Program) (t : Nat) (k : TK) : Bool := match k, P.underlying t with
  | .bool, some .bool => true
  | .int k, some (.int k') => decide (k = k')
  | .str, some .string => true
  | .ptr, some (.pointer e) => Nat.blt 0 (psize P e)
  | .strct fs, some (.struct gs) => fieldsOk gs.toList fs && !P.stoodInHeld t && gs.toList.all fun f => (P.info? f.type).isSome
  | .arr n e, some (.array n' e') => decide (n = n') && decide (e = e')
  | .slice e, some (.slice e') => decide (e = e')
  | .map k e, some (.map k' e') => decide (k = k') && decide (e = e')
  | .fn, some (.func _ _ _) => true
  | .other, some (.struct _) => false
  | .other, some (.array _ _) => false
  | .other, some _ => true
  | _, _ => false
def tiOk (P : Program) (t : Nat) (i : TI) : Bool := match P.info? t with
  | some ti => decide (ti.size = i.sz) && decide (ti.bytes = i.bytes) && Nat.blt 0 i.sz && Nat.blt 0 i.bytes && decide (i.zero.length = i.sz) && kindOk P t i.k && (match ti.zero with
    | some z => zeqs z.cells.toList i.zero
    | none => false)
  | none => false
def ttOk (P : Program) (tt : TT) : Bool := tt.all fun p => tiOk P p.1 p.2

theorem tt_get_mem : ∀ {tt : TT} {t : Nat} {i : TI}, tt.get t = some i → (t, i) ∈ tt
  | [], _, _, h => by cases h
  | (s, j) :: r, t, i, h => by
    unfold TT.get at h
    split at h
    · rename_i hb
      cases h
      rw [Nat.eq_of_beq_eq_true hb]; exact List.mem_cons_self
    · exact List.mem_cons_of_mem _ (tt_get_mem h)

structure TIs (P : Program) (t : Nat) (i : TI) : Prop where
  ex : ∃ ti z, P.info? t = some ti ∧ ti.size = i.sz ∧ ti.bytes = i.bytes ∧ ti.zero = some z ∧ zeqs z.cells.toList i.zero = true
  pos : 0 < i.sz
  bpos : 0 < i.bytes
  len : i.zero.length = i.sz
  kind : kindOk P t i.k = true
theorem tis {P : Program} {tt : TT} (h : ttOk P tt = true) {t : Nat} {i : TI} (hg : tt.get t = some i) : TIs P t i := by
  have h1 := List.all_eq_true.1 h _ (tt_get_mem hg)
  unfold tiOk at h1
  split at h1
  · rename_i ti hti
    simp only [Bool.and_eq_true] at h1
    obtain ⟨⟨⟨⟨⟨⟨h1, h2⟩, h3⟩, h3'⟩, h4⟩, h5⟩, h6⟩ := h1
    split at h6
    · rename_i z hz
      exact ⟨⟨ti, z, hti, of_decide_eq_true h1, of_decide_eq_true h2, hz, h6⟩, by simpa [Nat.blt_eq] using h3, by simpa [Nat.blt_eq] using h3', of_decide_eq_true h4, h5⟩
    · cases h6
  · cases h1

section
variable {P : Program} {t : Nat} {i : TI}
theorem TIs.psize (h : TIs P t i) : Ps.psize P t = i.sz := by
  obtain ⟨ti, z, h1, h2, _⟩ := h.ex
  simp [Ps.psize, h1, h2]
theorem TIs.run_sizeOf (h : TIs P t i) (w : World) : (Go.sizeOf t).run P w = .ok i.sz w := by
  obtain ⟨ti, z, h1, h2, _⟩ := h.ex
  simp [Go.sizeOf, typeInfo, h1, h2]
theorem TIs.run_zero (h : TIs P t i) (w : World) : ∃ z, (zeroValue t).run P w = .ok z w ∧ zeqs z.cells.toList i.zero = true ∧ z.cells.size = i.sz := by
  obtain ⟨ti, z, h1, h2, h3, h4, h5⟩ := h.ex
  refine ⟨z, by simp [zeroValue, typeInfo, h1, h4], h5, ?_⟩
  have := (zeqs_V (g := ⟨[], fun _ _ => False⟩) (w := w) h5).1
  rw [← h.len, ← this, Array.length_toList]
theorem TIs.slice (h : TIs P t i) {e : Nat} (hk : i.k = .slice e) : P.underlying t = some (.slice e) := by
  have := h.kind
  rw [hk] at this
  unfold kindOk at this
  split at this <;> simp_all
theorem TIs.int (h : TIs P t i) {k : IntKind} (hk : i.k = .int k) : P.underlying t = some (.int k) := by
  have := h.kind
  rw [hk] at this
  unfold kindOk at this
  split at this <;> simp_all
theorem TIs.str (h : TIs P t i) (hk : i.k = .str) : P.underlying t = some .string := by
  have := h.kind
  rw [hk] at this
  unfold kindOk at this
  split at this <;> simp_all
theorem TIs.bool (h : TIs P t i) (hk : i.k = .bool) : P.underlying t = some .bool := by
  have := h.kind
  rw [hk] at this
  unfold kindOk at this
  split at this <;> simp_all
theorem TIs.ptr (h : TIs P t i) (hk : i.k = .ptr) : ∃ e, P.underlying t = some (.pointer e) ∧ 0 < Ps.psize P e := by
  have := h.kind
  rw [hk] at this
  unfold kindOk at this
  split at this <;> simp_all [Nat.blt_eq]
theorem TIs.arr (h : TIs P t i) {n e : Nat} (hk : i.k = .arr n e) : P.underlying t = some (.array n e) := by
  have := h.kind
  rw [hk] at this
  unfold kindOk at this
  split at this <;> simp_all
theorem TIs.strct (h : TIs P t i) {fs : List (Nat × Nat)} (hk : i.k = .strct fs) : ∃ gs : Array Field, P.underlying t = some (.struct gs) ∧ fieldsOk gs.toList fs = true ∧ P.stoodInHeld t = false := by
  have := h.kind
  rw [hk] at this
  unfold kindOk at this
  split at this <;> simp_all
theorem TIs.strctInfo (h : TIs P t i) {fs : List (Nat × Nat)} (hk : i.k = .strct fs) {gs : Array Field} (hu : P.underlying t = some (.struct gs)) : ∀ f ∈ gs.toList, (P.info? f.type).isSome = true := by
  have := h.kind
  simp only [hk, kindOk, hu, Bool.and_eq_true, List.all_eq_true] at this
  exact this.2
theorem fieldsOk_get : ∀ {gs : List Field} {fs : List (Nat × Nat)}, fieldsOk gs fs = true → gs.length = fs.length ∧
    ∀ (j ft off : Nat), fs[j]? = some (ft, off) → ∃ f, gs[j]? = some f ∧ f.type = ft ∧ f.offset = off ∧ f.name ≠ "_"
  | [], [], _ => ⟨rfl, fun j _ _ h => by simp at h⟩
  | f :: gs, (t, o) :: fs, h => by
    simp only [fieldsOk, Bool.and_eq_true] at h
    obtain ⟨⟨⟨h1, h2⟩, h3⟩, h4⟩ := h
    obtain ⟨k1, k2⟩ := fieldsOk_get h4
    refine ⟨by simp [k1], fun j ft off hj => ?_⟩
    cases j with
    | zero =>
      simp at hj; obtain ⟨rfl, rfl⟩ := hj
      exact ⟨f, rfl, of_decide_eq_true h1, of_decide_eq_true h2, by simpa using h3⟩
    | succ j => simpa using k2 j ft off (by simpa using hj)
  | [], _ :: _, h => by cases h
  | _ :: _, [], h => by cases h
theorem TIs.run_isAgg (h : TIs P t i) (w : World) : (isAgg t).run P w = .ok (isAggT i) w := by
  have hk := h.kind
  unfold kindOk at hk
  split at hk <;> simp_all [isAgg, isAggT, underlying]
end

/-- Cells in a row that read as pure ones. -/
def Cells (P : Program) (g : Gh) (w : World) (b off : Nat) (cs : List PV) : Prop :=
  ∀ (j : Nat) (c : PV), cs[j]? = some c → ∃ v, w.cell? ⟨b, off + j, none⟩ = some v ∧ VH P g w v c

theorem Addr.add_plain (b off j : Nat) : (⟨b, off, none⟩ : Addr).add j = ⟨b, off + j, none⟩ := by
  unfold Addr.add; split <;> simp_all

section
variable {P : Program} {g : Gh} {w : World} {b off : Nat} {cs : List PV}
theorem Cells.drop (h : Cells P g w b off cs) (n : Nat) : Cells P g w b (off + n) (cs.drop n) := fun j c hj => by
  rw [List.getElem?_drop] at hj
  obtain ⟨v, h1, h2⟩ := h (n + j) c hj
  exact ⟨v, by rw [Nat.add_assoc]; exact h1, h2⟩
theorem Cells.obj {H : PH} (h : RelH P g w H) {id : Nat} {o : PObj} (hid : H[id]? = some o) (hi : g.ι[id]? = some (some b)) : Cells P g w b 0 o.cs := fun j c hj => by
  obtain ⟨vs, h1, h2, h3⟩ := h.obj id b o hid hi
  obtain ⟨v, h4, h5⟩ := h3 j c hj
  exact ⟨v, by rw [cell?_cells h1, Nat.zero_add]; exact h4, h5⟩
theorem Cells.imm {u : Nat → Value} (hI : ∀ j c, cs[j]? = some c → g.I b (off + j) ∧ w.cell? ⟨b, off + j, none⟩ = some (u j)) (hV : ∀ j c, cs[j]? = some c → V g w (u j) c) :
    Cells P g w b off cs := fun j c hj => ⟨u j, (hI j c hj).2, .inl (hV j c hj)⟩
theorem run_load (a : Addr) {v : Value} (h : w.cell? a = some v) : (load a).run P w = .ok v w := by
  simp [load, Sem.run, h]

/-- A variable is read. -/
theorem run_pRead {T : Nat} {i : TI} (hT : TIs P T i) (hc : Cells P g w b off cs) {K : PV → Prop} (hp : pRead i cs K) :
    ∃ v p, (loadVar T ⟨b, off, none⟩).run P w = .ok v w ∧ V g w v p ∧ K p := by
  unfold pRead at hp
  unfold loadVar
  simp only [Sem.run_bind, hT.run_isAgg, Result.andThen_ok]
  cases ha : isAggT i with
  | false =>
    rw [ha] at hp
    cases cs with
    | nil => exact hp.elim
    | cons c cs =>
      obtain ⟨v, h1, h2⟩ := hc 0 c rfl
      refine ⟨v, dem c, ?_, h2.dem, by have hp' : frc (dem c) K := hp; rw [frc_eq] at hp'; exact hp'⟩
      simp only [Bool.false_eq_true, if_false]
      exact run_load _ h1
  | true =>
    rw [ha] at hp
    simp only at hp
    split at hp
    · rename_i hl
      have hl := Nat.le_of_ble_eq_true hl
      have hex : ∀ j : Nat, ∃ v : Value, j < i.sz → w.cell? ⟨b, off + j, none⟩ = some v ∧ VH P g w v (cs.getD j .undef) := fun j => by
        by_cases hj : j < i.sz
        · obtain ⟨v, h1, h2⟩ := hc j (cs[j]'(by omega)) (List.getElem?_eq_getElem (by omega))
          exact ⟨v, fun _ => ⟨h1, by rw [List.getD_eq_getElem?_getD, List.getElem?_eq_getElem (show j < cs.length by omega)]; exact h2⟩⟩
        · exact ⟨undef, fun h => absurd h hj⟩
      obtain ⟨f, hf⟩ := Classical.axiomOfChoice hex
      have hr := run_loadCells (P := P) (w := w) ⟨b, off, none⟩ i.sz f (fun j hj => by rw [Addr.add_plain]; exact (hf j hj).1)
      refine ⟨.agg ((List.range i.sz).map f).toArray, _, ?_, ?_, hp⟩
      · simp only [if_true, Sem.run_bind, hT.run_sizeOf, Result.andThen_ok, hr]
        rfl
      · refine .agg _ _ ?_ fun j c hj => ?_
        · simp; omega
        · rw [List.getElem?_map] at hj
          obtain ⟨c', hc', rfl⟩ := Option.map_eq_some_iff.1 hj
          have hj' : j < i.sz := by
            have := (List.getElem?_eq_some_iff.1 hc').1
            simp at this; omega
          rw [List.getElem?_take, if_pos hj'] at hc'
          have := (hf j hj').2
          rw [List.getD_eq_getElem?_getD, hc'] at this
          have h3 := VH.dem this
          simp only [Option.getD_some] at h3
          rw [Array.getD_eq_getD_getElem?]
          simpa [hj'] using h3
    · exact hp.elim
end
end Ps
