/- PSem, part 11: what makes memory. -/
import Derived.Test.YtbejjlmdmakdfaaDoorPs10
set_option linter.all false
set_option linter.unusedVariables false
set_option linter.unusedSimpArgs false
set_option linter.unnecessarySimpa false
set_option linter.unusedSimpArgs false
set_option linter.unusedVariables false
namespace Ps
open Go
section
variable {P : Program} {tt : TT} {imm : List Nat} {g0 : Gh} {w0 : World} {H0 : PH} {F0 : Nat → Prop} {N : Nat} {g : Gh} {w : World} {a : Act} {E : Env} {H : PH} {q : Q}

theorem cellOwn_push {w1 : World} {o : Obj} (hh : RelH P g w H) (hp : Pushes w w1 o) {I' : Nat → Nat → Prop} {bb : Nat} (h : cellOwn ⟨g.ι, I'⟩ w1 H bb) : cellOwn g w H bb := by
  obtain ⟨id, j, o, c, b0, v, h1, h2, h3, h4, h5, h6⟩ := h
  exact ⟨id, j, o, c, b0, v, h1, h2, h3, h4, (cell?_of_heap (hp.old (hh.lt h4)) j).symm.trans h5, h6⟩

theorem imm_push {w1 : World} {vs : Array Value} {e : Nat} {fr : Nat × Nat} (hh : RelH P g w H) (hp : Pushes w w1 (.cells vs e fr)) {cs : List PV} {k : Nat} (hk : cs.length ≤ k)
    (hv : ∀ (j : Nat) (c : PV), cs[j]? = some c → ∃ v, vs[j]? = some v ∧ V g w v c) : Imm ⟨g.ι, addI g.I w.heap.size k⟩ w1 w.heap.size 0 cs := by
  have hkeep := keeps_push hh hp k
  have hex : ∀ j : Nat, ∃ v : Value, ∀ c, cs[j]? = some c → vs[j]? = some v ∧ V g w v c := fun j => by
    cases h : cs[j]? with
    | none => exact ⟨undef, fun c h => by cases h⟩
    | some c => obtain ⟨v, h1, h2⟩ := hv j c h; exact ⟨v, fun c' e' => by cases e'; exact ⟨h1, h2⟩⟩
  obtain ⟨u, hu⟩ := Classical.axiomOfChoice hex
  refine ⟨u, fun j c hj => ⟨.inr ⟨rfl, ?_⟩, ?_⟩, fun j c hj => (hu j c hj).2.mono hkeep⟩
  · have := (List.getElem?_eq_some_iff.1 hj).1; omega
  · rw [cell?_cells hp.new, Nat.zero_add]; exact (hu j c hj).1

theorem no_slot_new (inv : Inv P g0 w0 H0 F0 N g w a E H) {b : Nat} (hb : w.heap.size ≤ b) : ∀ t i, ¬ ownAt (vals a t) (E.get t) i b := fun t i h => by
  have := (inv.rel.own_lt h).1; omega
theorem no_cell_new (hh : RelH P g w H) {b : Nat} (hb : w.heap.size ≤ b) : ¬ cellOwn g w H b := fun ⟨id, j, h⟩ => by
  obtain ⟨n, cs, e, u, hf⟩ := hh.cown h
  have := ownF_lt hf; omega

/-- A row of its own is made. -/
theorem post_own (inv : Inv P g0 w0 H0 F0 N g w a E H) (hq : QRel a g w q) {w1 : World} {vs : Array Value} {e : Nat} (hp : Pushes w w1 (.cells vs e (0, 0))) {cs : List PV} {n cap : Nat}
    (hv : ∀ (j : Nat) (c : PV), cs[j]? = some c → ∃ v, vs[j]? = some v ∧ V g w v c) (hn : n ≤ cap) (hsz : 0 < psize P e) (hc : cs.length = n * psize P e) (hs : vs.size = cap * psize P e) :
    Post P g0 w0 H0 F0 N a ⟨g.ι, addI g.I w.heap.size cs.length⟩ w1 E q H (.slice (some ⟨w.heap.size, 0, none⟩) n cap) (.slice n cs (some e)) none := by
  have hh := inv.rel.h
  have hle : cs.length ≤ vs.size := by rw [hc, hs]; exact Nat.mul_le_mul_right _ hn
  have himm := imm_push hh hp (Nat.le_refl cs.length) hv
  have hinv := inv.push hp cs.length hle
  have hf : OwnF P ⟨g.ι, addI g.I w.heap.size cs.length⟩ w1 (.slice (some ⟨w.heap.size, 0, none⟩) n cap) n cs e w.heap.size :=
    ⟨⟨cap, vs, rfl, hn, hp.new, hsz, hc, hs⟩, fun id hi => Nat.lt_irrefl _ (hh.lt hi), fun o ho h => by
      rcases h with h | ⟨_, h⟩
      · exact Nat.lt_irrefl _ (hh.ilt h)
      · omega⟩
  refine ⟨hinv, .inr ⟨n, cs, e, _, rfl, himm.vslice hn, hf⟩, fun i b h => ?_, fun i i' b h1 h2 => h1.1.trans h2.1.symm, hq.keep (fun id b hi => ⟨hi, hp.old (hh.lt hi)⟩), fun _ h => by cases h⟩
  have hb : w.heap.size = b := by have := h.2.2; simpa [blk] using this
  subst hb
  exact ⟨no_slot_new inv (Nat.le_refl _), fun h => no_cell_new hh (Nat.le_refl _) (cellOwn_push hh hp h), .inl inv.step.size⟩

/-- Data are made, and looked at. -/
theorem post_imm (inv : Inv P g0 w0 H0 F0 N g w a E H) (hq : QRel a g w q) {w1 : World} {vs : Array Value} {e : Nat} {fr : Nat × Nat} (hp : Pushes w w1 (.cells vs e fr)) {cs : List PV} (hl : cs.length ≤ vs.size)
    (hv : ∀ (j : Nat) (c : PV), cs[j]? = some c → ∃ v, vs[j]? = some v ∧ V g w v c) {v : Value} {p : PV}
    (hr : Imm ⟨g.ι, addI g.I w.heap.size cs.length⟩ w1 w.heap.size 0 cs → V ⟨g.ι, addI g.I w.heap.size cs.length⟩ w1 v p) :
    Post P g0 w0 H0 F0 N a ⟨g.ι, addI g.I w.heap.size cs.length⟩ w1 E q H v p none :=
  Post.ofV (inv.push hp cs.length hl) (hr (imm_push inv.rel.h hp (Nat.le_refl _) hv)) (hq.keep (fun id b hi => ⟨hi, hp.old (inv.rel.h.lt hi)⟩))

theorem post_obj (inv : Inv P g0 w0 H0 F0 N g w a E H) (hq : QRel a g w q) {w1 : World} {vs : Array Value} {T : Nat} (hp : Pushes w w1 (.cells vs T (0, 0))) {cs : List PV} (hs : vs.size = cs.length)
    (hv : ∀ (j : Nat) (c : PV), cs[j]? = some c → ∃ v, vs[j]? = some v ∧ V g w v c) :
    Post P g0 w0 H0 F0 N a ⟨g.ι ++ [some w.heap.size], g.I⟩ w1 E (qslots q) (H ++ [⟨T, cs, 0⟩]) (.pointer (some ⟨w.heap.size, 0, none⟩)) (.ptr (some (H.length, 0))) none :=
  Post.ofV (inv.pushObj hp hs hv) (.ptr _ _ _ (by rw [← inv.rel.h.len]; simp)) hq.slots

/-- The cells of a value. -/
theorem cellsOf_V {v : Value} {p : PV} (h : V g w v p) (hp : p ≠ .undef) : v.cells.size = (cellsOf p).length ∧ ∀ (j : Nat) (c : PV), (cellsOf p)[j]? = some c → ∃ u, v.cells[j]? = some u ∧ V g w u c := by
  have one : ∀ {v : Value} {p : PV}, v.cells = #[v] → cellsOf p = [p] → V g w v p → v.cells.size = (cellsOf p).length ∧ ∀ (j : Nat) (c : PV), (cellsOf p)[j]? = some c → ∃ u, v.cells[j]? = some u ∧ V g w u c := by
    intro v p h1 h2 h3
    rw [h1, h2]
    refine ⟨rfl, fun j c hj => ?_⟩
    cases j with
    | zero => simp at hj; subst hj; exact ⟨v, rfl, h3⟩
    | succ j => simp at hj
  cases h with
  | undef v => exact absurd rfl hp
  | agg vs cs h1 h2 =>
    refine ⟨h1, fun j c hj => ?_⟩
    have hj' : cs[j]? = some c := hj
    have hlt : j < vs.size := by rw [h1]; exact (List.getElem?_eq_some_iff.1 hj').1
    have := h2 j c hj'
    rw [Array.getD_eq_getD_getElem?, Array.getElem?_eq_getElem hlt] at this
    exact ⟨vs[j], Array.getElem?_eq_getElem hlt, this⟩
  | snil o =>
    refine ⟨rfl, fun j c hj => ?_⟩
    cases j with
    | zero => simp [cellsOf] at hj; subst hj; exact ⟨_, rfl, .snil none⟩
    | succ j => simp [cellsOf] at hj
  | slice b off n cap cs u hn h1 h2 => exact one rfl rfl (.slice b off n cap cs u hn h1 h2)
  | bool b => exact one rfl rfl (.bool b)
  | int k n => exact one rfl rfl (.int k n)
  | str s => exact one rfl rfl (.str s)
  | nilp => exact one rfl rfl .nilp
  | ptr id b off h => exact one rfl rfl (.ptr id b off h)
  | elem b off cs u h1 h2 => exact one rfl rfl (.elem b off cs u h1 h2)
  | sref id b off n cap h hn => exact one rfl rfl (.sref id b off n cap h hn)
  | func f x y ps qs h1 h2 h3 h4 => exact one rfl rfl (.func f x y ps qs h1 h2 h3 h4)
  | nilF => exact one rfl rfl .nilF
  | nilS => exact one rfl rfl .nilS

theorem op_alloc {T : Nat} {o : Oper} {K : KK} (hT : ttOk P tt = true) (ho : o.op = .alloc T) (inv : Inv P g0 w0 H0 F0 N g w a E H) (hq : QRel a g w q) (hp : pOp P tt imm E q H o K) :
    OpS P g0 w0 H0 F0 N a w o K := by
  simp only [pOp, ho] at hp
  split at hp
  · rename_i i hi
    obtain ⟨z, h1, h2, h3⟩ := (tis hT hi).run_zero w
    obtain ⟨h4, h5⟩ := zeqs_V (g := g) (w := w) h2
    intro next Q' hn
    refine wp_value (w' := w.alloc (.cells z.cells T (0, 0))) (v := .pointer (some ⟨w.heap.size, 0, none⟩)) ?_ (hn _ _ _ _ _ _ _ _ (post_obj inv hq (Pushes.alloc w _) (by rw [← h4, Array.length_toList]) (fun j c hj => by
      obtain ⟨v, k1, k2⟩ := h5 j c hj
      rw [Array.getElem?_toList] at k1
      exact ⟨v, k1, k2⟩)) hp)
    simp [execOp, ho, Instr.alloc, h1, newVar, newRow]
  · exact hp.elim

theorem op_box {T : Nat} {x : Operand} {o : Oper} {K : KK} (ho : o.op = .box T x) (inv : Inv P g0 w0 H0 F0 N g w a E H) (hq : QRel a g w q) (hp : pOp P tt imm E q H o K) :
    OpS P g0 w0 H0 F0 N a w o K := by
  simp only [pOp, ho] at hp
  obtain ⟨hu, hp'⟩ := frcd_eq hp
  have hx := (opnd_VC inv.rel x).dem
  have hrun : (execOp a.eval o).run P w = .ok (.value (.pointer (some ⟨w.heap.size, 0, none⟩))) (w.alloc (.cells (a.eval x).cells T (0, 0))) := by
    simp [execOp, ho, Instr.box, newVar, newRow]
  obtain ⟨h1, h2⟩ := cellsOf_V hx hu
  intro next Q' hn
  split at hp'
  · exact wp_value hrun (hn _ _ _ _ _ _ _ _ (post_imm inv hq (Pushes.alloc w _) (by omega) h2 (fun h => h.velem)) hp')
  · exact wp_value hrun (hn _ _ _ _ _ _ _ _ (post_obj inv hq (Pushes.alloc w _) h1 h2) hp')
end
end Ps
