/- PSem, part 5: the operations that do not write. -/
import Derived.Test.YtbejjlmdmakdfaaDoorPs4
set_option linter.all false
set_option linter.unusedVariables false
set_option linter.unusedSimpArgs false
set_option linter.unnecessarySimpa false
set_option linter.unusedSimpArgs false
set_option linter.unusedVariables false
namespace Ps
open Go

def SrcIs (a : Act) (g : Gh) (w : World) (v : Value) : Src → Prop
  | .slot t => v = vals a t
  | .cell id off => ∃ b, g.ι[id]? = some (some b) ∧ w.cell? ⟨b, off, none⟩ = some v
def QRel (a : Act) (g : Gh) (w : World) (q : Q) : Prop := ∀ p ∈ q, SrcIs a g w (vals a p.1) p.2

structure Post (P : Program) (g0 : Gh) (w0 : World) (H0 : PH) (F0 : Nat → Prop) (N : Nat) (a : Act) (g : Gh) (w : World) (E : Env) (q : Q) (H : PH) (v : Value) (p : PV) (s : Option Src) : Prop where
  inv : Inv P g0 w0 H0 F0 N g w a E H
  vc : VC P g w v p
  ow : ∀ i b, ownAt v p i b → (∀ t i', ¬ ownAt (vals a t) (E.get t) i' b) ∧ ¬ cellOwn g w H b ∧ (w0.heap.size ≤ b ∨ F0 b)
  inj : ∀ i i' b, ownAt v p i b → ownAt v p i' b → i = i'
  qr : QRel a g w q
  src : ∀ x, s = some x → SrcIs a g w v x

theorem qdel_mem {d : Nat} : ∀ {q : Q} {p : Nat × Src}, p ∈ qdel d q → p ∈ q ∧ p.1 ≠ d ∧ p.2 ≠ .slot d
  | [], _, h => by cases h
  | (x, s) :: q, p, h => by
    unfold qdel at h
    split at h
    · obtain ⟨h1, h2⟩ := qdel_mem h; exact ⟨List.mem_cons_of_mem _ h1, h2⟩
    · rename_i hx
      have hx : x ≠ d := fun e => by rw [e] at hx; simp at hx
      split at h
      · rename_i t
        split at h
        · obtain ⟨h1, h2⟩ := qdel_mem h; exact ⟨List.mem_cons_of_mem _ h1, h2⟩
        · rename_i ht
          have ht : t ≠ d := fun e => by rw [e] at ht; simp at ht
          rcases List.mem_cons.1 h with rfl | h
          · exact ⟨List.mem_cons_self, hx, by simpa using ht⟩
          · obtain ⟨h1, h2⟩ := qdel_mem h; exact ⟨List.mem_cons_of_mem _ h1, h2⟩
      · rcases List.mem_cons.1 h with rfl | h
        · exact ⟨List.mem_cons_self, hx, by simp⟩
        · obtain ⟨h1, h2⟩ := qdel_mem h; exact ⟨List.mem_cons_of_mem _ h1, h2⟩
theorem qslots_mem : ∀ {q : Q} {p : Nat × Src}, p ∈ qslots q → p ∈ q ∧ ∃ t, p.2 = .slot t
  | [], _, h => by cases h
  | (x, s) :: q, p, h => by
    unfold qslots at h
    split at h
    · rcases List.mem_cons.1 h with rfl | h
      · exact ⟨List.mem_cons_self, _, rfl⟩
      · obtain ⟨h1, h2⟩ := qslots_mem h; exact ⟨List.mem_cons_of_mem _ h1, h2⟩
    · obtain ⟨h1, h2⟩ := qslots_mem h; exact ⟨List.mem_cons_of_mem _ h1, h2⟩
theorem qget_mem : ∀ {q : Q} {t : Nat} {s : Src}, qget q t = some s → (t, s) ∈ q
  | [], _, _, h => by cases h
  | (x, s) :: q, t, s', h => by
    unfold qget at h
    split at h
    · rename_i hx; cases h; rw [Nat.eq_of_beq_eq_true hx]; exact List.mem_cons_self
    · exact List.mem_cons_of_mem _ (qget_mem h)

section
variable {P : Program} {tt : TT} {g0 : Gh} {w0 : World} {H0 : PH} {F0 : Nat → Prop} {N : Nat} {g : Gh} {w : World} {a : Act} {E : Env} {H : PH} {q : Q} {v : Value} {p : PV} {s : Option Src}

theorem QRel.del (h : QRel a g w q) (d : Nat) : QRel a g w (qdel d q) := fun p hp => h p (qdel_mem hp).1
theorem QRel.slots (h : QRel a g w q) {g' : Gh} {w' : World} : QRel a g' w' (qslots q) := fun p hp => by
  obtain ⟨h1, t, h2⟩ := qslots_mem hp
  have := h p h1
  rw [h2] at this ⊢
  exact this
theorem QRel.nil : QRel a g w [] := fun p hp => by cases hp
theorem QRel.keep (h : QRel a g w q) {g' : Gh} {w' : World} (hι : ∀ (id b : Nat), g.ι[id]? = some (some b) → g'.ι[id]? = some (some b) ∧ w'.heap[b]? = w.heap[b]?) : QRel a g' w' q := fun p hp => by
  have := h p hp
  cases e : p.2 with
  | slot t => rw [e] at this; exact this
  | cell id off =>
    rw [e] at this
    obtain ⟨b, h1, h2⟩ := this
    exact ⟨b, (hι id b h1).1, (cell?_of_heap (hι id b h1).2 off).trans h2⟩

theorem Post.ofV (inv : Inv P g0 w0 H0 F0 N g w a E H) (hv : V g w v p) (hq : QRel a g w q) : Post P g0 w0 H0 F0 N a g w E q H v p none :=
  ⟨inv, hv.vc, fun i b h => absurd h (no_own hv i b), fun i _ b h => absurd h (no_own hv i b), hq, fun _ h => by cases h⟩

/-- A value is put into its slot. -/
theorem Post.next (h : Post P g0 w0 H0 F0 N a g w E q H v p s) {d : Option Nat} {K : Env → Q → Prop} (hp : pPut N d p s E q K) :
    ∃ E' q', Inv P g0 w0 H0 F0 N g w (a.put d v) E' H ∧ QRel (a.put d v) g w q' ∧ K E' q' := by
  cases d with
  | none => exact ⟨E, q, h.inv, h.qr, hp⟩
  | some d =>
    simp only [pPut] at hp
    split at hp
    · rename_i hd
      have hd : d < N := by simpa [Nat.blt_eq] using hd
      have hd' : d < a.tmps.size := by rw [h.inv.size]; exact hd
      refine ⟨_, _, h.inv.put hd h.vc (fun i b ho => ⟨fun t i' _ => (h.ow i b ho).1 t i', (h.ow i b ho).2⟩) h.inj, ?_, hp⟩
      intro x hx
      have hold : ∀ y ∈ qdel d q, SrcIs (a.put (some d) v) g w (vals (a.put (some d) v) y.1) y.2 := fun y hy => by
        obtain ⟨h1, h2, h3⟩ := qdel_mem hy
        have := h.qr y h1
        rw [vals_put _ _ _ _ hd', if_neg h2]
        cases e : y.2 with
        | slot t =>
          rw [e] at this h3
          have ht : t ≠ d := fun e' => h3 (by rw [e'])
          show vals a y.1 = vals (a.put (some d) v) t
          rw [vals_put _ _ _ _ hd', if_neg ht]; exact this
        | cell id off => rw [e] at this; exact this
      cases s with
      | none => exact hold x hx
      | some s =>
        rcases List.mem_cons.1 hx with rfl | hx
        · show SrcIs _ g w (vals (a.put (some d) v) d) s
          rw [vals_put _ _ _ _ hd', if_pos rfl]
          have := h.src s rfl
          cases s with
          | slot t =>
            show v = vals (a.put (some d) v) t
            rw [vals_put _ _ _ _ hd']
            by_cases e : t = d
            · rw [if_pos e]
            · rw [if_neg e]; exact this
          | cell id off => exact this
        · exact hold x hx
    · exact hp.elim

/-! ### what a pure value says of a value -/
theorem ofC0_V (v : Value) : V g w v (ofC0 v) := by
  cases v with
  | bool b => exact .bool b
  | int k n => exact .int k n
  | string s =>
    have : Value.string s = strV s.data.toList := by simp [strV]
    show V g w (.string s) (.str s.data.toList)
    rw [this]; exact .str _
  | pointer a => cases a with
    | none => exact .nilp
    | some a => exact .undef _
  | slice a n c =>
    cases a with
    | some a => exact .undef _
    | none => cases n with
      | zero => cases c with
        | zero => exact .nilS
        | succ c => exact .undef _
      | succ n => exact .undef _
  | nilFunc => exact .nilF
  | _ => exact .undef _
theorem ofC_V (v : Value) : V g w v (ofC v) := by
  cases v with
  | agg vs =>
    refine .agg vs _ (by simp) fun j c hj => ?_
    rw [List.getElem?_map] at hj
    obtain ⟨u, hu, rfl⟩ := Option.map_eq_some_iff.1 hj
    rw [Array.getElem?_toList] at hu
    rw [Array.getD_eq_getD_getElem?, hu]
    exact ofC0_V u
  | _ => exact ofC0_V _
theorem opnd_VC (hr : Rel P g w (vals a) E H) (x : Operand) : VC P g w (a.eval x) (opnd E x) := by
  cases x with
  | tmp t => exact hr.e t
  | const v => exact (ofC_V v).vc
  | func f => exact V.vc (.func f #[] #[] [] [] rfl rfl (fun j c h => by simp at h) (fun j c h => by simp at h))
  | global _ => exact V.vc (.undef _)
theorem VC.dem' (h : VC P g w v p) (hp : ∀ cs, p ≠ .tup cs) : V g w v (Ps.dem p) := h.dem
theorem VC.V' (h : VC P g w v p) (hp : ∀ cs, p ≠ .tup cs) (ho : isOwn p = false) : V g w v p := by
  cases p with
  | tup cs => exact absurd rfl (hp cs)
  | slice n cs o =>
    cases o with
    | none => exact VC.dem' h hp
    | some e => cases ho
  | _ => exact VC.dem' h hp
theorem VC.int {k : IntKind} {n : Int} (h : VC P g w v (.int k n)) : v = .int k n := by
  have := h.V' (by simp) rfl
  cases this; rfl
theorem VC.bool {b : Bool} (h : VC P g w v (.bool b)) : v = .bool b := by
  have := h.V' (by simp) rfl
  cases this; rfl
theorem VC.str {b : List UInt8} (h : VC P g w v (.str b)) : v = strV b := by
  have := h.V' (by simp) rfl
  cases this; rfl
theorem VC.slice {n : Nat} {cs : List PV} {o : Option Nat} (h : VC P g w v (.slice n cs o)) : V g w v (.slice n cs none) := VC.dem' h (by simp)

theorem wp_value {o : Oper} {w' : World} {next : Act → World → Prop} {Q' : Exit → Act → World → Prop} (h : (execOp a.eval o).run P w = .ok (.value v) w') (hn : next (a.put o.dst v) w') :
    o.wp P a w next Q' := by
  unfold Oper.wp
  rw [h]; exact hn
theorem wp_skip {o : Oper} {w' : World} {next : Act → World → Prop} {Q' : Exit → Act → World → Prop} (h : (execOp a.eval o).run P w = .ok .skip w') (hn : next (a.put o.dst undef) w') :
    o.wp P a w next Q' := by
  unfold Oper.wp
  rw [h]; exact hn
end

/-! ### numbers and their like -/
section
variable {P : Program} {tt : TT} {g : Gh} {w : World} {vx vy : Value} {x y : PV} {K : PV → Prop}

theorem ikeq' {k k' : IntKind} {A : Prop} (h : ikeq k k' A) : k = k' ∧ A := ikeq_eq k k' A h

theorem run_bin_int (op : BinOp) (T : Nat) (xo yo : Operand) (k k' : IntKind) (m n : Int) (hp : pBin tt op T (.int k m) (.int k' n) K) :
    ∃ v p, (do eqGuard op T xo yo (.int k m) (.int k' n); binOp op T (.int k m) (.int k' n) : Sem Value).run P w = .ok v w ∧ V g w v p ∧ K p := by
  have he : (eqGuard op T xo yo (.int k m) (.int k' n)).run P w = .ok () w := by cases op <;> simp [eqGuard]
  simp only [Sem.run_bind, he, Result.andThen_ok]
  cases op
  case shl =>
    refine ⟨_, _, ?_, .int _ _, hp.2⟩
    have : ¬ n < 0 := by have := hp.1; omega
    simp [binOp, Op.shift, this, ishl]
  case shr =>
    refine ⟨_, _, ?_, .int _ _, hp.2⟩
    have : ¬ n < 0 := by have := hp.1; omega
    simp [binOp, Op.shift, this, ishr]
  case quo =>
    obtain ⟨rfl, h0, hk⟩ := ikeq' hp
    exact ⟨.int k (k.wrap (m.tdiv n)), _, by simp [binOp, Op.intDiv, h0], .int _ _, hk⟩
  case rem =>
    obtain ⟨rfl, h0, hk⟩ := ikeq' hp
    exact ⟨.int k (m.tmod n), _, by simp [binOp, Op.intDiv, h0], .int _ _, hk⟩
  case eql =>
    obtain ⟨rfl, h1, h2⟩ := ikeq' hp
    by_cases h : m = n
    · exact ⟨.bool true, _, by simp [binOp, Op.intCmp, h], .bool _, h1 h⟩
    · exact ⟨.bool false, _, by simp [binOp, Op.intCmp, h], .bool _, h2 h⟩
  case neq =>
    obtain ⟨rfl, h1, h2⟩ := ikeq' hp
    by_cases h : m = n
    · exact ⟨.bool false, _, by simp [binOp, Op.intCmp, h], .bool _, h1 h⟩
    · exact ⟨.bool true, _, by simp [binOp, Op.intCmp, h], .bool _, h2 h⟩
  case lss =>
    obtain ⟨rfl, h1, h2⟩ := ikeq' hp
    by_cases h : m < n
    · exact ⟨.bool true, _, by simp [binOp, Op.intCmp, h], .bool _, h1 h⟩
    · exact ⟨.bool false, _, by simp [binOp, Op.intCmp]; omega, .bool _, h2 h⟩
  case leq =>
    obtain ⟨rfl, h1, h2⟩ := ikeq' hp
    by_cases h : m ≤ n
    · exact ⟨.bool true, _, by simp [binOp, Op.intCmp, h], .bool _, h1 h⟩
    · exact ⟨.bool false, _, by simp [binOp, Op.intCmp]; omega, .bool _, h2 h⟩
  case gtr =>
    obtain ⟨rfl, h1, h2⟩ := ikeq' hp
    by_cases h : n < m
    · exact ⟨.bool true, _, by simp [binOp, Op.intCmp, h], .bool _, h1 h⟩
    · exact ⟨.bool false, _, by simp [binOp, Op.intCmp]; omega, .bool _, h2 h⟩
  case geq =>
    obtain ⟨rfl, h1, h2⟩ := ikeq' hp
    by_cases h : n ≤ m
    · exact ⟨.bool true, _, by simp [binOp, Op.intCmp, h], .bool _, h1 h⟩
    · exact ⟨.bool false, _, by simp [binOp, Op.intCmp]; omega, .bool _, h2 h⟩
  case add =>
    obtain ⟨rfl, hk⟩ := ikeq' hp
    exact ⟨.int k (k.wrap (m + n)), _, by simp [binOp, Op.intArith], .int _ _, hk⟩
  case sub =>
    obtain ⟨rfl, hk⟩ := ikeq' hp
    exact ⟨.int k (k.wrap (m - n)), _, by simp [binOp, Op.intArith], .int _ _, hk⟩
  case mul =>
    obtain ⟨rfl, hk⟩ := ikeq' hp
    exact ⟨.int k (k.wrap (m * n)), _, by simp [binOp, Op.intArith], .int _ _, hk⟩
  case and =>
    obtain ⟨rfl, hk⟩ := ikeq' hp
    exact ⟨.int k (ibits .and k m n), _, by simp [binOp, Op.intBits, ibits], .int _ _, hk⟩
  case or =>
    obtain ⟨rfl, hk⟩ := ikeq' hp
    exact ⟨.int k (ibits .or k m n), _, by simp [binOp, Op.intBits, ibits], .int _ _, hk⟩
  case xor =>
    obtain ⟨rfl, hk⟩ := ikeq' hp
    exact ⟨.int k (ibits .xor k m n), _, by simp [binOp, Op.intBits, ibits], .int _ _, hk⟩
  case andNot =>
    obtain ⟨rfl, hk⟩ := ikeq' hp
    exact ⟨.int k (ibits .andNot k m n), _, by simp [binOp, Op.intBits, ibits], .int _ _, hk⟩

theorem strV_eq (s : List UInt8) : strV s = .string ⟨⟨s⟩⟩ := rfl
theorem toList_mk (s : List UInt8) : (⟨⟨s⟩⟩ : ByteArray).toList = s := by rw [ByteArray.toList_eq]
theorem run_bin_str (op : BinOp) (T : Nat) (xo yo : Operand) (s t : List UInt8) (hp : pBin tt op T (.str s) (.str t) K) :
    ∃ v p, (do eqGuard op T xo yo (strV s) (strV t); binOp op T (strV s) (strV t) : Sem Value).run P w = .ok v w ∧ V g w v p ∧ K p := by
  have he : (eqGuard op T xo yo (strV s) (strV t)).run P w = .ok () w := by cases op <;> simp [eqGuard, strV]
  simp only [Sem.run_bind, he, Result.andThen_ok]
  cases op
  case add =>
    refine ⟨strV (s ++ t), _, ?_, .str _, hp.2⟩
    have h1 := hp.1
    have hm : IntKind.i64.max = 9223372036854775807 := by decide
    have : ¬ (IntKind.i64.max < (s.length : Int) + (t.length : Int)) := by rw [hm]; omega
    have hs : ((⟨⟨s⟩⟩ : ByteArray).size : Int) = s.length := rfl
    have ht : ((⟨⟨t⟩⟩ : ByteArray).size : Int) = t.length := rfl
    simp only [binOp, strV_eq, Op.stringOp]
    rw [if_neg]
    · show Result.ok _ w = Result.ok _ w
      congr 2
    · simp only [Int.natCast_add, hs, ht]; omega
  case eql =>
    by_cases h : s = t
    · exact ⟨.bool true, _, by simp [binOp, strV_eq, Op.stringOp, toList_mk, h], .bool _, hp.1 h⟩
    · exact ⟨.bool false, _, by simp [binOp, strV_eq, Op.stringOp, toList_mk, h], .bool _, hp.2 h⟩
  case neq =>
    by_cases h : s = t
    · exact ⟨.bool false, _, by simp [binOp, strV_eq, Op.stringOp, toList_mk, h], .bool _, hp.1 h⟩
    · exact ⟨.bool true, _, by simp [binOp, strV_eq, Op.stringOp, toList_mk, h], .bool _, hp.2 h⟩
  all_goals exact hp.elim
end
end Ps
