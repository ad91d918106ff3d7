/- PSem, part 0: pure values, how they lie in memory, and what it means that a call answers so. -/
import Derived.WalkKit
set_option linter.all false
set_option linter.unusedVariables false
set_option linter.unusedSimpArgs false
set_option linter.unnecessarySimpa false
namespace Ps
open Go

inductive PV where
  | bool (b : Bool)
  | int (k : IntKind) (n : Int)
  | str (s : List UInt8)
  | ptr (p : Option (Nat × Nat))
  | elem (cs : List PV)
  | slice (n : Nat) (cs : List PV) (own : Option Nat)
  | sref (id off n cap : Nat)
  | func (f : Nat) (first caps : List PV)
  | nilF
  | agg (cs : List PV)
  | tup (cs : List PV)
  | undef
  | nilS
  deriving Inhabited

structure PObj where
  T : Nat
  cs : List PV
  ver : Nat

abbrev PH := List PObj
abbrev Env := List (Nat × PV)

def Env.get : Env → Nat → PV
  | [], _ => .undef
  | (t, v) :: E, s => match Nat.beq t s with
    | true => v
    | false => Env.get E s

theorem Env.get_cons (t : Nat) (v : PV) (E : Env) (s : Nat) : Env.get ((t, v) :: E) s = if t = s then v else Env.get E s := by
  show (match Nat.beq t s with | true => v | false => Env.get E s) = _
  by_cases h : t = s
  · subst h; simp
  · have : Nat.beq t s = false := by
      cases hb : Nat.beq t s
      · rfl
      · exact absurd (Nat.eq_of_beq_eq_true hb) h
    rw [this]; simp [h]

structure Gh where
  ι : List (Option Nat)
  I : Nat → Nat → Prop

def strV (s : List UInt8) : Value := .string ⟨s.toArray⟩

inductive V (g : Gh) (w : World) : Value → PV → Prop
  | undef (v : Value) : V g w v .undef
  | bool (b : Bool) : V g w (.bool b) (.bool b)
  | int (k : IntKind) (n : Int) : V g w (.int k n) (.int k n)
  | str (s : List UInt8) : V g w (strV s) (.str s)
  | nilp : V g w (.pointer none) (.ptr none)
  | ptr (id b off : Nat) (h : g.ι[id]? = some (some b)) : V g w (.pointer (some ⟨b, off, none⟩)) (.ptr (some (id, off)))
  | elem (b off : Nat) (cs : List PV) (u : Nat → Value) (hI : ∀ j c, cs[j]? = some c → g.I b (off + j) ∧ w.cell? ⟨b, off + j, none⟩ = some (u j))
      (hV : ∀ j c, cs[j]? = some c → V g w (u j) c) : V g w (.pointer (some ⟨b, off, none⟩)) (.elem cs)
  | snil (o : Option Nat) : V g w (.slice none 0 0) (.slice 0 [] o)
  | slice (b off n cap : Nat) (cs : List PV) (u : Nat → Value) (hn : n ≤ cap) (hI : ∀ j c, cs[j]? = some c → g.I b (off + j) ∧ w.cell? ⟨b, off + j, none⟩ = some (u j))
      (hV : ∀ j c, cs[j]? = some c → V g w (u j) c) : V g w (.slice (some ⟨b, off, none⟩) n cap) (.slice n cs none)
  | sref (id b off n cap : Nat) (h : g.ι[id]? = some (some b)) (hn : n ≤ cap) : V g w (.slice (some ⟨b, off, none⟩) n cap) (.sref id off n cap)
  | func (f : Nat) (first caps : Array Value) (ps qs : List PV) (h1 : first.size = ps.length) (h2 : caps.size = qs.length)
      (hV1 : ∀ j c, ps[j]? = some c → V g w (first.getD j undef) c) (hV2 : ∀ j c, qs[j]? = some c → V g w (caps.getD j undef) c) :
      V g w (.func (.func f) first caps) (.func f ps qs)
  | nilF : V g w .nilFunc .nilF
  | nilS : V g w (.slice none 0 0) .nilS
  | agg (vs : Array Value) (cs : List PV) (h : vs.size = cs.length) (hV : ∀ j c, cs[j]? = some c → V g w (vs.getD j Go.undef) c) : V g w (.agg vs) (.agg cs)

/-- What stood stands. -/
structure Keeps (g : Gh) (w : World) (g' : Gh) (w' : World) : Prop where
  ι : ∀ (id b : Nat), g.ι[id]? = some (some b) → g'.ι[id]? = some (some b)
  I : ∀ b o, g.I b o → g'.I b o ∧ w'.cell? ⟨b, o, none⟩ = w.cell? ⟨b, o, none⟩

theorem Keeps.refl (g : Gh) (w : World) : Keeps g w g w := ⟨fun _ _ h => h, fun _ _ h => ⟨h, rfl⟩⟩
theorem Keeps.trans {g g1 g2 : Gh} {w w1 w2 : World} (h : Keeps g w g1 w1) (k : Keeps g1 w1 g2 w2) : Keeps g w g2 w2 :=
  ⟨fun id b e => k.ι id b (h.ι id b e), fun b o e => ⟨(k.I b o (h.I b o e).1).1, (k.I b o (h.I b o e).1).2.trans (h.I b o e).2⟩⟩

theorem V.mono {g g' : Gh} {w w' : World} (k : Keeps g w g' w') {v : Value} {p : PV} (h : V g w v p) : V g' w' v p := by
  induction h with
  | undef v => exact .undef v
  | bool b => exact .bool b
  | int k n => exact .int k n
  | str s => exact .str s
  | nilp => exact .nilp
  | ptr id b off h => exact .ptr id b off (k.ι id b h)
  | elem b off cs u hI hV ih => exact .elem b off cs u (fun j c hj => ⟨(k.I _ _ (hI j c hj).1).1, (k.I _ _ (hI j c hj).1).2.trans (hI j c hj).2⟩) ih
  | snil o => exact .snil o
  | slice b off n cap cs u hn hI hV ih => exact .slice b off n cap cs u hn (fun j c hj => ⟨(k.I _ _ (hI j c hj).1).1, (k.I _ _ (hI j c hj).1).2.trans (hI j c hj).2⟩) ih
  | sref id b off n cap h hn => exact .sref id b off n cap (k.ι id b h) hn
  | func f first caps ps qs h1 h2 hV1 hV2 ih1 ih2 => exact .func f first caps ps qs h1 h2 ih1 ih2
  | nilF => exact .nilF
  | nilS => exact .nilS
  | agg vs cs h hV ih => exact .agg vs cs h ih

def psize (P : Program) (t : Nat) : Nat := ((P.info? t).map (·.size)).getD 0

/-- A row of its own: nobody else looks behind its end. -/
structure OwnF (P : Program) (g : Gh) (w : World) (v : Value) (n : Nat) (cs : List PV) (e b : Nat) : Prop where
  mk ::
  ex : ∃ (cap : Nat) (vs : Array Value), v = .slice (some ⟨b, 0, none⟩) n cap ∧ n ≤ cap ∧ w.heap[b]? = some (.cells vs e (0, 0)) ∧ 0 < psize P e ∧
    cs.length = n * psize P e ∧ vs.size = cap * psize P e
  obj : ∀ (id : Nat), g.ι[id]? ≠ some (some b)
  spare : ∀ o, cs.length ≤ o → ¬ g.I b o

def VH (P : Program) (g : Gh) (w : World) (v : Value) (p : PV) : Prop :=
  V g w v p ∨ ∃ n cs e b, p = .slice n cs (some e) ∧ V g w v (.slice n cs none) ∧ OwnF P g w v n cs e b

def VC (P : Program) (g : Gh) (w : World) (v : Value) (p : PV) : Prop := match p with
  | .tup cs => ∃ vs : Array Value, v = .tuple vs ∧ vs.size = cs.length ∧ ∀ j c, cs[j]? = some c → VH P g w (vs.getD j undef) c
  | p => VH P g w v p

def blk : Value → Option Nat
  | .slice (some a) _ _ => some a.block
  | _ => none
def isOwn : PV → Bool
  | .slice _ _ (some _) => true
  | _ => false
def ownAt (v : Value) (p : PV) (i b : Nat) : Prop := match p with
  | .tup cs => ∃ c, cs[i]? = some c ∧ isOwn c = true ∧ ∃ vs : Array Value, v = .tuple vs ∧ blk (vs.getD i undef) = some b
  | p => i = 0 ∧ isOwn p = true ∧ blk v = some b

def cellOwnAt (g : Gh) (w : World) (H : PH) (id j b : Nat) : Prop :=
  ∃ o c b0 v, H[id]? = some o ∧ o.cs[j]? = some c ∧ isOwn c = true ∧ g.ι[id]? = some (some b0) ∧ w.cell? ⟨b0, j, none⟩ = some v ∧ blk v = some b
def cellOwn (g : Gh) (w : World) (H : PH) (b : Nat) : Prop := ∃ id j, cellOwnAt g w H id j b

structure RelH (P : Program) (g : Gh) (w : World) (H : PH) : Prop where
  len : g.ι.length = H.length
  inj : ∀ (id id' b : Nat), g.ι[id]? = some (some b) → g.ι[id']? = some (some b) → id = id'
  full : ∀ (id : Nat), id < g.ι.length → ∃ b, g.ι[id]? = some (some b)
  obj : ∀ (id b : Nat) (o : PObj), H[id]? = some o → g.ι[id]? = some (some b) → ∃ vs : Array Value, w.heap[b]? = some (.cells vs o.T (0, 0)) ∧ vs.size = o.cs.length ∧
    ∀ (j : Nat) (c : PV), o.cs[j]? = some c → ∃ v, vs[j]? = some v ∧ VH P g w v c
  imm : ∀ b o, g.I b o → (∀ (id : Nat), g.ι[id]? ≠ some (some b)) ∧ ∃ (vs : Array Value) (e : Nat) (fr : Nat × Nat), w.heap[b]? = some (.cells vs e fr) ∧ o < vs.size

structure Rel (P : Program) (g : Gh) (w : World) (val : Nat → Value) (E : Env) (H : PH) : Prop where
  h : RelH P g w H
  e : ∀ t, VC P g w (val t) (E.get t)
  ss : ∀ t i t' i' b, ownAt (val t) (E.get t) i b → ownAt (val t') (E.get t') i' b → t = t' ∧ i = i'
  sc : ∀ t i b, ownAt (val t) (E.get t) i b → ¬ cellOwn g w H b
  cc : ∀ id j id' j' b, cellOwnAt g w H id j b → cellOwnAt g w H id' j' b → id = id' ∧ j = j'

/-- Objects are not lost; one whose count of writes is the same is the same. -/
structure Same (g : Gh) (w : World) (H : PH) (w' : World) (H' : PH) : Prop where
  more : ∀ (id : Nat) (o : PObj), H[id]? = some o → ∃ o', H'[id]? = some o' ∧ o.ver ≤ o'.ver
  same : ∀ (id b : Nat) (o o' : PObj), g.ι[id]? = some (some b) → H[id]? = some o → H'[id]? = some o' → o'.ver = o.ver → o' = o ∧ w'.heap[b]? = w.heap[b]?

theorem Same.refl (g : Gh) (w : World) (H : PH) : Same g w H w H := ⟨fun _ o h => ⟨o, h, Nat.le_refl _⟩, fun _ _ _ _ _ h h' _ => ⟨Option.some.inj (h'.symm.trans h), rfl⟩⟩
theorem Same.trans {g g1 : Gh} {w w1 w2 : World} {H H1 H2 : PH} (h : Same g w H w1 H1) (hk : ∀ (id b : Nat), g.ι[id]? = some (some b) → g1.ι[id]? = some (some b)) (k : Same g1 w1 H1 w2 H2) : Same g w H w2 H2 := by
  refine ⟨fun id o e => ?_, fun id b o o2 hi e e2 hv => ?_⟩
  · obtain ⟨o1, e1, l1⟩ := h.more id o e
    obtain ⟨o2, e2, l2⟩ := k.more id o1 e1
    exact ⟨o2, e2, Nat.le_trans l1 l2⟩
  · obtain ⟨o1, e1, l1⟩ := h.more id o e
    obtain ⟨o2', e2', l2⟩ := k.more id o1 e1
    rw [e2] at e2'; cases e2'
    obtain ⟨h1, h2⟩ := k.same id b o1 o2 (hk id b hi) e1 e2 (by omega)
    subst h1
    obtain ⟨h3, h4⟩ := h.same id b o o2 hi e e1 hv
    exact ⟨h3, h2.trans h4⟩

/-- From the beginning of a call to now (or to its end). -/
structure Step (g : Gh) (w : World) (H : PH) (F : Nat → Prop) (g' : Gh) (w' : World) (H' : PH) : Prop where
  fr : Same g w H w' H'
  os : w'.os = w.os
  tape : w'.tape = w.tape
  output : w'.output = w.output
  size : w.heap.size ≤ w'.heap.size
  keeps : Keeps g w g' w'
  ι : ∀ (id b : Nat), g'.ι[id]? = some (some b) → (g.ι[id]? = some (some b)) ∨ w.heap.size ≤ b
  far : ∀ b, b < w.heap.size → (∀ (id : Nat), g.ι[id]? ≠ some (some b)) → ¬ F b → w'.heap[b]? = w.heap[b]? ∧ ∀ o, g'.I b o → g.I b o

def valOf (vs : Array Value) (t : Nat) : Value := vs.getD t undef
def args0 : Nat → List PV → Env
  | _, [] => []
  | i, v :: vs => (i, v) :: args0 (i + 1) vs
def one (v : Value) (t : Nat) : Value := if t = 0 then v else undef

/-- A call, of what has a body and of what has none. -/
def CallsX (P : Program) (f : FuncId) (args : Array Value) (w : World) (R : Ending → World → Prop) : Prop :=
  ((callFunc f args).run P w = .ok (.enter f args) w ∧ Calls P f args w R) ∨ ∃ v w', (callFunc f args).run P w = .ok (.value v) w' ∧ R (.returned v) w'
theorem CallsX.mono {P : Program} {f : FuncId} {args : Array Value} {w : World} {R R' : Ending → World → Prop} (h : CallsX P f args w R) (hr : ∀ e w', R e w' → R' e w') : CallsX P f args w R' := by
  rcases h with ⟨h1, h2⟩ | ⟨v, w', h1, h2⟩
  · exact .inl ⟨h1, h2.mono hr⟩
  · exact .inr ⟨v, w', h1, hr _ _ h2⟩

def CallOk (P : Program) (f : Nat) (args : List PV) (H : PH) (Q : PV → PH → Prop) : Prop :=
  ∀ (g : Gh) (w : World) (vs : Array Value), vs.size = args.length → Rel P g w (valOf vs) (args0 0 args) H →
    CallsX P f vs w fun e w' => ∃ v r H' g', e = .returned v ∧ Q r H' ∧ Rel P g' w' (one v) [(0, r)] H' ∧ Step g w H (cellOwn g w H) g' w' H' ∧
      (∀ i b, ownAt v r i b → w.heap.size ≤ b ∨ cellOwn g w H b) ∧ ∀ b, cellOwn g' w' H' b → w.heap.size ≤ b ∨ cellOwn g w H b

theorem CallOk.mono {P : Program} {f : Nat} {args : List PV} {H : PH} {Q Q' : PV → PH → Prop} (h : CallOk P f args H Q) (hq : ∀ r H', Q r H' → Q' r H') :
    CallOk P f args H Q' := fun g w vs hs hr => (h g w vs hs hr).mono fun _ _ ⟨v, r, H', g', he, q, x⟩ => ⟨v, r, H', g', he, hq _ _ q, x⟩

end Ps
