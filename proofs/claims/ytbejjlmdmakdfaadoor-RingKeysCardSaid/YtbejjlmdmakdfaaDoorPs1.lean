/- PSem, part 1: the calculus over pure values, by recursion on the model's own code. -/
import Derived.Test.YtbejjlmdmakdfaaDoorPs0
set_option linter.all false
set_option linter.unusedVariables false
set_option linter.unusedSimpArgs false
set_option linter.unnecessarySimpa false
namespace Ps
open Go

/-! ### the table of types -/
inductive TK where
  | bool | int (k : IntKind) | str | ptr | strct (fs : List (Nat × Nat)) | arr (n e : Nat) | slice (e : Nat) | map (k e : Nat) | fn | other
structure TI where
  k : TK
  sz : Nat
  bytes : Nat
  zero : List PV
abbrev TT := List (Nat × TI)
def TT.get : TT → Nat → Option TI
  | [], _ => none
  | (t, i) :: r, s => match Nat.beq t s with
    | true => some i
    | false => TT.get r s

/-! ### helpers that reduce -/
def frc (v : PV) (K : PV → Prop) : Prop := match v with
  | .bool b => K (.bool b)
  | .int k n => K (.int k n)
  | .str s => K (.str s)
  | .ptr p => K (.ptr p)
  | .elem p => K (.elem p)
  | .slice n c o => K (.slice n c o)
  | .sref i o n c => K (.sref i o n c)
  | .func f a b => K (.func f a b)
  | .nilF => K .nilF
  | .agg c => K (.agg c)
  | .tup c => K (.tup c)
  | .undef => K .undef
  | .nilS => K .nilS
theorem frc_eq (v : PV) (K : PV → Prop) : frc v K = K v := by cases v <;> rfl
/-- The same of what is known. -/
def frcd (v : PV) (K : PV → Prop) : Prop := match v with
  | .bool b => K (.bool b)
  | .int k n => K (.int k n)
  | .str s => K (.str s)
  | .ptr p => K (.ptr p)
  | .elem p => K (.elem p)
  | .slice n c o => K (.slice n c o)
  | .sref i o n c => K (.sref i o n c)
  | .func f a b => K (.func f a b)
  | .nilF => K .nilF
  | .agg c => K (.agg c)
  | .tup c => K (.tup c)
  | .undef => False
  | .nilS => K .nilS
theorem frcd_eq {v : PV} {K : PV → Prop} (h : frcd v K) : v ≠ .undef ∧ K v := by cases v <;> first | exact h.elim | exact ⟨(fun h => by cases h), h⟩
def dem : PV → PV
  | .slice n cs _ => .slice n cs none
  | .tup _ => .undef
  | v => v
/-- Nothing of its own: parts of a tuple, too. -/
def dmt : PV → PV
  | .tup cs => .tup (cs.map dem)
  | p => dem p
def untup : PV → PV
  | .tup _ => .undef
  | v => v
def frcs : List PV → (List PV → Prop) → Prop
  | [], K => K []
  | v :: vs, K => frc (dem v) fun v => frcs vs fun vs => K (v :: vs)
def ofC0 : Value → PV
  | .bool b => .bool b
  | .int k n => .int k n
  | .string s => .str s.data.toList
  | .slice none 0 0 => .nilS
  | .pointer none => .ptr none
  | .nilFunc => .nilF
  | _ => .undef
def ofC : Value → PV
  | .agg vs => .agg (vs.toList.map ofC0)
  | v => ofC0 v
def opnd (E : Env) : Operand → PV
  | .tmp t => E.get t
  | .const v => ofC v
  | .func f => .func f [] []
  | .global _ => .undef
def opnds (E : Env) : List Operand → List PV
  | [] => []
  | x :: xs => opnd E x :: opnds E xs
def dropN : Nat → List PV → List PV
  | 0, l => l
  | n + 1, l => match l with
    | [] => []
    | _ :: l => dropN n l
theorem dropN_eq (n : Nat) (l : List PV) : dropN n l = l.drop n := by
  induction n generalizing l with
  | zero => simp [dropN]
  | succ n ih => cases l <;> simp [dropN, ih]
def setCells : Nat → List PV → List PV → List PV
  | _, [], l => l
  | 0, c :: cs, l => match l with
    | [] => []
    | _ :: l => c :: setCells 0 cs l
  | n + 1, cs, l => match l with
    | [] => []
    | x :: l => x :: setCells n cs l
def cellsOf : PV → List PV
  | .agg cs => cs
  | .slice n cs _ => [.slice n cs none]
  | v => [v]
def oneP : PV → Bool
  | .agg _ => false
  | .tup _ => false
  | .undef => false
  | _ => true
inductive Src where
  | slot (s : Nat)
  | cell (id off : Nat)
abbrev Q := List (Nat × Src)
def qdel (d : Nat) : Q → Q
  | [] => []
  | (a, s) :: q => match Nat.beq a d with
    | true => qdel d q
    | false => match s with
      | .slot t => match Nat.beq t d with
        | true => qdel d q
        | false => (a, .slot t) :: qdel d q
      | .cell i j => (a, .cell i j) :: qdel d q
def qadd (d : Nat) : Option Src → Q → Q
  | none, q => q
  | some s, q => (d, s) :: q
def qget : Q → Nat → Option Src
  | [], _ => none
  | (a, s) :: q, t => match Nat.beq a t with
    | true => some s
    | false => qget q t
def qslots : Q → Q
  | [] => []
  | (a, s) :: q => match s with
    | .slot t => (a, .slot t) :: qslots q
    | .cell _ _ => qslots q
def setH (id : Nat) (o : PObj) (cs : List PV) (H : PH) : PH := H.set id ⟨o.T, cs, o.ver + 1⟩
def byteC (b : UInt8) : PV := .int .u8 b.toNat

/-- What a step is asked for: the value, whence it was copied, and how all stands. -/
abbrev KK := PV → Option Src → Env → Q → PH → Prop

def shOk : IntKind → Prop := fun _ => True
def ibits (op : BinOp) (k : IntKind) (x y : Int) : Int :=
  match op with
  | .and => k.wrap (BitVec.ofInt k.bits x &&& BitVec.ofInt k.bits y).toNat
  | .or => k.wrap (BitVec.ofInt k.bits x ||| BitVec.ofInt k.bits y).toNat
  | .xor => k.wrap (BitVec.ofInt k.bits x ^^^ BitVec.ofInt k.bits y).toNat
  | .andNot => k.wrap (BitVec.ofInt k.bits x &&& ~~~BitVec.ofInt k.bits y).toNat
  | _ => 0
def ishl (k : IntKind) (x y : Int) : Int := k.wrap (x * 2 ^ (min y.toNat k.bits))
def ishr (k : IntKind) (x y : Int) : Int := x.fdiv (2 ^ (min y.toNat k.bits))
def ikeq (a b : IntKind) (K : Prop) : Prop := match a, b with
  | .i8, .i8 => K | .i16, .i16 => K | .i32, .i32 => K | .i64, .i64 => K
  | .u8, .u8 => K | .u16, .u16 => K | .u32, .u32 => K | .u64, .u64 => K
  | _, _ => False
theorem ikeq_eq (a b : IntKind) (K : Prop) (h : ikeq a b K) : a = b ∧ K := by cases a <;> cases b <;> first | exact h.elim | exact ⟨rfl, h⟩

def isAggT (i : TI) : Bool := match i.k with
  | .strct _ => true
  | .arr _ _ => true
  | _ => false

/-- Structs and arrays that are compared cell by cell. -/
def FitFs (fit : Nat → List PV → Prop) (tt : TT) : List (Nat × Nat) → Nat → List PV → Prop
  | [], _, xs => xs = []
  | (t, o) :: r, off, xs => o = off ∧ match tt.get t with
    | some i => (i.sz ≤ xs.length ∧ fit t (xs.take i.sz)) ∧ FitFs fit tt r (off + i.sz) (xs.drop i.sz)
    | none => False
def FitAs (fit : List PV → Prop) (sz : Nat) : Nat → List PV → Prop
  | 0, xs => xs = []
  | n + 1, xs => (sz ≤ xs.length ∧ fit (xs.take sz)) ∧ FitAs fit sz n (xs.drop sz)
def FitP (tt : TT) : Nat → Nat → List PV → Prop
  | 0, _, _ => False
  | d + 1, T, xs => match tt.get T with
    | some i => match i.k with
      | .bool => ∃ b, xs = [.bool b]
      | .int k => ∃ n, xs = [.int k n]
      | .str => ∃ s, xs = [.str s]
      | .strct fs => FitFs (FitP tt d) tt fs 0 xs
      | .arr n e => match tt.get e with
        | some ei => 0 < n ∧ FitAs (FitP tt d e) ei.sz n xs
        | none => False
      | _ => False
    | none => False

/-- A truth is asked, and each way is gone. -/
def boolK (p : Prop) (K : PV → Prop) : Prop := (p → K (.bool true)) ∧ (¬ p → K (.bool false))
def nboolK (p : Prop) (K : PV → Prop) : Prop := (p → K (.bool false)) ∧ (¬ p → K (.bool true))

def aggEq (op : BinOp) (xs ys : List PV) (K : PV → Prop) : Prop := match op with
  | .eql => boolK (xs = ys) K
  | .neq => nboolK (xs = ys) K
  | _ => False

def pBin (tt : TT) (op : BinOp) (T : Nat) (x y : PV) (K : PV → Prop) : Prop := match x with
  | .int k a => match y with
    | .int k' b => match op with
      | .shl => 0 ≤ b ∧ K (.int k (ishl k a b))
      | .shr => 0 ≤ b ∧ K (.int k (ishr k a b))
      | .add => ikeq k k' (K (.int k (k.wrap (a + b))))
      | .sub => ikeq k k' (K (.int k (k.wrap (a - b))))
      | .mul => ikeq k k' (K (.int k (k.wrap (a * b))))
      | .quo => ikeq k k' (b ≠ 0 ∧ K (.int k (k.wrap (a.tdiv b))))
      | .rem => ikeq k k' (b ≠ 0 ∧ K (.int k (a.tmod b)))
      | .and => ikeq k k' (K (.int k (ibits .and k a b)))
      | .or => ikeq k k' (K (.int k (ibits .or k a b)))
      | .xor => ikeq k k' (K (.int k (ibits .xor k a b)))
      | .andNot => ikeq k k' (K (.int k (ibits .andNot k a b)))
      | .eql => ikeq k k' (boolK (a = b) K)
      | .neq => ikeq k k' (nboolK (a = b) K)
      | .lss => ikeq k k' (boolK (a < b) K)
      | .leq => ikeq k k' (boolK (a ≤ b) K)
      | .gtr => ikeq k k' (boolK (b < a) K)
      | .geq => ikeq k k' (boolK (b ≤ a) K)
    | _ => False
  | .str a => match y with
    | .str b => match op with
      | .add => a.length + b.length ≤ 9223372036854775807 ∧ K (.str (a ++ b))
      | .eql => boolK (a = b) K
      | .neq => nboolK (a = b) K
      | _ => False
    | _ => False
  | .bool a => match y with
    | .bool b => match op with
      | .eql => match tt.get T with
        | some i => match i.k with
          | .bool => K (.bool (a == b))
          | _ => False
        | none => False
      | .neq => match tt.get T with
        | some i => match i.k with
          | .bool => K (.bool (!(a == b)))
          | _ => False
        | none => False
      | _ => False
    | _ => False
  | .ptr p => match y with
    | .ptr q => match tt.get T with
      | some i => match i.k with
        | .ptr => match q with
          | none => match op with
            | .eql => K (.bool p.isNone)
            | .neq => K (.bool (!p.isNone))
            | _ => False
          | some _ => False
        | _ => False
      | none => False
    | _ => False
  | .elem _ => match y with
    | .ptr none => match tt.get T with
      | some i => match i.k with
        | .ptr => match op with
          | .eql => K (.bool false)
          | .neq => K (.bool true)
          | _ => False
        | _ => False
      | none => False
    | _ => False
  | .slice n _ _ => match y with
    | .nilS => match tt.get T with
      | some i => match i.k with
        | .slice _ => match op with
          | .eql => (0 < n → K (.bool false)) ∧ (n = 0 → K (.bool true) ∧ K (.bool false))
          | .neq => (0 < n → K (.bool true)) ∧ (n = 0 → K (.bool true) ∧ K (.bool false))
          | _ => False
        | _ => False
      | none => False
    | _ => False
  | .sref _ _ _ _ => match y with
    | .nilS => match tt.get T with
      | some i => match i.k with
        | .slice _ => match op with
          | .eql => K (.bool false)
          | .neq => K (.bool true)
          | _ => False
        | _ => False
      | none => False
    | _ => False
  | .nilS => match y with
    | .nilS => match tt.get T with
      | some i => match i.k with
        | .slice _ => match op with
          | .eql => K (.bool true)
          | .neq => K (.bool false)
          | _ => False
        | _ => False
      | none => False
    | _ => False
  | .agg xs => match y with
    | .agg ys => match tt.get T with
      | some i => match isAggT i with
        | true => (FitP tt 6 T xs ∧ FitP tt 6 T ys) ∧ aggEq op xs ys K
        | false => False
      | none => False
    | _ => False
  | _ => False

def pUn (op : UnOp) (x : PV) (K : PV → Prop) : Prop := match op with
  | .not => match x with
    | .bool b => K (.bool (!b))
    | _ => False
  | .neg => match x with
    | .int k n => K (.int k (k.wrap (0 - n)))
    | _ => False
  | .xor => match x with
    | .int k n => K (.int k (ibits .xor k (if k.signed then -1 else k.max) n))
    | _ => False
  | _ => False

def pConv (tt : TT) (H : PH) (src dst : Nat) (x : PV) (K : PV → Prop) : Prop := match tt.get dst with
  | some i => match i.k with
    | .int k => match x with
      | .int _ n => match tt.get src with
        | some l => match l.k with
          | .int _ => K (.int k (k.wrap n))
          | _ => False
        | none => False
      | _ => False
    | .slice e => match tt.get e with
      | some j => match j.k with
        | .int .u8 => match tt.get src with
          | some l => match l.k with
            | .str => match x with
              | .str s => s.length ≤ 9223372036854775807 ∧ K (.slice s.length (s.map byteC) none)
              | _ => False
            | _ => False
          | none => False
        | _ => False
      | none => False
    | .str => match tt.get src with
      | some l => match l.k with
        | .str => match x with
          | .str s => K (.str s)
          | _ => False
        | .slice e => match tt.get e with
          | some j => match j.k with
            | .int .u8 => match x with
              | .slice n cs _ => ∃ s : List UInt8, (cs = s.map byteC ∧ n = s.length) ∧ K (.str s)
              | .sref id off n _ => match H[id]? with
                | some ob => ∃ s : List UInt8, ((ob.cs.drop off).take n = s.map byteC ∧ n = s.length) ∧ K (.str s)
                | none => False
              | _ => False
            | _ => False
          | none => False
        | _ => False
      | none => False
    | _ => False
  | none => False

/-- The value of a variable of a type that begins at some cells. -/
def pRead (i : TI) (cs : List PV) (K : PV → Prop) : Prop := match isAggT i with
  | true => match Nat.ble i.sz cs.length with
    | true => K (.agg ((cs.take i.sz).map dem))
    | false => False
  | false => match cs with
    | c :: _ => frc (dem c) K
    | [] => False

def pLoad (tt : TT) (T : Nat) (x : PV) (H : PH) (K : PV → Option Src → Prop) : Prop := match tt.get T with
  | some i => match x with
    | .elem cs => pRead i cs (K · none)
    | .ptr (some (id, off)) => match H[id]? with
      | some o => match isAggT i with
        | true => pRead i (dropN off o.cs) (K · none)
        | false => match dropN off o.cs with
          | c :: _ => match c with
            | .slice n cs (some _) => K (.slice n cs none) (some (.cell id off))
            | c => frc c (K · none)
          | [] => False
      | none => False
    | _ => False
  | none => False

def fieldOf (i : TI) (f : Nat) : Option (Nat × Nat) := match i.k with
  | .strct fs => fs[f]?
  | _ => none

def isLe (a b : Nat) (K : Prop) : Prop := match Nat.ble a b with
  | true => K
  | false => False

def lowOf (E : Env) : Option Operand → Int → (Int → Prop) → Prop
  | none, d, K => K d
  | some x, _, K => match opnd E x with
    | .int _ i => K i
    | _ => False

def pSlice (tt : TT) (E : Env) (T : Nat) (x : PV) (lo hi : Option Operand) (K : PV → Prop) : Prop := match x with
  | .str s => match tt.get T with
    | some i => match i.k with
      | .str => lowOf E lo 0 fun l => lowOf E hi s.length fun h => (0 ≤ l ∧ l ≤ h ∧ h ≤ s.length) ∧ K (.str ((s.take h.toNat).drop l.toNat))
      | _ => False
    | none => False
  | .slice n cs _ => match tt.get T with
    | some i => match i.k with
      | .slice e => match tt.get e with
        | some j => lowOf E lo 0 fun l => lowOf E hi n fun h => (0 ≤ l ∧ l ≤ h ∧ h ≤ n) ∧
            K (.slice (h.toNat - l.toNat) ((cs.take (h.toNat * j.sz)).drop (l.toNat * j.sz)) none)
        | none => False
      | _ => False
    | none => False
  | .sref id off n cap => match tt.get T with
    | some i => match i.k with
      | .slice e => match tt.get e with
        | some j => lowOf E lo 0 fun l => lowOf E hi n fun h => (0 ≤ l ∧ l ≤ h ∧ h ≤ n) ∧
            (l < n → K (.sref id (off + l.toNat * j.sz) (h.toNat - l.toNat) (cap - l.toNat))) ∧ (¬ l < n → K (.slice 0 [] none))
        | none => False
      | _ => False
    | none => False
  | .nilS => match tt.get T with
    | some i => match i.k with
      | .slice e => match tt.get e with
        | some _ => lowOf E lo 0 fun l => lowOf E hi 0 fun h => (0 ≤ l ∧ l ≤ h ∧ h ≤ 0) ∧ K .nilS
        | none => False
      | _ => False
    | none => False
  | .elem cs => match tt.get T with
    | some i => match i.k with
      | .arr n e => match tt.get e with
        | some j => lowOf E lo 0 fun l => lowOf E hi n fun h => (0 ≤ l ∧ l ≤ h ∧ h ≤ n) ∧
            K (.slice (h.toNat - l.toNat) ((cs.take (h.toNat * j.sz)).drop (l.toNat * j.sz)) none)
        | none => False
      | _ => False
    | none => False
  | _ => False

/-- The cells of element i, as whoever proves it likes to have them. -/
def elemAt (cs : List PV) (k : Nat) (K : List PV → Prop) : Prop := ∃ ds : List PV, (∀ (j : Nat) (c : PV), ds[j]? = some c → cs[k + j]? = some c) ∧ K ds

def pIndexAddr (tt : TT) (T : Nat) (x : PV) (ix : PV) (K : PV → Prop) : Prop := match tt.get T with
  | some i => match ix with
    | .int _ j => match x with
      | .slice n cs _ => match i.k with
        | .slice e => match tt.get e with
          | some ei => (0 ≤ j ∧ j < n) ∧ elemAt cs (j.toNat * ei.sz) fun ds => K (.elem ds)
          | none => False
        | _ => False
      | .sref id off n _ => match i.k with
        | .slice e => match tt.get e with
          | some ei => (0 ≤ j ∧ j < n) ∧ K (.ptr (some (id, off + j.toNat * ei.sz)))
          | none => False
        | _ => False
      | .elem cs => match i.k with
        | .arr n e => match tt.get e with
          | some ei => (0 ≤ j ∧ j < n) ∧ elemAt cs (j.toNat * ei.sz) fun ds => K (.elem ds)
          | none => False
        | _ => False
      | .ptr (some (id, off)) => match i.k with
        | .arr n e => match tt.get e with
          | some ei => (0 ≤ j ∧ j < n) ∧ K (.ptr (some (id, off + j.toNat * ei.sz)))
          | none => False
        | _ => False
      | _ => False
    | _ => False
  | none => False

def pIndex (tt : TT) (T : Nat) (x : PV) (ix : PV) (K : PV → Prop) : Prop := match ix with
  | .int _ j => match x with
    | .str s => match tt.get T with
      | some i => match i.k with
        | .str => (0 ≤ j ∧ j < s.length) ∧ ∃ b, s[j.toNat]? = some b ∧ K (byteC b)
        | _ => False
      | none => False
    | .agg cs => match tt.get T with
      | some i => match i.k with
        | .arr n e => match tt.get e with
          | some ei => (0 ≤ j ∧ j < n) ∧ pRead ei (dropN (j.toNat * ei.sz) cs) K
          | none => False
        | _ => False
      | none => False
    | _ => False
  | _ => False

/-- Parts laid into a row. -/
def pFill (place : Nat → Option (Nat × Nat)) (E : Env) : List (Nat × Operand) → List PV → (List PV → Prop) → Prop
  | [], cs, K => K cs
  | (i, x) :: r, cs, K => match place i with
    | some (off, sz) => frcd (dem (opnd E x)) fun v => match Nat.beq (cellsOf v).length sz with
      | true => match Nat.ble (off + sz) cs.length with
        | true => pFill place E r (setCells off (cellsOf v) cs) K
        | false => False
      | false => False
    | none => False

def zerosOf (z : List PV) : Nat → List PV
  | 0 => []
  | n + 1 => z ++ zerosOf z n

/-- Is a slot's value a row of its own? -/
def ownOf (E : Env) (q : Q) (H : PH) (x : Operand) (T : Nat) (tt : TT) (K : Nat → List PV → Nat → Env → PH → Prop) : Prop := match x with
  | .tmp a => match E.get a with
    | .slice n cs (some e) => K n cs e ((a, .slice n cs none) :: E) H
    | .slice n cs none => match qget q a with
      | some (.slot s) => match E.get s with
        | .slice n' cs' (some e) => K n' cs' e ((s, .slice n' cs' none) :: E) H
        | _ => False
      | some (.cell id off) => match H[id]? with
        | some o => match dropN off o.cs with
          | .slice n' cs' (some e) :: _ => K n' cs' e E (setH id o (setCells off [.slice n' cs' none] o.cs) H)
          | _ => False
        | none => False
      | none => False
    | _ => False
  | .const (.slice none 0 0) => match tt.get T with
    | some i => match i.k with
      | .slice e => K 0 [] e E H
      | _ => False
    | none => False
  | _ => False

def pAppend (tt : TT) (E : Env) (q : Q) (H : PH) (s x : Operand) (T : Nat) (K : PV → Env → PH → Prop) : Prop :=
  match opnd E x with
  | .slice m ds _ => ownOf E q H s T tt fun n cs e E' H' => match tt.get T with
    | some i => match i.k with
      | .slice e' => match Nat.beq e e' with
        | true => match tt.get e with
          | some ei => ((n + m) * ei.bytes ≤ 140737488355328 ∧ ds.length = m * ei.sz ∧ ds.all oneP = true) ∧ K (.slice (n + m) (cs ++ ds) (some e)) E' H'
          | none => False
        | false => False
      | _ => False
    | none => False
  | _ => False

/-- What is read of a row. -/
def elemsOf (H : PH) (x : PV) (sz : Nat) (K : Nat → List PV → Prop) : Prop := match x with
  | .slice m ds _ => K m ds
  | .sref id off m _ => match H[id]? with
    | some ob => K m (((ob.cs.drop off).take (m * sz)).map dem)
    | none => False
  | .nilS => K 0 []
  | _ => False
/-- An append to a row that is an object. -/
def pAppendR (tt : TT) (E : Env) (H : PH) (id off n cap : Nat) (x : Operand) (T : Nat) (K : PV → PH → Prop) : Prop := match tt.get T with
  | some i => match i.k with
    | .slice e => match tt.get e with
      | some ei => elemsOf H (opnd E x) ei.sz fun m ds => match H[id]? with
        | some ob => (off = 0 ∧ (n + m) * ei.bytes ≤ 140737488355328 ∧ ds.length = m * ei.sz ∧ ds.all oneP = true ∧ n * ei.sz ≤ ob.cs.length) ∧
            (n + m ≤ cap → (n + m) * ei.sz ≤ ob.cs.length ∧ K (.sref id 0 (n + m) cap) (setH id ob (setCells (n * ei.sz) ds ob.cs) H)) ∧
            (cap < n + m → ∀ cap', n + m ≤ cap' → K (.sref H.length 0 (n + m) cap') (H ++ [⟨e, (ob.cs.take (n * ei.sz)).map dem ++ ds ++ zerosOf ei.zero (cap' - (n + m)), 0⟩]))
        | none => False
      | none => False
    | _ => False
  | none => False
/-- An append to nothing: a new object. -/
def pAppendN (tt : TT) (E : Env) (H : PH) (x : Operand) (T : Nat) (K : PV → PH → Prop) : Prop := match tt.get T with
  | some i => match i.k with
    | .slice e => match tt.get e with
      | some ei => elemsOf H (opnd E x) ei.sz fun m ds => (m * ei.bytes ≤ 140737488355328 ∧ ds.length = m * ei.sz ∧ ds.all oneP = true) ∧
            (m = 0 → K .nilS H) ∧ (0 < m → ∀ cap', m ≤ cap' → K (.sref H.length 0 m cap') (H ++ [⟨e, ds ++ zerosOf ei.zero (cap' - m), 0⟩]))
      | none => False
    | _ => False
  | none => False
def allPlain : List PV → Bool
  | [] => true
  | c :: r => oneP c && !isOwn c && allPlain r
structure callK (P : Program) (f : Nat) (args : List PV) (H : PH) (K : PV → PH → Prop) : Prop where
  mk ::
  h : CallOk P f args H K

/-- One operation. -/
def pOp (P : Program) (tt : TT) (imm : List Nat) (E : Env) (q : Q) (H : PH) (o : Oper) (K : KK) : Prop := match o.op with
  | .move x => match x with
    | .tmp s => match E.get s with
      | .slice n cs (some _) => K (.slice n cs none) (some (.slot s)) E q H
      | .tup cs => K (.tup cs) none ((s, .undef) :: E) (qdel s q) H
      | v => frc (dem v) fun v => K v none E q H
    | x => frc (opnd E x) fun v => K v none E q H
  | .assign x => match x with
    | .tmp s => match E.get s with
      | .slice n cs (some e) => K (.slice n cs (some e)) none ((s, .slice n cs none) :: E) (qdel s q) H
      | v => frc (dem v) fun v => K v none E q H
    | .const (.slice none 0 0) => match (match o.dst with | some d => imm.elem d | none => false) with
      | true => K .nilS none E q H
      | false => match tt.get o.type with
      | some i => match i.k with
        | .slice e => K (.slice 0 [] (some e)) none E q H
        | _ => K (.slice 0 [] none) none E q H
      | none => K (.slice 0 [] none) none E q H
    | x => frc (opnd E x) fun v => K v none E q H
  | .pick c a b => match opnd E c with
    | .bool t => match t with
      | true => frc (dem (opnd E a)) fun v => K v none E q H
      | false => frc (dem (opnd E b)) fun v => K v none E q H
    | _ => False
  | .alloc T => match tt.get T with
    | some i => K (.ptr (some (H.length, 0))) none E (qslots q) (H ++ [⟨T, i.zero, 0⟩])
    | none => False
  | .box T x => frcd (dem (opnd E x)) fun v => match (match o.dst with | some d => imm.elem d | none => false) with
    | true => K (.elem (cellsOf v)) none E q H
    | false => K (.ptr (some (H.length, 0))) none E (qslots q) (H ++ [⟨T, cellsOf v, 0⟩])
  | .build T ps => match tt.get T with
    | some i => match i.k with
      | .strct fs => pFill (fun k => match fs[k]? with
          | some (ft, off) => match tt.get ft with
            | some fi => some (off, fi.sz)
            | none => none
          | none => none) E ps.toList i.zero fun cs => K (.agg cs) none E q H
      | .arr n e => match tt.get e with
        | some ei => pFill (fun k => match Nat.blt k n with | true => some (k * ei.sz, ei.sz) | false => none) E ps.toList i.zero fun cs => K (.agg cs) none E q H
        | none => False
      | _ => False
    | none => False
  | .buildSlice T n ps => match tt.get T with
    | some i => match i.k with
      | .slice e => match tt.get e with
        | some ei => isLe (n * ei.sz) 16777216 (pFill (fun k => match Nat.blt k n with | true => some (k * ei.sz, ei.sz) | false => none) E ps.toList (zerosOf ei.zero n) fun cs =>
            K (.slice n cs (some e)) none E q H)
        | none => False
      | _ => False
    | none => False
  | .load T a => pLoad tt T (opnd E a) H fun v s => K v s E q H
  | .store T a x => match tt.get T with
    | some i => match opnd E a with
      | .ptr (some (id, off)) => match H[id]? with
        | some ob => match Nat.ble (off + i.sz) ob.cs.length with
          | true => match opnd E x with
            | .slice n cs (some e) => match x with
              | .tmp s => match Nat.beq i.sz 1 with
                | true => K .undef none ((s, .slice n cs none) :: E) (qslots (qdel s q)) (setH id ob (setCells off [.slice n cs (some e)] ob.cs) H)
                | false => False
              | _ => False
            | v => frcd (dem v) fun v => match Nat.beq (cellsOf v).length i.sz with
              | true => match (cellsOf v).all oneP with
                | true => K .undef none E (qslots q) (setH id ob (setCells off (cellsOf v) ob.cs) H)
                | false => False
              | false => False
          | false => False
        | none => False
      | _ => False
    | none => False
  | .nilCheck x => match opnd E x with
    | .ptr (some p) => K (.ptr (some p)) none E q H
    | .elem cs => K (.elem cs) none E q H
    | .func f a b => K (.func f a b) none E q H
    | _ => False
  | .binOp op T x y _ => pBin tt op T (opnd E x) (opnd E y) fun v => K v none E q H
  | .unOp op _ x => pUn op (opnd E x) fun v => K v none E q H
  | .convert s d x => pConv tt H s d (opnd E x) fun v => K v none E q H
  | .sliceToArrayPointer T x => match opnd E x with
    | .slice n cs _ => match tt.get T with
      | some i => match i.k with
        | .arr m _ => (m ≤ n ∧ 0 < m) ∧ K (.elem cs) none E q H
        | _ => False
      | none => False
    | _ => False
  | .makeFunc (.func f) a b => frcs (opnds E a.toList) fun a => frcs (opnds E b.toList) fun b => K (.func f a b) none E q H
  | .makeSlice T l c => match tt.get T with
    | some i => match i.k with
      | .slice e => match tt.get e with
        | some ei => match opnd E l with
          | .int .i64 n => match opnd E c with
            | .int .i64 m => (0 ≤ n ∧ n ≤ m ∧ m * ei.bytes ≤ 140737488355328) ∧ (match (match o.dst with | some d => imm.elem d | none => false) with
              | true => K (.sref H.length 0 n.toNat m.toNat) none E (qslots q) (H ++ [⟨e, zerosOf ei.zero m.toNat, 0⟩])
              | false => K (.slice n.toNat (zerosOf ei.zero n.toNat) (some e)) none E q H)
            | _ => False
          | _ => False
        | none => False
      | _ => False
    | none => False
  | .slice T x lo hi none => pSlice tt E T (opnd E x) lo hi fun v => K v none E q H
  | .fieldAddr T x f => match tt.get T with
    | some i => match fieldOf i f with
      | some (ft, off) => match tt.get ft with
        | some fi => isLe 1 fi.sz (match opnd E x with
          | .ptr (some (id, o)) => K (.ptr (some (id, o + off))) none E q H
          | .elem cs => K (.elem (dropN off cs)) none E q H
          | _ => False)
        | none => False
      | none => False
    | none => False
  | .field T x f => match tt.get T with
    | some i => match fieldOf i f with
      | some (ft, off) => match tt.get ft with
        | some fi => match opnd E x with
          | .agg cs => pRead fi (dropN off cs) fun v => K v none E q H
          | _ => False
        | none => False
      | none => False
    | none => False
  | .indexAddr T x ix => pIndexAddr tt T (opnd E x) (opnd E ix) fun v => K v none E q H
  | .index T x ix => pIndex tt T (opnd E x) (opnd E ix) fun v => K v none E q H
  | .extract x i => match x with
    | .tmp t => match E.get t with
      | .tup cs => match cs[i]? with
        | some (.slice n ds (some e)) => K (.slice n ds (some e)) none ((t, .tup (cs.set i (.slice n ds none))) :: E) (qdel t q) H
        | some c => frc (dem c) fun c => K c none E q H
        | none => False
      | _ => False
    | _ => False
  | .call c => match c.callee with
    | .builtin .len => match c.args.toList with
      | [x] => match c.argTypes.toList with
        | [T] => match tt.get T with
          | some i => match opnd E x with
            | .slice n _ _ => match i.k with
              | .slice _ => K (.int .i64 n) none E q H
              | _ => False
            | .sref _ _ n _ => match i.k with
              | .slice _ => K (.int .i64 n) none E q H
              | _ => False
            | .nilS => match i.k with
              | .slice _ => K (.int .i64 0) none E q H
              | _ => False
            | .str s => match i.k with
              | .str => K (.int .i64 s.length) none E q H
              | _ => False
            | _ => False
          | none => False
        | _ => False
      | _ => False
    | .builtin .append => match c.args.toList with
      | [s, x] => match c.argTypes.toList with
        | [T, T'] => match Nat.beq T T' with
          | true => match opnd E s with
            | .sref id off n cap => pAppendR tt E H id off n cap x T fun v H' => K v none E [] H'
            | .nilS => match (match o.dst with | some d => imm.elem d | none => false) with
              | true => pAppendN tt E H x T fun v H' => K v none E [] H'
              | false => pAppend tt E q H s x T fun v E' H' => K v none E' [] H'
            | _ => pAppend tt E q H s x T fun v E' H' => K v none E' [] H'
          | false => False
        | _ => False
      | _ => False
    | .builtin .cap => match c.args.toList with
      | [x] => match c.argTypes.toList with
        | [T] => match tt.get T with
          | some i => match i.k with
            | .slice _ => match opnd E x with
              | .sref _ _ _ cap => K (.int .i64 cap) none E q H
              | .nilS => K (.int .i64 0) none E q H
              | _ => False
            | _ => False
          | none => False
        | _ => False
      | _ => False
    | .builtin .min => match c.args.toList with
      | [x, y] => match opnd E x with
        | .int k a => match opnd E y with
          | .int k' b => ikeq k k' (K (.int k (min a b)) none E q H)
          | _ => False
        | _ => False
      | _ => False
    | .builtin .max => match c.args.toList with
      | [x, y] => match opnd E x with
        | .int k a => match opnd E y with
          | .int k' b => ikeq k k' (K (.int k (max a b)) none E q H)
          | _ => False
        | _ => False
      | _ => False
    | .builtin _ => False
    | .invoke _ _ => False
    | .value x => match opnd E x with
      | .func f a b => frcs (opnds E c.args.toList) fun vs => callK P f (a ++ vs ++ b) H fun r H' => K r none E (qslots q) H'
      | _ => False
  | _ => False

/-- Is an operation wanted? -/
def pGuard (ops : List Oper) (E : Env) (g : Option (Nat × Bool)) (A B : Prop) : Prop := match g with
  | none => A
  | some (j, want) => match ops[j]? with
    | some o => match o.dst with
      | some t => match E.get t with
        | .bool b => match b with
          | true => match want with
            | true => A
            | false => B
          | false => match want with
            | true => B
            | false => A
        | .tup [] => B
        | _ => False
      | none => False
    | none => False

def pPut (N : Nat) (d : Option Nat) (v : PV) (s : Option Src) (E : Env) (q : Q) (K : Env → Q → Prop) : Prop := match d with
  | some d => match Nat.blt d N with
    | true => K ((d, v) :: E) (qadd d s (qdel d q))
    | false => False
  | none => K E q

def pOps (P : Program) (tt : TT) (imm : List Nat) (N : Nat) (ops : List Oper) : List Oper → Env → Q → PH → (Env → PH → Prop) → Prop
  | [], E, _, H, K => K E H
  | o :: rest, E, q, H, K => pGuard ops E o.guard
      (pOp P tt imm E q H o fun v s E' q' H' => pPut N o.dst v s E' q' fun E' q' => pOps P tt imm N ops rest E' q' H' K)
      (pPut N o.dst (.tup []) none E q fun E' q' => pOps P tt imm N ops rest E' q' H K)

inductive Ex where
  | normal
  | ret
  | exit (n : Nat)

def subE : Env → Env → Prop
  | [], _ => True
  | (t, v) :: r, E => E.get t = v ∧ subE r E

/-- A loop: states of a type S, what the slots and the objects are in each, what holds of it, and a measure. -/
structure loopK (b : Env → PH → (Ex → Env → PH → Prop) → Prop) (E : Env) (H : PH) (K : Ex → Env → PH → Prop) : Prop where
  mk ::
  h : ∃ (S : Type) (st : S → Env) (sh : S → PH) (ok : S → Prop) (μ : S → Nat), (∃ s, ok s ∧ subE (st s) E ∧ H = sh s) ∧
    ∀ s, ok s → b (st s) (sh s) fun e E' H' => match e with
      | .normal => ∃ s', ok s' ∧ subE (st s') E' ∧ H' = sh s' ∧ μ s' < μ s
      | e => K e E' H'

/-! ### regions that draw their order -/
def orL : List Bool → List Bool → List Bool
  | [], y => y
  | x, [] => x
  | a :: x, b :: y => (a || b) :: orL x y
def unitL : Nat → List Bool
  | 0 => [true]
  | n + 1 => false :: unitL n
def edgeL (acc : List (List Bool)) : List Edge → List Bool
  | [] => []
  | e :: r => match Region.binds .any e with
    | true => orL (orL (unitL e.on) (acc.getD e.on [])) (edgeL acc r)
    | false => edgeL acc r
def ancs : List Oper → List (List Bool) → List (List Bool)
  | [], acc => acc
  | o :: r, acc => ancs r (acc ++ [edgeL acc o.after.toList])
def W (A : List (List Bool)) (i j : Nat) : Bool := (A.getD i []).getD j false

/-! ### what is said of a region -/
structure Draw where
  cons : List (Nat × List Nat) := []
  imp : List Nat := []
  win : List (Nat × Nat × Nat) := []
  fs : List (Nat × Nat × Src) := []
def getN {α : Type} : List (Nat × α) → α → Nat → α
  | [], d, _ => d
  | (a, x) :: r, d, i => match Nat.beq a i with
    | true => x
    | false => getN r d i
def Draw.consOf (D : Draw) (i : Nat) : List Nat := getN D.cons [] i
def Draw.isImp (D : Draw) (i : Nat) : Bool := D.imp.contains i
def Draw.winOf (D : Draw) (i : Nat) : Nat × Nat := getN D.win (0, 0) i
def qOf (ops : List Oper) (i : Nat) : List (Nat × Nat × Src) → Q
  | [] => []
  | (j, i', s) :: r => match Nat.beq i' i with
    | true => match (ops[j]?).bind (·.dst) with
      | some t => (t, s) :: qOf ops i r
      | none => qOf ops i r
    | false => qOf ops i r
def pSrcs (j : Nat) (s : Option Src) : List (Nat × Nat × Src) → Prop
  | [] => True
  | (j', _, x) :: r => match Nat.beq j' j with
    | true => s = some x ∧ pSrcs j s r
    | false => pSrcs j s r

def opReads (ops : List Oper) (o : Oper) : List Nat :=
  (o.op.operands.toList.filterMap fun | .tmp t => some t | _ => none) ++
  (match o.guard with
   | some (g, _) => ((ops[g]?).bind (·.dst)).toList
   | none => [])
def restrC (E : Env) : List Nat → Env → Env
  | [], E' => E'
  | t :: r, E' => (t, E.get t) :: restrC E r E'
def restrR (E : Env) : List Nat → Env
  | [] => []
  | t :: r => (t, dmt (E.get t)) :: restrR E r
def restr (ops : List Oper) (D : Draw) (i : Nat) (o : Oper) (E : Env) : Env := restrC E (D.consOf i) (restrR E (opReads ops o))
def demE (E : Env) : List Nat → Env
  | [] => E
  | t :: r => (t, dmt (E.get t)) :: demE E r
def putE (d : Option Nat) (v : PV) (E : Env) : Env := match d with
  | some d => (d, v) :: E
  | none => E
def stepO (D : Draw) (i : Nat) (o : Oper) (v : PV) (E : Env) : Env := putE o.dst v (demE E (D.consOf i))
def hk (Hs : List PH) (k : Nat) : PH := Hs.getD k []

def Obl (P : Program) (tt : TT) (imm : List Nat) (ops : List Oper) (D : Draw) (i : Nat) (o : Oper) (E : Env) (v : PV) (H H' : PH) : Prop :=
  pGuard ops (restr ops D i o E) o.guard (pOp P tt imm (restr ops D i o E) (qOf ops i D.fs) H o fun v' s _ _ H2 => v' = v ∧ H2 = H' ∧ pSrcs i s D.fs)
    (v = .undef ∧ H' = H ∧ pSrcs i none D.fs)
def pHs (Hs : List PH) (p : PH → PH → Prop) (d : Nat) : Nat → Nat → Prop
  | lo, 0 => p (hk Hs lo) (hk Hs (lo + d))
  | lo, m + 1 => p (hk Hs lo) (hk Hs (lo + d)) ∧ pHs Hs p d (lo + 1) m
def dOf (b : Bool) : Nat := match b with
  | true => 1
  | false => 0
def pDr (P : Program) (tt : TT) (imm : List Nat) (ops : List Oper) (D : Draw) (Hs : List PH) : Nat → List Oper → Env → (Env → Prop) → Prop
  | _, [], E, K => K E
  | i, o :: rest, E, K => ∃ v, pHs Hs (Obl P tt imm ops D i o E v) (dOf (D.isImp i)) (D.winOf i).1 ((D.winOf i).2 - (D.winOf i).1) ∧ pDr P tt imm ops D Hs (i + 1) rest (stepO D i o v E) K

def cnt (p : Nat → Bool) : Nat → Nat
  | 0 => 0
  | n + 1 => cnt p n + (match p n with | true => 1 | false => 0)
def allN (p : Nat → Bool) : Nat → Bool
  | 0 => true
  | n + 1 => p n && allN p n
def dstIs (ops : List Oper) (j t : Nat) : Bool := match (ops[j]?).bind (·.dst) with
  | some d => Nat.beq d t
  | none => false
def touch (ops : List Oper) (D : Draw) (j t : Nat) : Bool := dstIs ops j t || (D.consOf j).contains t
def ord (A : List (List Bool)) (i j : Nat) : Bool := Nat.beq i j || (Nat.blt j i && W A i j) || (Nat.blt i j && W A j i)
def opOk (N n : Nat) (ops : List Oper) (A : List (List Bool)) (D : Draw) (i : Nat) (o : Oper) : Bool :=
  o.after.toList.all (fun e => !Region.binds .any e || Nat.blt e.on i) &&
  (match o.dst with
   | some d => Nat.blt d N && allN (fun j => !touch ops D j d || ord A i j) n
   | none => true) &&
  (D.consOf i).all (fun t => allN (fun j => !touch ops D j t || ord A i j) n) &&
  (opReads ops o).all (fun t => allN (fun j => !dstIs ops j t || ord A i j) n) &&
  (!D.isImp i || allN (fun j => !D.isImp j || ord A i j) n) &&
  Nat.ble (D.winOf i).1 (cnt (fun j => D.isImp j && W A i j) n) &&
  Nat.ble (cnt (fun j => D.isImp j && (!Nat.beq j i && !W A j i)) n) (D.winOf i).2
def fsOk (n : Nat) (ops : List Oper) (A : List (List Bool)) (p : Nat × Nat × Src) : Bool :=
  Nat.blt p.1 n && Nat.blt p.2.1 n && W A p.2.1 p.1 && (match (ops[p.1]?).bind (·.dst) with
    | some t => allN (fun j => !dstIs ops j t || Nat.beq j p.1 || W A p.1 j || W A j p.2.1 || Nat.beq j p.2.1) n && (match p.2.2 with
      | .slot s => !Nat.beq s t && allN (fun j => !dstIs ops j s || W A p.1 j || W A j p.2.1 || Nat.beq j p.2.1) n
      | .cell _ _ => true)
    | none => false)
def drawOk (N : Nat) (ops : List Oper) (D : Draw) : Bool :=
  let A := ancs ops []
  allN (fun i => match ops[i]? with | some o => opOk N ops.length ops A D i o | none => true) ops.length && D.fs.all (fsOk ops.length ops A)
def sameVer (id : Nat) (H H' : PH) : Prop := ∃ o o', H[id]? = some o ∧ H'[id]? = some o' ∧ o'.ver = o.ver
def pVers (D : Draw) (Hs : List PH) : List (Nat × Nat × Src) → Prop
  | [] => True
  | (j, i, s) :: r => (match s with
    | .cell id _ => ∀ k, (D.winOf j).1 ≤ k → k < (D.winOf i).2 → sameVer id (hk Hs k) (hk Hs (k + 1))
    | .slot _ => True) ∧ pVers D Hs r

structure drawK (P : Program) (tt : TT) (imm : List Nat) (N : Nat) (ops : List Oper) (E : Env) (H : PH) (K : Env → PH → Prop) : Prop where
  mk ::
  h : ∃ (D : Draw) (Hs : List PH), drawOk N ops D = true ∧ hk Hs 0 = H ∧ pVers D Hs D.fs ∧ pDr P tt imm ops D Hs 0 ops E fun E' => K E' (hk Hs (cnt D.isImp ops.length))

def pCode (P : Program) (tt : TT) (imm : List Nat) (N : Nat) : Code → Env → PH → (Ex → Env → PH → Prop) → Prop
  | .skip, E, H, K => K .normal E H
  | .ret, E, H, K => K .ret E H
  | .exit i, E, H, K => K (.exit i) E H
  | .region _ ops draw, E, H, K => match draw with
    | false => pOps P tt imm N ops.toList ops.toList E [] H (K .normal)
    | true => drawK P tt imm N ops.toList E H (K .normal)
  | .seq a b, E, H, K => pCode P tt imm N a E H fun e E' H' => match e with
    | .normal => pCode P tt imm N b E' H' K
    | .ret => K .ret E' H'
    | .exit j => K (.exit j) E' H'
  | .cond c a b, E, H, K => match opnd E c with
    | .bool t => match t with
      | true => pCode P tt imm N a E H K
      | false => pCode P tt imm N b E H K
    | _ => False
  | .block i c, E, H, K => pCode P tt imm N c E H fun e E' H' => match e with
    | .exit j => match Nat.beq j i with
      | true => K .normal E' H'
      | false => K (.exit j) E' H'
    | .ret => K .ret E' H'
    | .normal => K .normal E' H'
  | .loop c, E, H, K => loopK (fun E H K => pCode P tt imm N c E H K) E H K
  | _, _, _, _ => False

/-- The results, as a call answers them. -/
def pRes (tt : TT) (H : PH) : List ResultVar → Env → (List PV → Prop) → Prop
  | [], _, K => K []
  | .tmp t :: r, E, K => frc (untup (E.get t)) fun v => pRes tt H r ((t, dem v) :: E) fun vs => K (v :: vs)
  | .cell t T :: r, E, K => pLoad tt T (E.get t) H fun v _ => pRes tt H r E fun vs => K (v :: vs)
def tupOf : List PV → PV
  | [v] => v
  | vs => .tup vs

def pFun (P : Program) (tt : TT) (imm : List Nat) (fn : Func) (args : List PV) (H : PH) (Q : PV → PH → Prop) : Prop := match fn.body with
  | some c => match Nat.ble args.length fn.ntmps with
    | true => pCode P tt imm fn.ntmps c (args0 0 (args.map dem)) H fun e E H' => match e with
      | .exit _ => False
      | .normal => pRes tt H' fn.results.toList E fun vs => Q (tupOf vs) H'
      | .ret => pRes tt H' fn.results.toList E fun vs => Q (tupOf vs) H'
    | false => False
  | none => False

end Ps
