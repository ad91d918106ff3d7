import Derived.Test.YtbejjlmdmakdfaaGreatDoorA0
import Derived.Test.YtbejjlmdmakdfaaGreatDoorPsC
import Derived.Tactics
import Derived.Tactics2
import Derived.Defers
import Derived.Laws.Pointers
import Derived.Laws.LoneSync
import Derived.RegionTactic
import Derived.RegionCalls
set_option linter.all false
set_option maxRecDepth 100000
set_option maxHeartbeats 1000000
set_option linter.unusedVariables false
set_option linter.unusedSimpArgs false
namespace Go.Proofs.Tryz
open Go Ps
def ttS : TT := [(2, ⟨.int .i64, 1, 8, [.int .i64 0]⟩), (3, ⟨.int .i64, 1, 8, [.int .i64 0]⟩), (4, ⟨.bool, 1, 1, [.bool false]⟩), (5, ⟨.int .u8, 1, 1, [.int .u8 0]⟩), (22, ⟨.slice 5, 1, 24, [.slice 0 [] (some 5)]⟩), (91, ⟨.ptr, 1, 8, [.ptr none]⟩), (165, ⟨.ptr, 1, 8, [.ptr none]⟩), (166, ⟨.arr 16 5, 16, 16, List.replicate 16 (.int .u8 0)⟩), (171, ⟨.strB [(168, 0), (169, 0), (2, 0)], 1, 8, [.int .i64 0]⟩), (173, ⟨.strct [(165, 0), (166, 1), (171, 17), (171, 18), (171, 19)], 20, 48, [.ptr none] ++ List.replicate 16 (.int .u8 0) ++ [.int .i64 0, .int .i64 0, .int .i64 0]⟩), (176, ⟨.int .u64, 1, 8, [.int .u64 0]⟩), (201, ⟨.slice 22, 1, 24, [.slice 0 [] (some 22)]⟩), (211, ⟨.ptr, 1, 8, [.ptr none]⟩), (217, ⟨.int .u32, 1, 4, [.int .u32 0]⟩), (246, ⟨.slice 217, 1, 24, [.slice 0 [] (some 217)]⟩)]
theorem ttS_ok : ttOk prog ttS = true := by kernel_rfl
def imm93 : List Nat := []
def imm110 : List Nat := []
def imm92 : List Nat := []
def imm94 : List Nat := [5]
def imm107 : List Nat := []
def imm96 : List Nat := []
def imm95 : List Nat := []
def imm34 : List Nat := []
def imm45 : List Nat := []
def imm47 : List Nat := []
def imm141 : List Nat := []
def imm140 : List Nat := []
theorem c139 {H : PH} {id off : Nat} {o : PObj} {n : Int} (m : Int) (ho : H[id]? = some o) (hc : o.cs[off]? = some (.int .i64 n)) :
    CallOk prog 139 [.ptr (some (id, off)), .int .i64 m] H fun r H' => r = .int .i64 (IntKind.i64.wrap (n + m)) ∧ H' = H.set id ⟨o.T, setCells off [.int .i64 (IntKind.i64.wrap (n + m))] o.cs, o.ver + 1⟩ :=
  callOk_add func139 (by kernel_rfl) (by kernel_rfl) (by kernel_rfl) .i64 (by kernel_rfl) m ho hc
theorem c152 {H : PH} {id off : Nat} {o : PObj} {n : Int} (ho : H[id]? = some o) (hc : o.cs[off]? = some (.int .i64 n)) :
    CallOk prog 152 [.ptr (some (id, off))] H fun r H' => r = .int .i64 n ∧ H' = H :=
  callOk_load func152 (by kernel_rfl) (by kernel_rfl) (by kernel_rfl) .i64 (by kernel_rfl) ho hc
theorem c93 {H : PH} {id off : Nat} {o : PObj} {n : Int} (m : Int) (ho : H[id]? = some o) (hc : o.cs[off]? = some (.int .i64 n)) :
    CallOk prog 93 [.ptr (some (id, off)), .int .i64 m] H fun r H' => r = .int .i64 (IntKind.i64.wrap (n + m)) ∧ H' = H.set id ⟨o.T, setCells off [.int .i64 (IntKind.i64.wrap (n + m))] o.cs, o.ver + 1⟩ := by
  (refine callOk_of_pFun2 (tt := ttS) (imm := imm93) follows ttS_ok depth6 func93 (by kernel_rfl) ?_; (conv => whnf))
  refine callK_of (c139 m ho hc) ?_
  rintro _ _ ⟨rfl, rfl⟩
  (conv => whnf)
  exact ⟨rfl, rfl⟩
theorem c110 {H : PH} {id off : Nat} {o : PObj} {n : Int} (ho : H[id]? = some o) (hc : o.cs[off]? = some (.int .i64 n)) :
    CallOk prog 110 [.ptr (some (id, off))] H fun r H' => r = .int .i64 n ∧ H' = H := by
  (refine callOk_of_pFun2 (tt := ttS) (imm := imm110) follows ttS_ok depth6 func110 (by kernel_rfl) ?_; (conv => whnf))
  refine callK_of (c152 ho hc) ?_
  rintro _ _ ⟨rfl, rfl⟩
  (conv => whnf)
  exact ⟨rfl, rfl⟩
def isUseB (u : Int) : Bool := decide (0 ≤ u) && decide (u ≤ 255)
theorem c92 (u : Int) : Pure prog 92 [.int .i64 u] (.bool (isUseB u)) := by
  intro H
  (refine callOk_of_pFun2 (tt := ttS) (imm := imm92) follows ttS_ok depth6 func92 (by kernel_rfl) ?_; (conv => whnf))
  refine ⟨fun h => ?_, fun h => ?_⟩
  · (conv => whnf)
    refine ⟨fun h2 => ?_, fun h2 => ?_⟩
    · (conv => whnf)
      exact ⟨congrArg PV.bool (by unfold isUseB; rw [decide_eq_true h, decide_eq_true h2]; rfl), rfl⟩
    · (conv => whnf)
      exact ⟨congrArg PV.bool (by unfold isUseB; rw [decide_eq_true h, decide_eq_false h2]; rfl), rfl⟩
  · (conv => whnf)
    exact ⟨congrArg PV.bool (by unfold isUseB; rw [decide_eq_false h]; rfl), rfl⟩
def byteI (x : Int) : UInt8 := UInt8.ofNat (x % 256).toNat
theorem byteC_I (x : Int) : PV.int .u8 (IntKind.u8.wrap x) = byteC (byteI x) := by
  show PV.int .u8 (x % (2 ^ IntKind.u8.bits : Int)) = PV.int .u8 (((byteI x).toNat : Nat) : Int)
  have : (2 ^ IntKind.u8.bits : Int) = 256 := by decide
  rw [this]
  unfold byteI
  rw [UInt8.toNat_ofNat']
  congr 1
  omega
/-- A number in eight bytes, the highest first. -/
def bigV (n : Int) : List UInt8 := [byteI (ishr .u64 n 56), byteI (ishr .u64 n 48), byteI (ishr .u64 n 40), byteI (ishr .u64 n 32), byteI (ishr .u64 n 24), byteI (ishr .u64 n 16), byteI (ishr .u64 n 8), byteI (ishr .u64 n 0)]
def bigC (n : Int) (i : Nat) : List PV := List.replicate (8 - i) (.int .u8 0) ++ ((bigV n).map byteC).drop (8 - i)
theorem c94x (n : Int) (H : PH) : CallOk prog 94 [.int .u64 n] H fun r H' => r = .sref H.length 0 8 8 ∧ ∃ v, H' = H ++ [⟨5, (bigV n).map byteC, v⟩] := by
  (refine callOk_of_pFun2 (tt := ttS) (imm := imm94) follows ttS_ok depth6 func94 (by kernel_rfl) ?_; (conv => whnf))
  refine ⟨by decide, ?_⟩
  (conv => whnf)
  refine loopK_of Nat (fun i => [(0, .int .u64 n), (3, .sref H.length 0 8 8), (7, .int .i64 8), (8, .int .i64 i)]) (fun i => H ++ [⟨5, bigC n i, i⟩]) (fun i => i ≤ 8) (fun i => 8 - i) ⟨0, Nat.zero_le _, ⟨rfl, rfl, rfl, rfl, trivial⟩, rfl⟩ ?_
  intro i hi
  match i, hi with
  | 0, _ =>
    (conv => whnf)
    refine ⟨fun _ => ?_, fun h => absurd (show ((0 : Nat) : Int) < 8 by decide) h⟩
    (conv => whnf)
    refine ⟨by decide, ?_⟩
    (conv => whnf)
    refine ⟨⟨by decide, by decide⟩, ?_⟩
    (conv => whnf)
    ((conv in (_[_]?) => tactic => exact (get_last H _)); (conv => whnf))
    refine ⟨1, by decide, ⟨rfl, rfl, rfl, rfl, trivial⟩, ?_, by decide⟩
    refine (set_last H _ _).trans (congrArg (fun o => H ++ [o]) ?_)
    show PObj.mk 5 (setCells 7 [.int .u8 (IntKind.u8.wrap (ishr .u64 n 0))] (bigC n 0)) 1 = PObj.mk 5 (bigC n 1) 1
    rw [byteC_I]
    rfl
  | 1, _ =>
    (conv => whnf)
    refine ⟨fun _ => ?_, fun h => absurd (show ((1 : Nat) : Int) < 8 by decide) h⟩
    (conv => whnf)
    refine ⟨by decide, ?_⟩
    (conv => whnf)
    refine ⟨⟨by decide, by decide⟩, ?_⟩
    (conv => whnf)
    ((conv in (_[_]?) => tactic => exact (get_last H _)); (conv => whnf))
    refine ⟨2, by decide, ⟨rfl, rfl, rfl, rfl, trivial⟩, ?_, by decide⟩
    refine (set_last H _ _).trans (congrArg (fun o => H ++ [o]) ?_)
    show PObj.mk 5 (setCells 6 [.int .u8 (IntKind.u8.wrap (ishr .u64 n 8))] (bigC n 1)) 2 = PObj.mk 5 (bigC n 2) 2
    rw [byteC_I]
    rfl
  | 2, _ =>
    (conv => whnf)
    refine ⟨fun _ => ?_, fun h => absurd (show ((2 : Nat) : Int) < 8 by decide) h⟩
    (conv => whnf)
    refine ⟨by decide, ?_⟩
    (conv => whnf)
    refine ⟨⟨by decide, by decide⟩, ?_⟩
    (conv => whnf)
    ((conv in (_[_]?) => tactic => exact (get_last H _)); (conv => whnf))
    refine ⟨3, by decide, ⟨rfl, rfl, rfl, rfl, trivial⟩, ?_, by decide⟩
    refine (set_last H _ _).trans (congrArg (fun o => H ++ [o]) ?_)
    show PObj.mk 5 (setCells 5 [.int .u8 (IntKind.u8.wrap (ishr .u64 n 16))] (bigC n 2)) 3 = PObj.mk 5 (bigC n 3) 3
    rw [byteC_I]
    rfl
  | 3, _ =>
    (conv => whnf)
    refine ⟨fun _ => ?_, fun h => absurd (show ((3 : Nat) : Int) < 8 by decide) h⟩
    (conv => whnf)
    refine ⟨by decide, ?_⟩
    (conv => whnf)
    refine ⟨⟨by decide, by decide⟩, ?_⟩
    (conv => whnf)
    ((conv in (_[_]?) => tactic => exact (get_last H _)); (conv => whnf))
    refine ⟨4, by decide, ⟨rfl, rfl, rfl, rfl, trivial⟩, ?_, by decide⟩
    refine (set_last H _ _).trans (congrArg (fun o => H ++ [o]) ?_)
    show PObj.mk 5 (setCells 4 [.int .u8 (IntKind.u8.wrap (ishr .u64 n 24))] (bigC n 3)) 4 = PObj.mk 5 (bigC n 4) 4
    rw [byteC_I]
    rfl
  | 4, _ =>
    (conv => whnf)
    refine ⟨fun _ => ?_, fun h => absurd (show ((4 : Nat) : Int) < 8 by decide) h⟩
    (conv => whnf)
    refine ⟨by decide, ?_⟩
    (conv => whnf)
    refine ⟨⟨by decide, by decide⟩, ?_⟩
    (conv => whnf)
    ((conv in (_[_]?) => tactic => exact (get_last H _)); (conv => whnf))
    refine ⟨5, by decide, ⟨rfl, rfl, rfl, rfl, trivial⟩, ?_, by decide⟩
    refine (set_last H _ _).trans (congrArg (fun o => H ++ [o]) ?_)
    show PObj.mk 5 (setCells 3 [.int .u8 (IntKind.u8.wrap (ishr .u64 n 32))] (bigC n 4)) 5 = PObj.mk 5 (bigC n 5) 5
    rw [byteC_I]
    rfl
  | 5, _ =>
    (conv => whnf)
    refine ⟨fun _ => ?_, fun h => absurd (show ((5 : Nat) : Int) < 8 by decide) h⟩
    (conv => whnf)
    refine ⟨by decide, ?_⟩
    (conv => whnf)
    refine ⟨⟨by decide, by decide⟩, ?_⟩
    (conv => whnf)
    ((conv in (_[_]?) => tactic => exact (get_last H _)); (conv => whnf))
    refine ⟨6, by decide, ⟨rfl, rfl, rfl, rfl, trivial⟩, ?_, by decide⟩
    refine (set_last H _ _).trans (congrArg (fun o => H ++ [o]) ?_)
    show PObj.mk 5 (setCells 2 [.int .u8 (IntKind.u8.wrap (ishr .u64 n 40))] (bigC n 5)) 6 = PObj.mk 5 (bigC n 6) 6
    rw [byteC_I]
    rfl
  | 6, _ =>
    (conv => whnf)
    refine ⟨fun _ => ?_, fun h => absurd (show ((6 : Nat) : Int) < 8 by decide) h⟩
    (conv => whnf)
    refine ⟨by decide, ?_⟩
    (conv => whnf)
    refine ⟨⟨by decide, by decide⟩, ?_⟩
    (conv => whnf)
    ((conv in (_[_]?) => tactic => exact (get_last H _)); (conv => whnf))
    refine ⟨7, by decide, ⟨rfl, rfl, rfl, rfl, trivial⟩, ?_, by decide⟩
    refine (set_last H _ _).trans (congrArg (fun o => H ++ [o]) ?_)
    show PObj.mk 5 (setCells 1 [.int .u8 (IntKind.u8.wrap (ishr .u64 n 48))] (bigC n 6)) 7 = PObj.mk 5 (bigC n 7) 7
    rw [byteC_I]
    rfl
  | 7, _ =>
    (conv => whnf)
    refine ⟨fun _ => ?_, fun h => absurd (show ((7 : Nat) : Int) < 8 by decide) h⟩
    (conv => whnf)
    refine ⟨by decide, ?_⟩
    (conv => whnf)
    refine ⟨⟨by decide, by decide⟩, ?_⟩
    (conv => whnf)
    ((conv in (_[_]?) => tactic => exact (get_last H _)); (conv => whnf))
    refine ⟨8, by decide, ⟨rfl, rfl, rfl, rfl, trivial⟩, ?_, by decide⟩
    refine (set_last H _ _).trans (congrArg (fun o => H ++ [o]) ?_)
    show PObj.mk 5 (setCells 0 [.int .u8 (IntKind.u8.wrap (ishr .u64 n 56))] (bigC n 7)) 8 = PObj.mk 5 (bigC n 8) 8
    rw [byteC_I]
    rfl
  | 8, _ =>
    (conv => whnf)
    refine ⟨fun h => absurd h (by decide), fun _ => ?_⟩
    (conv => whnf)
    exact ⟨rfl, 8, rfl⟩
theorem c94 (n : Int) : Pure prog 94 [.int .u64 n] (sl (bigV n)) := fun H => by
  refine CallOk.frz (nn := 8) (cs := (bigV n).map byteC) (c94x n H) fun r H' hh => ?_
  obtain ⟨rfl, v, rfl⟩ := hh
  exact ⟨_, H.length, 8, _, rfl, rfl, Nat.le_refl _, get_last H _, Nat.le_refl _, rfl, rfl⟩
/-- Bytes as a number, the highest first. -/
def beN (l : List UInt8) : Nat := l.foldl (fun n c => n * 256 + c.toNat) 0
theorem beN_snoc (l : List UInt8) (c : UInt8) : beN (l ++ [c]) = beN l * 256 + c.toNat := by simp [beN]
theorem beN_lt (l : List UInt8) : ∀ {n : Nat}, l.length = n → beN l < 256 ^ n := by
  intro n
  induction n generalizing l with
  | zero => intro h; rw [List.length_eq_zero_iff.1 h]; decide
  | succ n ih =>
    intro h
    have hne : l ≠ [] := by rintro rfl; simp at h
    have hd := List.dropLast_concat_getLast hne
    rw [← hd, beN_snoc, Nat.pow_succ]
    have := ih l.dropLast (by simp [h])
    have := (l.getLast hne).toNat_lt
    omega
theorem be_step (l : List UInt8) (c : UInt8) (h : l.length < 8) : IntKind.u64.wrap (ishl .u64 (beN l : Nat) 8 + IntKind.u64.wrap c.toNat) = ((beN (l ++ [c]) : Nat) : Int) := by
  have hc := c.toNat_lt
  have h1 := beN_lt l rfl
  rw [pow8] at h1
  have h3 : 2 ^ (8 * (l.length + 1)) ≤ 18446744073709551616 := pow_le8 (by omega)
  have h4 : 2 ^ (8 * (l.length + 1)) = 256 * 2 ^ (8 * l.length) := by rw [Nat.mul_add, Nat.pow_add]; omega
  have h5 : beN l * 256 < 18446744073709551616 := by omega
  have e : ishl .u64 (beN l : Nat) 8 = ((beN l * 256 : Nat) : Int) := by
    show IntKind.u64.wrap ((beN l : Int) * 2 ^ (min (8 : Int).toNat 64)) = _
    have : ((beN l : Int) * 2 ^ (min (8 : Int).toNat 64)) = ((beN l * 256 : Nat) : Int) := by push_cast; rfl
    rw [this]
    exact wrapU64 h5
  rw [e, wrapU64 (by omega), beN_snoc, ← wrapU64 (n := beN l * 256 + c.toNat) (by omega)]
  congr 1
theorem c107 (b : List UInt8) (hb : b.length ≤ 8) : Pure prog 107 [sl b] (.int .u64 (beN b)) := by
  intro H
  (refine callOk_of_pFun2 (tt := ttS) (imm := imm107) follows ttS_ok depth6 func107 (by kernel_rfl) ?_; (conv => whnf))
  refine loopK_of Nat (fun i => [(6, sl b), (7, .int .i64 b.length), (8, .int .i64 i), (3, .int .u64 (beN (b.take i)))]) (fun _ => H) (fun i => i ≤ b.length) (fun i => b.length - i) ⟨0, Nat.zero_le _, ⟨rfl, rfl, rfl, rfl, trivial⟩, rfl⟩ ?_
  intro i hi
  (conv => whnf)
  refine ⟨fun h => ?_, fun h => ?_⟩
  · have h : (i : Int) < b.length := h
    have hi' : i < b.length := by omega
    (conv => whnf)
    refine ⟨⟨by omega, h⟩, [byteC b[i]], at1' (k := (i : Int).toNat * 1) (by rw [Int.toNat_natCast, Nat.mul_one, List.getElem?_map, List.getElem?_eq_getElem hi']; rfl), ?_⟩
    (conv => whnf)
    refine ⟨by decide, ?_⟩
    (conv => whnf)
    refine ⟨i + 1, by omega, ⟨rfl, rfl, ?_, ?_, trivial⟩, rfl, by omega⟩
    · show PV.int _ (IntKind.i64.wrap ((i : Int) + 1)) = PV.int _ _
      rw [wrap64 (by omega) (by omega)]; simp
    · show PV.int _ (IntKind.u64.wrap (ishl .u64 (beN (b.take i) : Nat) 8 + IntKind.u64.wrap (b[i].toNat : Int))) = PV.int _ _
      rw [List.take_succ_eq_append_getElem hi']
      have hl : (b.take i).length = i := by rw [List.length_take]; omega
      rw [be_step (b.take i) b[i] (by omega)]
  · have h : ¬ (i : Int) < b.length := h
    have e : b.take i = b := List.take_of_length_le (by omega)
    rw [e]
    (conv => whnf)
    exact ⟨rfl, rfl⟩
end Go.Proofs.Tryz

set_option maxRecDepth 100000
set_option maxHeartbeats 1000000
set_option linter.unusedVariables false
set_option linter.unusedSimpArgs false
namespace Go.Proofs.Tryz
open Go Ps
/-- Bytes, a value of its own. -/
def ow (b : List UInt8) : PV := .slice b.length (b.map byteC) (some 5)
theorem psize5 : psize prog 5 = 1 := by kernel_rfl
theorem allFlat (b : List UInt8) : (b.map byteC).all flatP = true := List.all_eq_true.2 fun x hx => by
  obtain ⟨b, _, rfl⟩ := List.mem_map.1 hx
  rfl
theorem clone140 (b : List UInt8) (hb : b.length ≤ 140737488355328) : Pure prog 140 [sl b] (ow b) := by
  intro H
  (refine callOk_of_pFun2 (tt := ttS) (imm := imm140) follows ttS_ok depth6 func140 (by kernel_rfl) ?_; (conv => whnf))
  have happ : (0 + b.length) * 1 ≤ 140737488355328 ∧ (b.map byteC).length = b.length * 1 ∧ (b.map byteC).all oneP = true := ⟨by omega, by simp, allOne b⟩
  refine ⟨fun h => ?_, fun h => ⟨?_, ?_⟩⟩
  · (conv => whnf)
    refine ⟨happ, ?_⟩
    (conv => whnf)
    exact ⟨by rw [Nat.zero_add]; rfl, rfl⟩
  · (conv => whnf)
    have e : b = [] := List.length_eq_zero_iff.1 h
    subst e
    exact ⟨rfl, rfl⟩
  · (conv => whnf)
    refine ⟨happ, ?_⟩
    (conv => whnf)
    exact ⟨by rw [Nat.zero_add]; rfl, rfl⟩
theorem c140o (b : List UInt8) (hb : b.length ≤ 140737488355328) (h0 : 0 < b.length) (H : PH) :
    CallOk prog 140 [sl b] H fun r H' => ∃ cap k, r = .sref H.length 0 b.length cap ∧ b.length + k = cap ∧ H' = H ++ [⟨5, b.map byteC ++ List.replicate k PV.undef, 0⟩] := by
  refine (CallOk.obj (n := b.length) (cs := b.map byteC) (clone140 b hb H) h0 psize5 (allFlat b)).mono fun r H' hh => ?_
  obtain ⟨cap, k, h1, h2, h3, h4⟩ := hh
  rw [List.length_map] at h2
  exact ⟨cap, k, h3, by omega, h4⟩
/-- A Box: its cipher's object, the other half of its key, its counts. -/
def boxS (sid : Nat) (sp : List UInt8) (s o r : Int) (v : Nat) : PObj := ⟨173, [.ptr (some (sid, 0))] ++ sp.map byteC ++ [.int .i64 s, .int .i64 o, .int .i64 r], v⟩
theorem boxO_eq (k : List UInt8) (n : Nat) : boxO k n = boxS n (k.drop 16) 0 0 0 0 := rfl
def tagV (sp : List UInt8) (u : Int) (ahead : List UInt8) : List UInt8 := bigV (sipV sp (byteI u :: ahead))
theorem bigV_len (n : Int) : (bigV n).length = 8 := rfl
theorem c96 (sid : Nat) (sp : List UInt8) (hsp : sp.length = 16) (s o r : Int) (v : Nat) (u : Int) (ahead : List UInt8) (ha : ahead.length ≤ 1000000) (bid : Nat) (H : PH) (hb : H[bid]? = some (boxS sid sp s o r v)) :
    CallOk prog 96 [.ptr (some (bid, 0)), .int .i64 u, sl ahead] H fun x H' => x = sl (tagV sp u ahead) ∧ H' = H := by
  obtain ⟨k0, k1, k2, k3, k4, k5, k6, k7, k8, k9, ka, kb, kc, kd, ke, kf, rfl⟩ := len16 hsp
  (refine callOk_of_pFun2 (tt := ttS) (imm := imm96) follows ttS_ok depth6 func96 (by kernel_rfl) ?_; (conv => whnf))
  ((conv in (_[_]?) => tactic => exact hb); (conv => whnf))
  have hfl : [[byteI u], ahead].flatten = byteI u :: ahead := by simp
  have hc := c142 [k0, k1, k2, k3, k4, k5, k6, k7, k8, k9, ka, kb, kc, kd, ke, kf] (by simp) [[byteI u], ahead] (by simp) (by rw [hfl]; simp; omega) (Reps.sl H [[byteI u], ahead])
  rw [hfl] at hc
  refine callK_args (args' := [.agg ([k0, k1, k2, k3, k4, k5, k6, k7, k8, k9, ka, kb, kc, kd, ke, kf].map byteC), .slice 2 ([[byteI u], ahead].map sl) none]) ?_ (callK_of hc ?_)
  · have := byteC_I u
    show [PV.agg _, PV.slice 2 [.slice 1 [.int .u8 (IntKind.u8.wrap u)] none, sl ahead] none] = [PV.agg _, PV.slice 2 [.slice 1 [byteC (byteI u)] none, sl ahead] none]
    rw [this]
    rfl
  rintro _ _ ⟨rfl, rfl⟩
  (conv => whnf)
  refine callK_pure (c94 _) ?_
  (conv => whnf)
  exact ⟨rfl, rfl⟩
def xorL (p st : List UInt8) : List UInt8 := List.zipWith (· ^^^ ·) p st
theorem xorL_len (p st : List UInt8) (h : st.length = p.length) : (xorL p st).length = p.length := by
  unfold xorL; rw [List.length_zipWith]; omega
theorem xor8 (c d : UInt8) : PV.int .u8 (ibits .xor .u8 (c.toNat : Int) (d.toNat : Int)) = byteC (c ^^^ d) := by
  show PV.int .u8 (IntKind.u8.wrap ((BitVec.ofInt 8 (c.toNat : Int) ^^^ BitVec.ofInt 8 (d.toNat : Int)).toNat : Int)) = PV.int .u8 (((c ^^^ d).toNat : Nat) : Int)
  have hb : ∀ {x : UInt8}, BitVec.ofInt 8 (x.toNat : Int) = x.toBitVec := fun {x} => by
    apply BitVec.eq_of_toNat_eq
    rw [BitVec.toNat_ofInt]
    have := x.toNat_lt
    show _ = x.toNat
    omega
  rw [hb, hb]
  have : ((c.toBitVec ^^^ d.toBitVec).toNat) = (c ^^^ d).toNat := rfl
  rw [this]
  congr 1
  have := (c ^^^ d).toNat_lt
  show (((c ^^^ d).toNat : Nat) : Int) % (2 ^ IntKind.u8.bits : Int) = _
  have e : (2 ^ IntKind.u8.bits : Int) = 256 := by decide
  rw [e]; omega
/-- Some bytes done. -/
def curX (p st : List UInt8) (i : Nat) : List UInt8 := (xorL p st).take i ++ p.drop i
theorem curX_len (p st : List UInt8) (i : Nat) (h : st.length = p.length) (hi : i ≤ p.length) : (curX p st i).length = p.length := by
  unfold curX
  rw [List.length_append, List.length_take, List.length_drop, xorL_len p st h]; omega
theorem curX_get (p st : List UInt8) (i : Nat) (h : st.length = p.length) (hi : i < p.length) : (curX p st i)[i]? = some p[i] := by
  unfold curX
  rw [List.getElem?_append_right (by rw [List.length_take, xorL_len p st h]; omega), List.length_take, xorL_len p st h, List.getElem?_drop]
  have : i + (i - min i p.length) = i := by omega
  rw [this]; exact List.getElem?_eq_getElem hi
theorem curX_set (p st : List UInt8) (i : Nat) (h : st.length = p.length) (hi : i < p.length) : (curX p st i).set i (p[i] ^^^ st[i]) = curX p st (i + 1) := by
  unfold curX
  have hx : i < (xorL p st).length := by rw [xorL_len p st h]; exact hi
  rw [List.set_append_right _ _ (by rw [List.length_take]; omega), List.length_take, Nat.min_eq_left (by omega), Nat.sub_self, List.drop_eq_getElem_cons hi, List.set_cons_zero, List.take_succ_eq_append_getElem hx, List.append_assoc, List.singleton_append]
  congr 2
  have : ∀ (a b : List UInt8) (h : i < (List.zipWith (· ^^^ ·) a b).length) (ha : i < a.length) (hb : i < b.length), a[i] ^^^ b[i] = (List.zipWith (· ^^^ ·) a b)[i] := fun a b h ha hb => by simp
  exact this p st hx hi (by omega)
def mixN (nn u : Int) : Int := IntKind.u64.wrap (ishl .u64 nn 8 + IntKind.u64.wrap u)
structure MixS where
  i : Nat
theorem c95x (OkS : PObj → Prop) (so : PObj) (sid : Nat) (nn u : Int) (p st : List UInt8) (hl : st.length = p.length) (hp : 0 < p.length) (hp2 : p.length ≤ 1000000)
    (hst : ∀ H : PH, H[sid]? = some so → CallOk prog 141 [.ptr (some (sid, 0)), .int .u64 (mixN nn u), .int .i64 p.length] H fun r H' => r = sl st ∧ ∃ o', OkS o' ∧ H' = H.set sid o')
    (sp : List UInt8) (hsp : sp.length = 16) (s o r : Int) (v : Nat) (bid : Nat) (H : PH) (hb : H[bid]? = some (boxS sid sp s o r v)) (hs : H[sid]? = some so) :
    CallOk prog 95 [.ptr (some (bid, 0)), .int .i64 u, .int .u64 nn, sl p] H fun x H' => ∃ cap k o' vv, x = .sref H.length 0 p.length cap ∧ p.length + k = cap ∧ OkS o' ∧ H' = H.set sid o' ++ [⟨5, (xorL p st).map byteC ++ List.replicate k PV.undef, vv⟩] := by
  obtain ⟨k0, k1, k2, k3, k4, k5, k6, k7, k8, k9, ka, kb, kc, kd, ke, kf, rfl⟩ := len16 hsp
  have hsl : sid < H.length := (List.getElem?_eq_some_iff.1 hs).1
  (refine callOk_of_pFun2 (tt := ttS) (imm := imm95) follows ttS_ok depth6 func95 (by kernel_rfl) ?_; (conv => whnf))
  refine callK_of (c140o p (by omega) hp H) ?_
  rintro _ _ ⟨cap, k, rfl, hk, rfl⟩
  (conv => whnf)
  have hb' : (H ++ [(⟨5, p.map byteC ++ List.replicate k PV.undef, 0⟩ : PObj)])[bid]? = some (boxS sid [k0, k1, k2, k3, k4, k5, k6, k7, k8, k9, ka, kb, kc, kd, ke, kf] s o r v) := by
    rw [List.getElem?_append_left (List.getElem?_eq_some_iff.1 hb).1]; exact hb
  ((conv in (_[_]?) => tactic => exact hb'); (conv => whnf))
  refine ⟨by decide, ?_⟩
  (conv => whnf)
  refine callK_of (Q := fun r H' => r = sl st ∧ ∃ o', OkS o' ∧ H' = H.set sid o' ++ [⟨5, (curX p st 0).map byteC ++ List.replicate k PV.undef, 0⟩]) ((hst (H ++ [_]) (by rw [List.getElem?_append_left hsl]; exact hs)).mono fun r H' hh => ?_) ?_
  · obtain ⟨h1, o', h2, h3⟩ := hh
    exact ⟨h1, o', h2, by rw [h3, List.set_append_left _ _ hsl]; rfl⟩
  rintro _ _ ⟨rfl, o', ho', rfl⟩
  (conv => whnf)
  have hKl : (H.set sid o').length = H.length := List.length_set
  generalize hK : H.set sid o' = K at hKl
  refine loopK_of MixS (fun x => [(9, .sref H.length 0 p.length cap), (25, sl st), (26, .int .i64 st.length), (27, .int .i64 x.i)]) (fun x => K ++ [⟨5, (curX p st x.i).map byteC ++ List.replicate k PV.undef, x.i⟩]) (fun x => x.i ≤ p.length) (fun x => p.length - x.i) ⟨⟨0⟩, Nat.zero_le _, ⟨rfl, rfl, rfl, rfl, trivial⟩, rfl⟩ ?_
  rintro ⟨i⟩ hi
  replace hi : i ≤ p.length := hi
  have gx : ∀ x : PObj, (K ++ [x])[H.length]? = some x := fun x => by rw [← hKl]; exact get_last K x
  (conv => whnf)
  refine ⟨fun h => ?_, fun h => ?_⟩
  · have h : (i : Int) < st.length := h
    have hi' : i < p.length := by omega
    have his : i < st.length := by omega
    have hcl := curX_len p st i hl hi
    (conv => whnf)
    refine ⟨⟨by omega, h⟩, [byteC st[i]], at1' (k := (i : Int).toNat * 1) (by rw [Int.toNat_natCast, Nat.mul_one, List.getElem?_map, List.getElem?_eq_getElem his]; rfl), ?_⟩
    (conv => whnf)
    refine ⟨⟨by omega, by show (i : Int) < (p.length : Int); omega⟩, ?_⟩
    (conv => whnf)
    ((conv in (_[_]?) => tactic => exact (gx _)); (conv => whnf))
    ((conv in (dropN _ _) => tactic => exact (dropN_app (curX p st i) (List.replicate k PV.undef) (curX_get p st i hl hi'))); (conv => whnf))
    refine ⟨⟨by omega, by show (i : Int) < (p.length : Int); omega⟩, ?_⟩
    (conv => whnf)
    ((conv in (_[_]?) => tactic => exact (gx _)); (conv => whnf))
    ((conv in (Nat.ble _ _) => tactic => exact (show Nat.ble (0 + (i : Int).toNat * 1 + 1) ((curX p st i).map byteC ++ List.replicate k PV.undef).length = true by rw [Nat.ble_eq]; simp [hcl]; omega)); (conv => whnf))
    refine ⟨⟨i + 1⟩, by show i + 1 ≤ p.length; omega, ⟨rfl, rfl, rfl, ?_, trivial⟩, ?_, by show p.length - (i + 1) < p.length - i; omega⟩
    · show PV.int _ (IntKind.i64.wrap ((i : Int) + 1)) = PV.int _ _
      rw [wrap64 (by omega) (by omega)]; simp
    · show (K ++ [_]).set H.length ⟨5, setCells (0 + (i : Int).toNat * 1) [.int .u8 (ibits .xor .u8 (p[i].toNat : Int) (st[i].toNat : Int))] ((curX p st i).map byteC ++ List.replicate k PV.undef), i + 1⟩ = K ++ [⟨5, (curX p st (i + 1)).map byteC ++ List.replicate k PV.undef, i + 1⟩]
      rw [← hKl, set_last, xor8]
      have e : 0 + (i : Int).toNat * 1 = i := by omega
      rw [e, setCells_app _ _ _ _ (by omega), curX_set p st i hl hi']
  · have h : ¬ (i : Int) < st.length := h
    have e : curX p st i = xorL p st := by
      unfold curX
      rw [List.take_of_length_le (by rw [xorL_len p st hl]; omega), List.drop_eq_nil_of_le (by omega), List.append_nil]
    rw [e]
    (conv => whnf)
    exact ⟨cap, k, o', i, rfl, hk, ho', by rw [hK]⟩
theorem get_end {K : PH} {n : Nat} (h : K.length = n) (x : PObj) : (K ++ [x])[n]? = some x := by subst h; exact get_last K x
theorem kept_set {H : PH} {sid : Nat} {o' : PObj} (hs : sid < H.length) (hf : ∀ c ∈ o'.cs, flatP c = true ∨ c ∈ H[sid].cs) : Kept H (H.set sid o') := ⟨List.length_set, fun id o h => by
  by_cases e : id = sid
  · subst e
    rw [List.getElem?_set_self hs] at h
    cases h
    exact ⟨H[id], List.getElem?_eq_getElem hs, hf⟩
  · rw [List.getElem?_set_ne (Ne.symm e)] at h
    exact ⟨o, h, fun c hc => .inr hc⟩⟩
theorem c95 (OkS : PObj → Prop) (hOk : ∀ o', OkS o' → o'.cs.all flatP = true) (so : PObj) (sid : Nat) (nn u : Int) (p st : List UInt8) (hl : st.length = p.length) (hp2 : p.length ≤ 1000000)
    (hst : ∀ H : PH, H[sid]? = some so → CallOk prog 141 [.ptr (some (sid, 0)), .int .u64 (mixN nn u), .int .i64 p.length] H fun r H' => r = sl st ∧ ∃ o', OkS o' ∧ H' = H.set sid o')
    (sp : List UInt8) (hsp : sp.length = 16) (s o r : Int) (v : Nat) (bid : Nat) (H : PH) (hb : H[bid]? = some (boxS sid sp s o r v)) (hs : H[sid]? = some so) :
    CallOk prog 95 [.ptr (some (bid, 0)), .int .i64 u, .int .u64 nn, sl p] H fun x H' => x = sl (xorL p st) ∧ ∃ o', OkS o' ∧ H' = H.set sid o' := by
  have hsl : sid < H.length := (List.getElem?_eq_some_iff.1 hs).1
  rcases Nat.eq_zero_or_pos p.length with hp | hp
  · have hp' : p = [] := List.length_eq_zero_iff.1 hp
    have hst' : st = [] := List.length_eq_zero_iff.1 (by omega)
    subst hp' hst'
    obtain ⟨k0, k1, k2, k3, k4, k5, k6, k7, k8, k9, ka, kb, kc, kd, ke, kf, rfl⟩ := len16 hsp
    (refine callOk_of_pFun2 (tt := ttS) (imm := imm95) follows ttS_ok depth6 func95 (by kernel_rfl) ?_; (conv => whnf))
    refine callK_pure (clone140 [] (by simp)) ?_
    (conv => whnf)
    ((conv in (_[_]?) => tactic => exact hb); (conv => whnf))
    refine ⟨by decide, ?_⟩
    (conv => whnf)
    refine callK_of (hst H hs) ?_
    rintro _ _ ⟨rfl, o', ho', rfl⟩
    (conv => whnf)
    refine loopK_of MixS (fun x => [(9, ow []), (25, sl []), (26, .int .i64 0), (27, .int .i64 0)]) (fun x => H.set sid o') (fun x => True) (fun x => 0) ⟨⟨0⟩, trivial, ⟨rfl, rfl, rfl, rfl, trivial⟩, rfl⟩ ?_
    rintro ⟨i⟩ _
    (conv => whnf)
    refine ⟨fun h => absurd h (by decide), fun _ => ?_⟩
    (conv => whnf)
    exact ⟨rfl, o', ho', rfl⟩
  · have h := c95x OkS so sid nn u p st hl hp hp2 hst sp hsp s o r v bid H hb hs
    refine (CallOk.own (nn := p.length) (cs := (xorL p st).map byteC) (R := fun H' => ∃ o', OkS o' ∧ H' = H.set sid o') h psize5 (by decide) (by rw [List.length_map, xorL_len p st hl, Nat.mul_one]) (allFlat _) (fun x H' hh => ?_)).dem fun x H' hh => ?_
    · obtain ⟨cap, k, o', vv, rfl, hk, ho', rfl⟩ := hh
      refine ⟨H.set sid o', _, H.length, cap, _, rfl, kept_set hsl fun c hc => .inl (List.all_eq_true.1 (hOk o' ho') c hc), ⟨o', ho', rfl⟩, rfl, Nat.le_refl _, get_end List.length_set _, rfl, ?_, ?_⟩
      · show ((xorL p st).map byteC ++ List.replicate k PV.undef).length = _
        rw [List.length_append, List.length_map, List.length_replicate, xorL_len p st hl]; omega
      · show List.take _ ((xorL p st).map byteC ++ List.replicate k PV.undef) = _
        rw [List.take_left]
    · obtain ⟨rfl, hh⟩ := hh
      refine ⟨fun cs hx => (by cases hx), ?_, hh⟩
      unfold sl
      rw [xorL_len p st hl]; rfl
end Go.Proofs.Tryz

set_option maxRecDepth 100000
set_option maxHeartbeats 1000000
set_option linter.unusedVariables false
set_option linter.unusedSimpArgs false
namespace Go.Proofs.Tryz
open Go Ps
theorem Kept.refl (H : PH) : Kept H H := ⟨rfl, fun id o h => ⟨o, h, fun c hc => .inr hc⟩⟩
theorem c94w (n : Int) : Pure prog 94 [.int .u64 n] (ow (bigV n)) := fun H => by
  refine CallOk.own (nn := 8) (cs := (bigV n).map byteC) (R := fun H' => H' = H) (c94x n H) psize5 (by decide) rfl (allFlat _) fun r H' hh => ?_
  obtain ⟨rfl, v, rfl⟩ := hh
  exact ⟨H, _, H.length, 8, _, rfl, Kept.refl H, rfl, rfl, Nat.le_refl _, get_last H _, rfl, rfl, rfl⟩
theorem c141z (sid : Nat) (nn n : Int) (hn : n < 1) (H : PH) : CallOk prog 141 [.ptr (some (sid, 0)), .int .u64 nn, .int .i64 n] H fun r H' => r = sl [] ∧ H' = H := by
  refine CallOk.dem (Q := fun r H' => r = ow [] ∧ H' = H) ?_ fun r H' hh => ⟨fun cs hx => (by rw [hh.1] at hx; cases hx), (by rw [hh.1]; rfl), hh.2⟩
  (refine callOk_of_pFun2 (tt := ttS) (imm := imm141) follows ttS_ok depth6 func141 (by kernel_rfl) ?_; (conv => whnf))
  refine ⟨fun _ => ?_, fun h => absurd hn h⟩
  (conv => whnf)
  exact ⟨rfl, rfl⟩
def sealV (sp : List UInt8) (u nn : Int) (p st : List UInt8) : List UInt8 := (bigV nn ++ xorL p st) ++ tagV sp u (bigV nn ++ xorL p st)
theorem ow_app (a b : List UInt8) : PV.slice (a.length + b.length) (a.map byteC ++ b.map byteC) (some 5) = ow (a ++ b) := by
  unfold ow
  rw [List.length_append, List.map_append]
theorem c34 (OkS : PObj → Prop) (hOk : ∀ o', OkS o' → o'.cs.all flatP = true) (so : PObj) (sid : Nat) (n u : Int) (hu : isUseB u = true) (hn0 : 0 ≤ n) (hn1 : n ≤ 1099511627776) (p st : List UInt8) (hl : st.length = p.length) (hp2 : p.length ≤ 784)
    (hst : ∀ H : PH, H[sid]? = some so → CallOk prog 141 [.ptr (some (sid, 0)), .int .u64 (mixN (IntKind.u64.wrap n) u), .int .i64 p.length] H fun r H' => r = sl st ∧ ∃ o', OkS o' ∧ H' = H.set sid o')
    (sp : List UInt8) (hsp : sp.length = 16) (s o r : Int) (v : Nat) (bid : Nat) (H : PH) (hb : H[bid]? = some (boxS sid sp s o r v)) (hs : H[sid]? = some so) (hne : bid ≠ sid) :
    CallOk prog 34 [.ptr (some (bid, 0)), .int .i64 u, .int .i64 n, sl p] H fun x H' => x = .tup [ow (sealV sp u (IntKind.u64.wrap n) p st), .int .i64 0] ∧ ∃ o', OkS o' ∧ H' = (H.set bid (boxS sid sp (IntKind.i64.wrap (s + 1)) o r (v + 1))).set sid o' := by
  have hs' : (H.set bid (boxS sid sp (IntKind.i64.wrap (s + 1)) o r (v + 1)))[sid]? = some so := by rw [List.getElem?_set_ne hne]; exact hs
  have hb' : (H.set bid (boxS sid sp (IntKind.i64.wrap (s + 1)) o r (v + 1)))[bid]? = some (boxS sid sp (IntKind.i64.wrap (s + 1)) o r (v + 1)) := get_set hb
  have hx := xorL_len p st hl
  (refine callOk_of_pFun2 (tt := ttS) (imm := imm34) follows ttS_ok depth6 func34 (by kernel_rfl) ?_; (conv => whnf))
  refine callK_pure (c92 u) ?_
  rw [hu]
  (conv => whnf)
  refine ⟨fun h => absurd h (by omega), fun _ => ?_⟩
  (conv => whnf)
  refine ⟨fun h => absurd h (by omega), fun _ => ?_⟩
  (conv => whnf)
  refine ⟨fun h => absurd (show (784 : Int) < p.length from h) (by omega), fun _ => ?_⟩
  (conv => whnf)
  refine callK_of (Q := fun x H' => H' = H.set bid (boxS sid sp (IntKind.i64.wrap (s + 1)) o r (v + 1))) ((c93 (off := 17) (n := s) 1 hb ?_).mono fun x H' hh => ?_) ?_
  · obtain ⟨k0, k1, k2, k3, k4, k5, k6, k7, k8, k9, ka, kb, kc, kd, ke, kf, rfl⟩ := len16 hsp
    rfl
  · obtain ⟨k0, k1, k2, k3, k4, k5, k6, k7, k8, k9, ka, kb, kc, kd, ke, kf, rfl⟩ := len16 hsp
    exact hh.2
  rintro x _ rfl
  (conv => whnf)
  refine callK_pure (c94w _) ?_
  (conv => whnf)
  refine callK_of (c95 OkS hOk so sid (IntKind.u64.wrap n) u p st hl (by omega) hst sp hsp (IntKind.i64.wrap (s + 1)) o r (v + 1) bid _ hb' hs') ?_
  rintro _ _ ⟨rfl, o', ho', rfl⟩
  (conv => whnf)
  refine ⟨⟨by show ((8 + (xorL p st).length) * 1 ≤ _); omega, by simp, allOne _⟩, ?_⟩
  (conv => whnf)
  have hb2 : ((H.set bid (boxS sid sp (IntKind.i64.wrap (s + 1)) o r (v + 1))).set sid o')[bid]? = some (boxS sid sp (IntKind.i64.wrap (s + 1)) o r (v + 1)) := by rw [List.getElem?_set_ne (Ne.symm hne)]; exact hb'
  have ha : (bigV (IntKind.u64.wrap n) ++ xorL p st).length ≤ 1000000 := by rw [List.length_append, bigV_len]; omega
  refine callK_args (args' := [.ptr (some (bid, 0)), .int .i64 u, sl (bigV (IntKind.u64.wrap n) ++ xorL p st)]) ?_ (callK_of (c96 sid sp hsp (IntKind.i64.wrap (s + 1)) o r (v + 1) u (bigV (IntKind.u64.wrap n) ++ xorL p st) ha bid _ hb2) ?_)
  · show [_, _, PV.slice ((bigV (IntKind.u64.wrap n)).length + (xorL p st).length) ((bigV (IntKind.u64.wrap n)).map byteC ++ (xorL p st).map byteC) none] = _
    unfold sl
    rw [List.length_append, List.map_append]
  rintro _ _ ⟨rfl, rfl⟩
  (conv => whnf)
  refine ⟨⟨by show ((8 + (xorL p st).length + 8) * 1 ≤ _); omega, by simp, allOne _⟩, ?_⟩
  (conv => whnf)
  refine ⟨?_, o', ho', rfl⟩
  show PV.tup [.slice ((bigV (IntKind.u64.wrap n)).length + (xorL p st).length + (tagV sp u (bigV (IntKind.u64.wrap n) ++ xorL p st)).length) (((bigV (IntKind.u64.wrap n)).map byteC ++ (xorL p st).map byteC) ++ (tagV sp u (bigV (IntKind.u64.wrap n) ++ xorL p st)).map byteC) (some 5), .int .i64 0] = _
  rw [← List.length_append, ← List.map_append, ow_app]
  rfl
theorem c47 (sid : Nat) (sp : List UInt8) (hsp : sp.length = 16) (s o r : Int) (v bid : Nat) (H : PH) (hb : H[bid]? = some (boxS sid sp s o r v)) :
    CallOk prog 47 [.ptr (some (bid, 0))] H fun x H' => x = .tup [.int .i64 s, .int .i64 o, .int .i64 r] ∧ H' = H := by
  obtain ⟨k0, k1, k2, k3, k4, k5, k6, k7, k8, k9, ka, kb, kc, kd, ke, kf, rfl⟩ := len16 hsp
  (refine callOk_of_pFun2 (tt := ttS) (imm := imm47) follows ttS_ok depth6 func47 (by kernel_rfl) ?_; (conv => whnf))
  refine drawK_pure2 (by kernel_rfl) ?_
  (conv => whnf)
  (apply Exists.intro; apply And.intro; (focus ((conv => whnf); first | exact ⟨rfl, rfl, trivial⟩ | (refine ⟨by omega, ?_⟩; (conv => whnf); exact ⟨rfl, rfl, trivial⟩))); (conv => whnf))
  (apply Exists.intro; apply And.intro; (focus ((conv => whnf); first | exact ⟨rfl, rfl, trivial⟩ | (refine ⟨by omega, ?_⟩; (conv => whnf); exact ⟨rfl, rfl, trivial⟩))); (conv => whnf))
  (apply Exists.intro; apply And.intro; (focus ((conv => whnf); first | exact ⟨rfl, rfl, trivial⟩ | (refine ⟨by omega, ?_⟩; (conv => whnf); exact ⟨rfl, rfl, trivial⟩))); (conv => whnf))
  refine ⟨_, callK_of (c110 (off := 17) (n := s) hb rfl) (by rintro _ _ ⟨rfl, rfl⟩; exact ⟨rfl, rfl, trivial⟩), ?_⟩
  (conv => whnf)
  (apply Exists.intro; apply And.intro; (focus ((conv => whnf); first | exact ⟨rfl, rfl, trivial⟩ | (refine ⟨by omega, ?_⟩; (conv => whnf); exact ⟨rfl, rfl, trivial⟩))); (conv => whnf))
  (apply Exists.intro; apply And.intro; (focus ((conv => whnf); first | exact ⟨rfl, rfl, trivial⟩ | (refine ⟨by omega, ?_⟩; (conv => whnf); exact ⟨rfl, rfl, trivial⟩))); (conv => whnf))
  (apply Exists.intro; apply And.intro; (focus ((conv => whnf); first | exact ⟨rfl, rfl, trivial⟩ | (refine ⟨by omega, ?_⟩; (conv => whnf); exact ⟨rfl, rfl, trivial⟩))); (conv => whnf))
  refine ⟨_, callK_of (c110 (off := 18) (n := o) hb rfl) (by rintro _ _ ⟨rfl, rfl⟩; exact ⟨rfl, rfl, trivial⟩), ?_⟩
  (conv => whnf)
  (apply Exists.intro; apply And.intro; (focus ((conv => whnf); first | exact ⟨rfl, rfl, trivial⟩ | (refine ⟨by omega, ?_⟩; (conv => whnf); exact ⟨rfl, rfl, trivial⟩))); (conv => whnf))
  (apply Exists.intro; apply And.intro; (focus ((conv => whnf); first | exact ⟨rfl, rfl, trivial⟩ | (refine ⟨by omega, ?_⟩; (conv => whnf); exact ⟨rfl, rfl, trivial⟩))); (conv => whnf))
  (apply Exists.intro; apply And.intro; (focus ((conv => whnf); first | exact ⟨rfl, rfl, trivial⟩ | (refine ⟨by omega, ?_⟩; (conv => whnf); exact ⟨rfl, rfl, trivial⟩))); (conv => whnf))
  refine ⟨_, callK_of (c110 (off := 19) (n := r) hb rfl) (by rintro _ _ ⟨rfl, rfl⟩; exact ⟨rfl, rfl, trivial⟩), ?_⟩
  (conv => whnf)
  (apply Exists.intro; apply And.intro; (focus ((conv => whnf); first | exact ⟨rfl, rfl, trivial⟩ | (refine ⟨by omega, ?_⟩; (conv => whnf); exact ⟨rfl, rfl, trivial⟩))); (conv => whnf))
  (apply Exists.intro; apply And.intro; (focus ((conv => whnf); first | exact ⟨rfl, rfl, trivial⟩ | (refine ⟨by omega, ?_⟩; (conv => whnf); exact ⟨rfl, rfl, trivial⟩))); (conv => whnf))
  (apply Exists.intro; apply And.intro; (focus ((conv => whnf); first | exact ⟨rfl, rfl, trivial⟩ | (refine ⟨by omega, ?_⟩; (conv => whnf); exact ⟨rfl, rfl, trivial⟩))); (conv => whnf))
  exact ⟨rfl, rfl⟩
theorem c45z (u : Int) (hu : isUseB u = true) (b : List UInt8) (hb16 : b.length < 16 ∨ 800 < b.length) (sid : Nat) (sp : List UInt8) (hsp : sp.length = 16) (s o r : Int) (v bid : Nat) (H : PH) (hb : H[bid]? = some (boxS sid sp s o r v)) :
    CallOk prog 45 [.ptr (some (bid, 0)), .int .i64 u, sl b] H fun x H' => x = .tup [ow [], .int .i64 3] ∧ H' = H.set bid (boxS sid sp s o (IntKind.i64.wrap (r + 1)) (v + 1)) := by
  (refine callOk_of_pFun2 (tt := ttS) (imm := imm45) follows ttS_ok depth6 func45 (by kernel_rfl) ?_; (conv => whnf))
  have hb' : (H.set bid (boxS sid sp s o (IntKind.i64.wrap (r + 1)) (v + 1)))[bid]? = some (boxS sid sp s o (IntKind.i64.wrap (r + 1)) (v + 1)) := get_set hb
  have hc93 : CallOk prog 93 [.ptr (some (bid, 0 + 19)), .int .i64 1] H fun x H' => H' = H.set bid (boxS sid sp s o (IntKind.i64.wrap (r + 1)) (v + 1)) := by
    obtain ⟨k0, k1, k2, k3, k4, k5, k6, k7, k8, k9, ka, kb, kc, kd, ke, kf, rfl⟩ := len16 hsp
    exact (c93 (off := 19) (n := r) 1 hb rfl).mono fun x H' hh => hh.2
  refine callK_pure (c92 u) ?_
  rw [hu]
  (conv => whnf)
  refine ⟨fun h => ?_, fun h => ?_⟩
  · (conv => whnf)
    have h : (16 : Int) ≤ b.length := h
    refine ⟨fun h2 => ?_, fun h2 => ?_⟩
    · have h2 : (b.length : Int) ≤ 800 := h2
      omega
    · (conv => whnf)
      refine callK_of hc93 ?_
      rintro x _ rfl
      (conv => whnf)
      exact ⟨rfl, rfl⟩
  · (conv => whnf)
    refine callK_of hc93 ?_
    rintro x _ rfl
    (conv => whnf)
    exact ⟨rfl, rfl⟩
end Go.Proofs.Tryz

set_option maxRecDepth 100000
set_option maxHeartbeats 1000000
set_option linter.unusedVariables false
set_option linter.unusedSimpArgs false
namespace Go.Proofs.Tryz
open Go Ps
def isK (r n : List UInt8) (k : Int) (e : Ent) : Bool := isP r n e && decide ((e.kv : Int) = k)
theorem c91 (e : Ent) (hk : e.key.length = 32) (r n : List UInt8) (k : Int) (H : PH) : CallOk prog 91 [.agg e.cells, .elem [.str r, .str n], .elem [.int .i64 k]] H fun x H' => x = .bool (isK r n k e) ∧ H' = H := by
  obtain ⟨er, en, kv, key, box⟩ := e
  match key, hk with
  | [a0, a1, a2, a3, a4, a5, a6, a7, a8, a9, a10, a11, a12, a13, a14, a15, b0, b1, b2, b3, b4, b5, b6, b7, b8, b9, b10, b11, b12, b13, b14, b15], _ =>
    (refine callOk_of_pFun2 (tt := ttR) (imm := imm91) follows ttR_ok depth6 func91 (by kernel_rfl) ?_; (conv => whnf))
    refine ⟨⟨fitPr _ _, fitPr _ _⟩, ?_⟩
    (conv => whnf)
    refine ⟨fun h => ?_, fun h => ?_⟩
    · have h : [PV.str er, PV.str en] = [PV.str r, PV.str n] := h
      have hp : er = r ∧ en = n := by
        injection h with h1 h2
        injection h1 with h1
        injection h2 with h2 _
        injection h2 with h2
        exact ⟨h1, h2⟩
      (conv => whnf)
      refine ⟨fun h3 => ?_, fun h3 => ?_⟩
      · (conv => whnf)
        have h3 : (kv : Int) = k := h3
        refine ⟨congrArg PV.bool ?_, rfl⟩
        unfold isK isP
        rw [decide_eq_true hp, decide_eq_true h3]; rfl
      · (conv => whnf)
        have h3 : ¬ (kv : Int) = k := h3
        refine ⟨congrArg PV.bool ?_, rfl⟩
        unfold isK isP
        rw [decide_eq_true hp, decide_eq_false h3]; rfl
    · have h : ¬ [PV.str er, PV.str en] = [PV.str r, PV.str n] := h
      (conv => whnf)
      refine ⟨congrArg PV.bool ?_, rfl⟩
      unfold isK isP
      rw [decide_eq_false fun hh => h (by have h1 : er = r := hh.1; have h2 : en = n := hh.2; rw [h1, h2])]; rfl
def boxR : Option Ent → PV
  | none => .tup [.ptr none, .int .i64 4]
  | some e => .tup [.ptr (some (e.box, 0)), .int .i64 0]
theorem c32 {H : PH} {rid v : Nat} {l : List Ent} (hid : H[rid]? = some (ringO l v)) (hl : l.length ≤ 1000) (hk : ∀ e ∈ l, e.key.length = 32) (r n : List UInt8) (k : Int) :
    CallOk prog 32 [.ptr (some (rid, 0)), .agg [.str r, .str n], .int .i64 k] H fun x H' => x = boxR (lastE (isK r n k) l) ∧ H' = H := by
  (refine callOk_of_pFun2 (tt := ttR) (imm := imm32) follows ttR_ok depth6 func32 (by kernel_rfl) ?_; (conv => whnf))
  refine callK_of (c90 hid hl hk (isK r n k) 91 [] [.elem [.str r, .str n], .elem [.int .i64 k]] fun e he => c91 e (hk e he) r n k H) ?_
  rintro x H' ⟨rfl, rfl⟩
  cases he : lastE (isK r n k) l with
  | none =>
    (conv => whnf)
    exact ⟨rfl, rfl⟩
  | some e =>
    have hkey : e.key.length = 32 := hk e (List.mem_reverse.1 (List.mem_of_find?_eq_some he))
    obtain ⟨er, en, kv, key, box⟩ := e
    match key, hkey with
    | [a0, a1, a2, a3, a4, a5, a6, a7, a8, a9, a10, a11, a12, a13, a14, a15, b0, b1, b2, b3, b4, b5, b6, b7, b8, b9, b10, b11, b12, b13, b14, b15], _ =>
      (conv => whnf)
      exact ⟨rfl, rfl⟩
end Go.Proofs.Tryz

set_option maxRecDepth 100000
set_option maxHeartbeats 2000000
set_option linter.unusedVariables false
set_option linter.unusedSimpArgs false
namespace Go.Proofs.Tryz
open Go Ps
def ttSh : TT := [(3, ⟨.int .i64, 1, 8, [.int .i64 0]⟩), (5, ⟨.int .u8, 1, 1, [.int .u8 0]⟩), (9, ⟨.str, 1, 16, [.str []]⟩), (22, ⟨.slice 5, 1, 24, [.slice 0 [] (some 5)]⟩), (24, ⟨.strct [(9, 0), (9, 1)], 2, 32, [.str [], .str []]⟩), (35, ⟨.int .i64, 1, 8, [.int .i64 0]⟩), (49, ⟨.arr 32 5, 32, 32, List.replicate 32 (.int .u8 0)⟩), (79, ⟨.ptr, 1, 8, [.ptr none]⟩), (91, ⟨.ptr, 1, 8, [.ptr none]⟩)]
theorem ttSh_ok : ttOk prog ttSh = true := by kernel_rfl
def imm8 : List Nat := []
def spO : PObj := speckO (List.replicate 0 0 ++ (keyOf1 1).take 16)
def sp1 : List UInt8 := (keyOf1 1).drop 16
def ent1 : Ent := ⟨[65], [120], 1, keyOf1 1, 3⟩
/-- The heap while the law plays. -/
def shH (s r : Int) (v : Nat) : PH := [ringO [ent1] 2, ⟨24, [.str [65], .str [120]], 1⟩, spO, boxS 2 sp1 s 0 r v]
structure ShS where
  i : Nat
  v : Nat
theorem shBox (s r : Int) (v : Nat) : CallOk prog 32 [.ptr (some (0, 0)), .agg [.str [65], .str [120]], .int .i64 1] (shH s r v) fun x H' => x = .tup [.ptr (some (3, 0)), .int .i64 0] ∧ H' = shH s r v :=
  (c32 (H := shH s r v) (rid := 0) (v := 2) (l := [ent1]) rfl (by simp) (fun e he => by
    have : e = ent1 := by simpa using he
    subst this; rfl) [65] [120] 1).mono fun x H' hh => by
    have e : lastE (isK [65] [120] 1) [ent1] = some ent1 := rfl
    rw [e] at hh
    exact hh
theorem shLast (s r : Int) (v : Nat) : CallOk prog 36 [.ptr (some (0, 0)), .agg [.str [65], .str [120]]] (shH s r v) fun x H' => x = .tup [.ptr (some (3, 0)), .int .i64 1, .int .i64 0] ∧ H' = shH s r v :=
  (c36 (H := shH s r v) (rid := 0) (v := 2) (l := [ent1]) rfl (by simp) (fun e he => by
    have : e = ent1 := by simpa using he
    subst this; rfl) [65] [120]).mono fun x H' hh => by
    have e : lastE (isP [65] [120]) [ent1] = some ent1 := rfl
    rw [e] at hh
    exact hh
theorem shSeal (i : Nat) (hi : i ≤ 40) (v : Nat) : CallOk prog 34 [.ptr (some (3, 0)), .int .i64 1, .int .i64 i, sl []] (shH i 0 v) fun x H' => (∃ b, x = .tup [ow b, .int .i64 0]) ∧ H' = shH (i + 1 : Nat) 0 (v + 1) :=
  (c34 (fun o => o = spO) (fun o h => by subst h; rfl) spO 2 i 1 rfl (by omega) (by omega) [] [] rfl (by simp) (fun H hs => (c141z 2 _ _ (by show (0 : Int) < 1; decide) H).mono fun r H' hh => ⟨hh.1, spO, rfl, by rw [hh.2]; exact (set_self hs).symm⟩)
    sp1 rfl i 0 0 v 3 (shH i 0 v) rfl rfl (by decide)).mono fun x H' hh => by
    obtain ⟨h1, o', rfl, h2⟩ := hh
    refine ⟨⟨_, h1⟩, ?_⟩
    rw [h2, wrap64 (by omega) (by omega)]
    rfl
theorem shOpen (n : Int) (j : Nat) (hj : j ≤ 40) (v : Nat) : CallOk prog 45 [.ptr (some (3, 0)), .int .i64 1, sl []] (shH n j v) fun x H' => x = .tup [ow [], .int .i64 3] ∧ H' = shH n (j + 1 : Nat) (v + 1) :=
  (c45z 1 rfl [] (.inl (by simp)) 2 sp1 rfl n 0 j v 3 (shH n j v) rfl).mono fun x H' hh => by
    refine ⟨hh.1, ?_⟩
    rw [hh.2, wrap64 (by omega) (by omega)]
    rfl
theorem shCounts (s r : Int) (v : Nat) : CallOk prog 47 [.ptr (some (3, 0))] (shH s r v) fun x H' => x = .tup [.int .i64 s, .int .i64 0, .int .i64 r] ∧ H' = shH s r v :=
  c47 2 sp1 rfl s 0 r v 3 (shH s r v) rfl
theorem c8 (n m : Int) : CallOk prog 8 [.int .i64 n, .int .i64 m] [] fun r _ => r = .bool true := by
  (refine callOk_of_pFun2 (tt := ttSh) (imm := imm8) follows ttSh_ok depth6 func8 (by kernel_rfl) ?_; (conv => whnf))
  refine ⟨fun h => by (conv => whnf); rfl, fun h1 => ?_⟩
  (conv => whnf)
  refine ⟨fun h => by (conv => whnf); rfl, fun h2 => ?_⟩
  (conv => whnf)
  refine ⟨fun h => by (conv => whnf); rfl, fun h3 => ?_⟩
  (conv => whnf)
  refine ⟨fun h => by (conv => whnf); rfl, fun h4 => ?_⟩
  have h1 : ¬ n < 0 := h1
  have h2 : ¬ (40 : Int) < n := h2
  have h3 : ¬ m < 0 := h3
  have h4 : ¬ (40 : Int) < m := h4
  obtain ⟨a, rfl⟩ : ∃ a : Nat, n = a := ⟨n.toNat, by omega⟩
  obtain ⟨b, rfl⟩ : ∃ b : Nat, m = b := ⟨m.toNat, by omega⟩
  (conv => whnf)
  refine callK_of (c29 []) ?_
  rintro _ _ ⟨rfl, rfl⟩
  (conv => whnf)
  refine callK_of (Q := fun x H' => x = .tup [.int .i64 1, .int .i64 0] ∧ H' = shH 0 0 0) ((c30 (H := [ringO [] 0, ⟨24, [.str [65], .str [120]], 1⟩]) (rid := 0) (v := 0) (l := []) rfl (by simp) (fun e he => by cases he) [65] [120] (keyOf1 1) rfl (by simp) (by simp)).mono fun x H' hh => ?_) ?_
  · refine ⟨?_, ?_⟩
    · rw [hh.1]; rfl
    · rw [hh.2]; rfl
  rintro _ _ ⟨rfl, rfl⟩
  (conv => whnf)
  refine loopK_of ShS (fun x => [(0, .int .i64 a), (1, .int .i64 b), (5, .ptr (some (0, 0))), (6, .ptr (some (1, 0))), (7, .int .i64 x.i)]) (fun x => shH x.i 0 x.v) (fun x => x.i ≤ a) (fun x => a - x.i) ⟨⟨0, 0⟩, Nat.zero_le _, ⟨rfl, rfl, rfl, rfl, rfl, trivial⟩, rfl⟩ ?_
  rintro ⟨i, v⟩ hi
  replace hi : i ≤ a := hi
  (conv => whnf)
  refine ⟨fun h => ?_, fun h => ?_⟩
  · have h : (i : Int) < a := h
    (conv => whnf)
    refine callK_of (shBox i 0 v) ?_
    rintro _ _ ⟨rfl, rfl⟩
    (conv => whnf)
    refine ⟨fun _ => ?_, fun h => absurd rfl h⟩
    (conv => whnf)
    refine callK_of ((shSeal i (by omega) v).nils (.same _ (.same _ (.same _ (.turn .nil))))) ?_
    rintro _ _ ⟨⟨x, rfl⟩, rfl⟩
    (conv => whnf)
    refine ⟨⟨i + 1, v + 1⟩, by show i + 1 ≤ a; omega, ⟨rfl, rfl, rfl, rfl, ?_, trivial⟩, rfl, by show a - (i + 1) < a - i; omega⟩
    show PV.int _ (IntKind.i64.wrap ((i : Int) + 1)) = PV.int _ _
    rw [wrap64 (by omega) (by omega)]; simp
  have h : ¬ (i : Int) < a := h
  have e : i = a := by omega
  subst e
  (conv => whnf)
  refine loopK_of ShS (fun x => [(0, .int .i64 i), (1, .int .i64 b), (5, .ptr (some (0, 0))), (6, .ptr (some (1, 0))), (10, .int .i64 x.i)]) (fun x => shH i x.i x.v) (fun x => x.i ≤ b) (fun x => b - x.i) ⟨⟨0, v⟩, Nat.zero_le _, ⟨rfl, rfl, rfl, rfl, rfl, trivial⟩, rfl⟩ ?_
  rintro ⟨j, w⟩ hj
  replace hj : j ≤ b := hj
  (conv => whnf)
  refine ⟨fun h => ?_, fun h => ?_⟩
  · have h : (j : Int) < b := h
    (conv => whnf)
    refine callK_of (shLast i j w) ?_
    rintro _ _ ⟨rfl, rfl⟩
    (conv => whnf)
    refine ⟨fun _ => ?_, fun h => absurd rfl h⟩
    (conv => whnf)
    refine ⟨fun _ => ?_, fun h => absurd rfl h⟩
    (conv => whnf)
    refine callK_of ((shOpen i j (by omega) w).nils (.same _ (.same _ (.turn .nil)))) ?_
    rintro _ _ ⟨rfl, rfl⟩
    (conv => whnf)
    refine ⟨⟨j + 1, w + 1⟩, by show j + 1 ≤ b; omega, ⟨rfl, rfl, rfl, rfl, ?_, trivial⟩, rfl, by show b - (j + 1) < b - j; omega⟩
    show PV.int _ (IntKind.i64.wrap ((j : Int) + 1)) = PV.int _ _
    rw [wrap64 (by omega) (by omega)]; simp
  have h : ¬ (j : Int) < b := h
  have e : j = b := by omega
  subst e
  (conv => whnf)
  refine callK_of (shBox i j w) ?_
  rintro _ _ ⟨rfl, rfl⟩
  (conv => whnf)
  refine ⟨fun _ => ?_, fun h => absurd rfl h⟩
  (conv => whnf)
  refine callK_of (shCounts i j w) ?_
  rintro _ _ ⟨rfl, rfl⟩
  (conv => whnf)
  refine ⟨fun _ => ?_, fun h => absurd rfl h⟩
  (conv => whnf)
  refine ⟨fun _ => ?_, fun h => absurd rfl h⟩
  (conv => whnf)
  refine ⟨fun _ => ?_, fun h => absurd rfl h⟩
  (conv => whnf)
  refine callK_of (c40 _) ?_
  rintro _ _ rfl
  (conv => whnf)
  rfl
end Go.Proofs.Tryz

set_option maxRecDepth 100000
set_option maxHeartbeats 2000000
set_option linter.unusedVariables false
set_option linter.unusedSimpArgs false
namespace Go.Proofs.Tryz
open Go Ps
def ttO : TT := [(1, ⟨.fn, 1, 8, [.nilF]⟩), (3, ⟨.int .i64, 1, 8, [.int .i64 0]⟩), (4, ⟨.bool, 1, 1, [.bool false]⟩), (5, ⟨.int .u8, 1, 1, [.int .u8 0]⟩), (21, ⟨.int .i32, 1, 4, [.int .i32 0]⟩), (22, ⟨.slice 5, 1, 24, [.slice 0 [] (some 5)]⟩), (165, ⟨.ptr, 1, 8, [.ptr none]⟩), (166, ⟨.arr 16 5, 16, 16, List.replicate 16 (.int .u8 0)⟩), (176, ⟨.int .u64, 1, 8, [.int .u64 0]⟩), (191, ⟨.int .u64, 1, 8, [.int .u64 0]⟩), (217, ⟨.int .u32, 1, 4, [.int .u32 0]⟩), (218, ⟨.arr 27 217, 27, 108, List.replicate 27 (.int .u32 0)⟩), (235, ⟨.strB [(168, 0), (217, 0)], 1, 4, [.int .u32 0]⟩), (237, ⟨.strct [(21, 0), (217, 1)], 2, 8, [.int .i32 0, .int .u32 0]⟩), (239, ⟨.strB [(233, 0), (237, 0)], 2, 8, [.int .i32 0, .int .u32 0]⟩), (241, ⟨.strB [(233, 0), (235, 0), (239, 1)], 3, 12, [.int .u32 0, .int .i32 0, .int .u32 0]⟩), (243, ⟨.strct [(166, 0), (241, 16), (218, 19), (235, 46)], 47, 140, List.replicate 16 (.int .u8 0) ++ [.int .u32 0, .int .i32 0] ++ List.replicate 29 (.int .u32 0)⟩), (246, ⟨.slice 217, 1, 24, [.slice 0 [] (some 217)]⟩), (253, ⟨.arr 4 217, 4, 16, [.int .u32 0, .int .u32 0, .int .u32 0, .int .u32 0]⟩), (284, ⟨.ptr, 1, 8, [.ptr none]⟩), (296, ⟨.ptr, 1, 8, [.ptr none]⟩)]
theorem ttO_ok : ttOk prog ttO = true := by kernel_rfl
def imm199 : List Nat := []
def imm205 : List Nat := []
def imm207 : List Nat := []
def imm216 : List Nat := []
def imm217 : List Nat := []
def imm206 : List Nat := []
def imm198 : List Nat := []
def imm184 : List Nat := []
def imm163 : List Nat := []
def imm185 : List Nat := []
def imm219 : List Nat := []
def rot32S (k : Int) : Int := ibits .and .u64 (IntKind.u64.wrap k) 31
def rot32 (x k : Int) : Int := ibits .or .u32 (ishl .u32 x (rot32S k)) (ishr .u32 x (IntKind.u64.wrap (32 - rot32S k)))
def add32 (x y : Int) : Int := IntKind.u32.wrap (x + y)
def xor32 (x y : Int) : Int := ibits .xor .u32 x y
theorem c185 (x k : Int) : Pure prog 185 [.int .u32 x, .int .i64 k] (.int .u32 (rot32 x k)) := by
  intro H
  (refine callOk_of_pFun2 (tt := ttO) (imm := imm185) follows ttO_ok depth6 func185 (by kernel_rfl) ?_; (conv => whnf))
  refine ⟨u64_nonneg _, ?_⟩
  (conv => whnf)
  refine ⟨u64_nonneg _, ?_⟩
  (conv => whnf)
  exact ⟨rfl, rfl⟩
def S4.O4 (s : S4) (v : Nat) : PObj := ⟨253, [.int .u32 s.a, .int .u32 s.b, .int .u32 s.c, .int .u32 s.d], v⟩
def orB (x : Int) (c : UInt8) (s : Int) : Int := ibits .or .u32 x (ishl .u32 (IntKind.u32.wrap (c.toNat : Int)) s)
/-- The key's four words, after so many bytes. -/
def wN (k : List UInt8) : Nat → S4
  | 0 => ⟨0, 0, 0, 0⟩
  | i + 1 => match i / 4 with
    | 0 => { wN k i with a := orB (wN k i).a (k.getD i 0) (8 * ((i % 4 : Nat) : Int)) }
    | 1 => { wN k i with b := orB (wN k i).b (k.getD i 0) (8 * ((i % 4 : Nat) : Int)) }
    | 2 => { wN k i with c := orB (wN k i).c (k.getD i 0) (8 * ((i % 4 : Nat) : Int)) }
    | _ => { wN k i with d := orB (wN k i).d (k.getD i 0) (8 * ((i % 4 : Nat) : Int)) }
/-- The word, and the next three, at a step. -/
def spN (k : List UInt8) : Nat → S4
  | 0 => wN k 16
  | i + 1 => ⟨xor32 (rot32 (spN k i).a 3) (xor32 (add32 (spN k i).a (rot32 (spN k i).b (-8))) (IntKind.u32.wrap (i : Int))), (spN k i).c, (spN k i).d, xor32 (add32 (spN k i).a (rot32 (spN k i).b (-8))) (IntKind.u32.wrap (i : Int))⟩
def u32C (x : Int) : PV := .int .u32 x
/-- A cipher's object. -/
def keyO (k : List UInt8) (d m s : Int) (l : List Int) (md : Int) (v : Nat) : PObj := ⟨243, (k.map byteC ++ [.int .u32 d, .int .i32 m, .int .u32 s]) ++ l.map u32C ++ [.int .u32 md], v⟩
theorem setCells_mid (p q : List PV) (l : List Int) (i n : Nat) (x : Int) (hi : i < l.length) (e : n = p.length + i) : setCells n [u32C x] (p ++ l.map u32C ++ q) = p ++ (l.set i x).map u32C ++ q := by
  subst e
  rw [setCells_eq _ _ _ (by simp; omega)]
  have h1 : (p ++ l.map u32C ++ q).take (p.length + i) = p ++ (l.take i).map u32C := by
    rw [List.append_assoc, List.take_length_add_append, List.take_append_of_le_length (by rw [List.length_map]; omega), List.map_take]
  have h2 : (p ++ l.map u32C ++ q).drop (p.length + i + [u32C x].length) = (l.drop (i + 1)).map u32C ++ q := by
    rw [List.append_assoc, Nat.add_assoc, List.drop_length_add_append, List.drop_append_of_le_length (by rw [List.length_map]; simp; omega), List.map_drop]; rfl
  rw [h1, h2, List.set_eq_take_append_cons_drop, if_pos hi, List.map_append, List.map_cons]
  simp
def D199_4 : Draw := { imp := [12], win := [] }
structure MkA where
  i : Nat
  v : Nat
theorem S4.look4 (s : S4) (v : Nat) (H : PH) : (H ++ [s.O4 v])[H.length]? = some ⟨253, [.int .u32 s.a, .int .u32 s.b, .int .u32 s.c, .int .u32 s.d], v⟩ := get_last H _
structure MkS where
  i : Nat
  kv : Nat
  lid : Nat
  off : Nat
  cap : Nat
  ob : PObj
  K : PH
/-- The words so far. -/
def spL (k : List UInt8) (l : List Int) (i : Nat) : List Int := (List.range i).map (fun j => (spN k j).a) ++ l.drop i
theorem spL_len (k : List UInt8) (l : List Int) (i : Nat) (hl : l.length = 27) (hi : i ≤ 27) : (spL k l i).length = 27 := by
  unfold spL
  rw [List.length_append, List.length_map, List.length_range, List.length_drop]; omega
theorem spL_set (k : List UInt8) (l : List Int) (i : Nat) (hl : l.length = 27) (hi : i < 27) : (spL k l i).set i (spN k i).a = spL k l (i + 1) := by
  unfold spL
  rw [List.set_append_right _ _ (by simp), List.length_map, List.length_range, Nat.sub_self, List.drop_eq_getElem_cons (by omega), List.set_cons_zero, List.range_succ, List.map_append, List.append_assoc]
  rfl
structure MkOk (k : List UInt8) (d m s md : Int) (l : List Int) (kid : Nat) (H : PH) (x : MkS) : Prop where
  i : x.i ≤ 27
  key : x.K[kid]? = some (keyO k d m s (spL k l x.i) md x.kv)
  ne : x.lid ≠ kid
  new : H.length ≤ x.lid
  lst : x.K[x.lid]? = some x.ob
  three : (x.ob.cs.drop x.off).take 3 = [u32C (spN k x.i).b, u32C (spN k x.i).c, u32C (spN k x.i).d]
  room : x.off + x.cap ≤ x.ob.cs.length
  cap : 3 ≤ x.cap
  len : H.length ≤ x.K.length
  fr : ∀ j, j < H.length → j ≠ kid → x.K[j]? = H[j]?
/-- The words. -/
def spW (k : List UInt8) : List Int := (List.range 27).map fun j => (spN k j).a
theorem setCells_len (k : Nat) (xs cs : List PV) (h : k + xs.length ≤ cs.length) : (setCells k xs cs).length = cs.length := by
  rw [setCells_eq _ _ _ h]
  simp only [List.length_append, List.length_take, List.length_drop]; omega
theorem slide (cs : List PV) (off : Nat) (b c d : PV) (r : List PV) (h : cs.drop off = b :: c :: d :: r) (hr : off + 4 ≤ cs.length) (n : PV) : ((setCells (off + 1 + 2) [n] cs).drop (off + 1)).take 3 = [c, d, n] := by
  have hcs : cs = cs.take off ++ b :: c :: d :: r := by rw [← h, List.take_append_drop]
  have hp : (cs.take off).length = off := by rw [List.length_take]; omega
  generalize cs.take off = p at hcs hp
  subst hcs
  subst hp
  match r, hr with
  | [], hr => simp at hr
  | e :: r', _ =>
    rw [setCells_eq _ _ _ (by simp; omega)]
    have h1 : (p ++ b :: c :: d :: e :: r').take (p.length + 1 + 2) = p ++ [b, c, d] := by
      rw [Nat.add_assoc, List.take_length_add_append]; rfl
    rw [h1, List.append_assoc, List.append_assoc, List.drop_length_add_append]
    rfl
theorem c218 {H : PH} {id off : Nat} {o : PObj} {n : Int} (m : Int) (ho : H[id]? = some o) (hc : o.cs[off]? = some (.int .u32 n)) :
    CallOk prog 218 [.ptr (some (id, off)), .int .u32 m] H fun r H' => r = .tup [] ∧ H' = H.set id ⟨o.T, setCells off [.int .u32 m] o.cs, o.ver + 1⟩ :=
  callOk_store func218 (by kernel_rfl) (by kernel_rfl) (by kernel_rfl) .u32 (by kernel_rfl) m ho hc
theorem c219 : Pure prog 219 [.bool true] (.int .u32 1) := by
  intro H
  (refine callOk_of_pFun2 (tt := ttO) (imm := imm219) follows ttO_ok depth6 func219 (by kernel_rfl) ?_; (conv => whnf))
  exact ⟨rfl, rfl⟩
def D207 : Draw := { imp := [5], win := [] }
theorem c207 {H : PH} {id off : Nat} {o : PObj} {n : Int} (ho : H[id]? = some o) (hc : o.cs[off]? = some (.int .u32 n)) :
    CallOk prog 207 [.ptr (some (id, off)), .bool true] H fun r H' => r = .tup [] ∧ H' = H.set id ⟨o.T, setCells off [.int .u32 1] o.cs, o.ver + 1⟩ := by
  (refine callOk_of_pFun2 (tt := ttO) (imm := imm207) follows ttO_ok depth6 func207 (by kernel_rfl) ?_; (conv => whnf))
  refine drawK_of2 D207 [H, H.set id ⟨o.T, setCells off [.int .u32 1] o.cs, o.ver + 1⟩] (by kernel_rfl) rfl trivial ?_
  (conv => whnf)
  (apply Exists.intro; apply And.intro; (focus ((conv => whnf); first | exact ⟨rfl, rfl, trivial⟩ | (refine ⟨by omega, ?_⟩; (conv => whnf); exact ⟨rfl, rfl, trivial⟩))); (conv => whnf))
  (apply Exists.intro; apply And.intro; (focus ((conv => whnf); first | exact ⟨rfl, rfl, trivial⟩ | (refine ⟨by omega, ?_⟩; (conv => whnf); exact ⟨rfl, rfl, trivial⟩))); (conv => whnf))
  (apply Exists.intro; apply And.intro; (focus ((conv => whnf); first | exact ⟨rfl, rfl, trivial⟩ | (refine ⟨by omega, ?_⟩; (conv => whnf); exact ⟨rfl, rfl, trivial⟩))); (conv => whnf))
  (apply Exists.intro; apply And.intro; (focus ((conv => whnf); first | exact ⟨rfl, rfl, trivial⟩ | (refine ⟨by omega, ?_⟩; (conv => whnf); exact ⟨rfl, rfl, trivial⟩))); (conv => whnf))
  refine ⟨_, callK_pure c219 ⟨rfl, rfl, trivial⟩, ?_⟩
  (conv => whnf)
  refine ⟨_, callK_of (c218 1 ho hc) (by rintro _ _ ⟨rfl, rfl⟩; exact ⟨rfl, rfl, trivial⟩), ?_⟩
  (conv => whnf)
  exact ⟨rfl, rfl⟩
theorem c199x (k : List UInt8) (hk : k.length = 16) (d m s md : Int) (l : List Int) (hl : l.length = 27) (v kid : Nat) (H : PH) (hid : H[kid]? = some (keyO k d m s l md v)) :
    CallOk prog 199 [.ptr (some (kid, 0))] H fun r H' => r = .tup [] ∧ ∃ (K : PH) (kv : Nat), K[kid]? = some (keyO k d m s (spW k) md kv) ∧ H.length ≤ K.length ∧ (∀ j, j < H.length → j ≠ kid → K[j]? = H[j]?) ∧ H' = K.set kid (keyO k d m s (spW k) 1 (kv + 1)) := by
  obtain ⟨k0, k1, k2, k3, k4, k5, k6, k7, k8, k9, ka, kb, kc, kd, ke, kf, rfl⟩ := len16 hk
  have hlt : kid < H.length := (List.getElem?_eq_some_iff.1 hid).1
  (refine callOk_of_pFun2 (tt := ttO) (imm := imm199) follows ttO_ok depth6 func199 (by kernel_rfl) ?_; (conv => whnf))
  have hid1 : (H ++ [(⟨253, [.int .u32 0, .int .u32 0, .int .u32 0, .int .u32 0], 0⟩ : PObj)])[kid]? = some (keyO [k0, k1, k2, k3, k4, k5, k6, k7, k8, k9, ka, kb, kc, kd, ke, kf] d m s l md v) := by rw [List.getElem?_append_left hlt]; exact hid
  ((conv in (_[_]?) => tactic => exact hid1); (conv => whnf))
  obtain ⟨kk, hkk⟩ : ∃ kk : List UInt8, kk = [k0, k1, k2, k3, k4, k5, k6, k7, k8, k9, ka, kb, kc, kd, ke, kf] := ⟨_, rfl⟩
  refine loopK_of Nat (fun x => [(0, .ptr (some (kid, 0))), (2, .ptr (some (H.length, 0))), (12, .agg ([k0, k1, k2, k3, k4, k5, k6, k7, k8, k9, ka, kb, kc, kd, ke, kf].map byteC)), (13, .int .i64 x)]) (fun x => H ++ [(wN kk x).O4 x]) (fun x => x ≤ 16) (fun x => 16 - x) ⟨0, Nat.zero_le _, ⟨rfl, rfl, rfl, rfl, trivial⟩, rfl⟩ ?_
  intro i hi
  match i, hi with
  | 0, _ =>
    (conv => whnf)
    refine ⟨fun _ => ?_, fun h => absurd (show ((0 : Nat) : Int) < 16 by decide) h⟩
    (conv => whnf)
    refine ⟨⟨by decide, by decide⟩, ?_⟩
    (conv => whnf)
    generalize hz : wN kk 0 = z
    refine drawK_of2 D199_4 [H ++ [z.O4 0], H ++ [S4.O4 { z with a := orB z.a k0 0 } 1]] (by kernel_rfl) rfl trivial ?_
    (conv => whnf)
    (apply Exists.intro; apply And.intro; (focus ((conv => whnf); first | exact ⟨rfl, rfl, trivial⟩ | (refine ⟨by omega, ?_⟩; (conv => whnf); exact ⟨rfl, rfl, trivial⟩))); (conv => whnf))
    apply Exists.intro
    apply And.intro
    · (conv => whnf)
      first | exact ⟨rfl, rfl, trivial⟩ | (refine ⟨by decide, ?_⟩; (conv => whnf); exact ⟨rfl, rfl, trivial⟩)
    (conv => whnf)
    apply Exists.intro
    apply And.intro
    · (conv => whnf)
      first | exact ⟨rfl, rfl, trivial⟩ | (refine ⟨by decide, ?_⟩; (conv => whnf); exact ⟨rfl, rfl, trivial⟩)
    (conv => whnf)
    apply Exists.intro
    apply And.intro
    · (conv => whnf)
      ((conv in (_[_]?) => tactic => exact (z.look4 0 H)); (conv => whnf))
      exact ⟨rfl, rfl, trivial⟩
    (conv => whnf)
    (apply Exists.intro; apply And.intro; (focus ((conv => whnf); first | exact ⟨rfl, rfl, trivial⟩ | (refine ⟨by omega, ?_⟩; (conv => whnf); exact ⟨rfl, rfl, trivial⟩))); (conv => whnf))
    (apply Exists.intro; apply And.intro; (focus ((conv => whnf); first | exact ⟨rfl, rfl, trivial⟩ | (refine ⟨by omega, ?_⟩; (conv => whnf); exact ⟨rfl, rfl, trivial⟩))); (conv => whnf))
    (apply Exists.intro; apply And.intro; (focus ((conv => whnf); first | exact ⟨rfl, rfl, trivial⟩ | (refine ⟨by omega, ?_⟩; (conv => whnf); exact ⟨rfl, rfl, trivial⟩))); (conv => whnf))
    apply Exists.intro
    apply And.intro
    · (conv => whnf)
      first | exact ⟨rfl, rfl, trivial⟩ | (refine ⟨by decide, ?_⟩; (conv => whnf); exact ⟨rfl, rfl, trivial⟩)
    (conv => whnf)
    (apply Exists.intro; apply And.intro; (focus ((conv => whnf); first | exact ⟨rfl, rfl, trivial⟩ | (refine ⟨by omega, ?_⟩; (conv => whnf); exact ⟨rfl, rfl, trivial⟩))); (conv => whnf))
    apply Exists.intro
    apply And.intro
    · (conv => whnf)
      first | exact ⟨rfl, rfl, trivial⟩ | (refine ⟨by decide, ?_⟩; (conv => whnf); exact ⟨rfl, rfl, trivial⟩)
    (conv => whnf)
    (apply Exists.intro; apply And.intro; (focus ((conv => whnf); first | exact ⟨rfl, rfl, trivial⟩ | (refine ⟨by omega, ?_⟩; (conv => whnf); exact ⟨rfl, rfl, trivial⟩))); (conv => whnf))
    apply Exists.intro
    apply And.intro
    · (conv => whnf)
      first | exact ⟨rfl, rfl, trivial⟩ | (refine ⟨by decide, ?_⟩; (conv => whnf); exact ⟨rfl, rfl, trivial⟩)
    (conv => whnf)
    apply Exists.intro
    apply And.intro
    · (conv => whnf)
      ((conv in (_[_]?) => tactic => exact (z.look4 0 H)); (conv => whnf))
      exact ⟨rfl, set_last H _ _, trivial⟩
    (conv => whnf)
    refine ⟨1, by decide, ⟨rfl, rfl, rfl, rfl, trivial⟩, ?_, by decide⟩
    subst hz hkk
    rfl
  | 1, _ =>
    (conv => whnf)
    refine ⟨fun _ => ?_, fun h => absurd (show ((1 : Nat) : Int) < 16 by decide) h⟩
    (conv => whnf)
    refine ⟨⟨by decide, by decide⟩, ?_⟩
    (conv => whnf)
    generalize hz : wN kk 1 = z
    refine drawK_of2 D199_4 [H ++ [z.O4 1], H ++ [S4.O4 { z with a := orB z.a k1 8 } 2]] (by kernel_rfl) rfl trivial ?_
    (conv => whnf)
    (apply Exists.intro; apply And.intro; (focus ((conv => whnf); first | exact ⟨rfl, rfl, trivial⟩ | (refine ⟨by omega, ?_⟩; (conv => whnf); exact ⟨rfl, rfl, trivial⟩))); (conv => whnf))
    apply Exists.intro
    apply And.intro
    · (conv => whnf)
      first | exact ⟨rfl, rfl, trivial⟩ | (refine ⟨by decide, ?_⟩; (conv => whnf); exact ⟨rfl, rfl, trivial⟩)
    (conv => whnf)
    apply Exists.intro
    apply And.intro
    · (conv => whnf)
      first | exact ⟨rfl, rfl, trivial⟩ | (refine ⟨by decide, ?_⟩; (conv => whnf); exact ⟨rfl, rfl, trivial⟩)
    (conv => whnf)
    apply Exists.intro
    apply And.intro
    · (conv => whnf)
      ((conv in (_[_]?) => tactic => exact (z.look4 1 H)); (conv => whnf))
      exact ⟨rfl, rfl, trivial⟩
    (conv => whnf)
    (apply Exists.intro; apply And.intro; (focus ((conv => whnf); first | exact ⟨rfl, rfl, trivial⟩ | (refine ⟨by omega, ?_⟩; (conv => whnf); exact ⟨rfl, rfl, trivial⟩))); (conv => whnf))
    (apply Exists.intro; apply And.intro; (focus ((conv => whnf); first | exact ⟨rfl, rfl, trivial⟩ | (refine ⟨by omega, ?_⟩; (conv => whnf); exact ⟨rfl, rfl, trivial⟩))); (conv => whnf))
    (apply Exists.intro; apply And.intro; (focus ((conv => whnf); first | exact ⟨rfl, rfl, trivial⟩ | (refine ⟨by omega, ?_⟩; (conv => whnf); exact ⟨rfl, rfl, trivial⟩))); (conv => whnf))
    apply Exists.intro
    apply And.intro
    · (conv => whnf)
      first | exact ⟨rfl, rfl, trivial⟩ | (refine ⟨by decide, ?_⟩; (conv => whnf); exact ⟨rfl, rfl, trivial⟩)
    (conv => whnf)
    (apply Exists.intro; apply And.intro; (focus ((conv => whnf); first | exact ⟨rfl, rfl, trivial⟩ | (refine ⟨by omega, ?_⟩; (conv => whnf); exact ⟨rfl, rfl, trivial⟩))); (conv => whnf))
    apply Exists.intro
    apply And.intro
    · (conv => whnf)
      first | exact ⟨rfl, rfl, trivial⟩ | (refine ⟨by decide, ?_⟩; (conv => whnf); exact ⟨rfl, rfl, trivial⟩)
    (conv => whnf)
    (apply Exists.intro; apply And.intro; (focus ((conv => whnf); first | exact ⟨rfl, rfl, trivial⟩ | (refine ⟨by omega, ?_⟩; (conv => whnf); exact ⟨rfl, rfl, trivial⟩))); (conv => whnf))
    apply Exists.intro
    apply And.intro
    · (conv => whnf)
      first | exact ⟨rfl, rfl, trivial⟩ | (refine ⟨by decide, ?_⟩; (conv => whnf); exact ⟨rfl, rfl, trivial⟩)
    (conv => whnf)
    apply Exists.intro
    apply And.intro
    · (conv => whnf)
      ((conv in (_[_]?) => tactic => exact (z.look4 1 H)); (conv => whnf))
      exact ⟨rfl, set_last H _ _, trivial⟩
    (conv => whnf)
    refine ⟨2, by decide, ⟨rfl, rfl, rfl, rfl, trivial⟩, ?_, by decide⟩
    subst hz hkk
    rfl
  | 2, _ =>
    (conv => whnf)
    refine ⟨fun _ => ?_, fun h => absurd (show ((2 : Nat) : Int) < 16 by decide) h⟩
    (conv => whnf)
    refine ⟨⟨by decide, by decide⟩, ?_⟩
    (conv => whnf)
    generalize hz : wN kk 2 = z
    refine drawK_of2 D199_4 [H ++ [z.O4 2], H ++ [S4.O4 { z with a := orB z.a k2 16 } 3]] (by kernel_rfl) rfl trivial ?_
    (conv => whnf)
    (apply Exists.intro; apply And.intro; (focus ((conv => whnf); first | exact ⟨rfl, rfl, trivial⟩ | (refine ⟨by omega, ?_⟩; (conv => whnf); exact ⟨rfl, rfl, trivial⟩))); (conv => whnf))
    apply Exists.intro
    apply And.intro
    · (conv => whnf)
      first | exact ⟨rfl, rfl, trivial⟩ | (refine ⟨by decide, ?_⟩; (conv => whnf); exact ⟨rfl, rfl, trivial⟩)
    (conv => whnf)
    apply Exists.intro
    apply And.intro
    · (conv => whnf)
      first | exact ⟨rfl, rfl, trivial⟩ | (refine ⟨by decide, ?_⟩; (conv => whnf); exact ⟨rfl, rfl, trivial⟩)
    (conv => whnf)
    apply Exists.intro
    apply And.intro
    · (conv => whnf)
      ((conv in (_[_]?) => tactic => exact (z.look4 2 H)); (conv => whnf))
      exact ⟨rfl, rfl, trivial⟩
    (conv => whnf)
    (apply Exists.intro; apply And.intro; (focus ((conv => whnf); first | exact ⟨rfl, rfl, trivial⟩ | (refine ⟨by omega, ?_⟩; (conv => whnf); exact ⟨rfl, rfl, trivial⟩))); (conv => whnf))
    (apply Exists.intro; apply And.intro; (focus ((conv => whnf); first | exact ⟨rfl, rfl, trivial⟩ | (refine ⟨by omega, ?_⟩; (conv => whnf); exact ⟨rfl, rfl, trivial⟩))); (conv => whnf))
    (apply Exists.intro; apply And.intro; (focus ((conv => whnf); first | exact ⟨rfl, rfl, trivial⟩ | (refine ⟨by omega, ?_⟩; (conv => whnf); exact ⟨rfl, rfl, trivial⟩))); (conv => whnf))
    apply Exists.intro
    apply And.intro
    · (conv => whnf)
      first | exact ⟨rfl, rfl, trivial⟩ | (refine ⟨by decide, ?_⟩; (conv => whnf); exact ⟨rfl, rfl, trivial⟩)
    (conv => whnf)
    (apply Exists.intro; apply And.intro; (focus ((conv => whnf); first | exact ⟨rfl, rfl, trivial⟩ | (refine ⟨by omega, ?_⟩; (conv => whnf); exact ⟨rfl, rfl, trivial⟩))); (conv => whnf))
    apply Exists.intro
    apply And.intro
    · (conv => whnf)
      first | exact ⟨rfl, rfl, trivial⟩ | (refine ⟨by decide, ?_⟩; (conv => whnf); exact ⟨rfl, rfl, trivial⟩)
    (conv => whnf)
    (apply Exists.intro; apply And.intro; (focus ((conv => whnf); first | exact ⟨rfl, rfl, trivial⟩ | (refine ⟨by omega, ?_⟩; (conv => whnf); exact ⟨rfl, rfl, trivial⟩))); (conv => whnf))
    apply Exists.intro
    apply And.intro
    · (conv => whnf)
      first | exact ⟨rfl, rfl, trivial⟩ | (refine ⟨by decide, ?_⟩; (conv => whnf); exact ⟨rfl, rfl, trivial⟩)
    (conv => whnf)
    apply Exists.intro
    apply And.intro
    · (conv => whnf)
      ((conv in (_[_]?) => tactic => exact (z.look4 2 H)); (conv => whnf))
      exact ⟨rfl, set_last H _ _, trivial⟩
    (conv => whnf)
    refine ⟨3, by decide, ⟨rfl, rfl, rfl, rfl, trivial⟩, ?_, by decide⟩
    subst hz hkk
    rfl
  | 3, _ =>
    (conv => whnf)
    refine ⟨fun _ => ?_, fun h => absurd (show ((3 : Nat) : Int) < 16 by decide) h⟩
    (conv => whnf)
    refine ⟨⟨by decide, by decide⟩, ?_⟩
    (conv => whnf)
    generalize hz : wN kk 3 = z
    refine drawK_of2 D199_4 [H ++ [z.O4 3], H ++ [S4.O4 { z with a := orB z.a k3 24 } 4]] (by kernel_rfl) rfl trivial ?_
    (conv => whnf)
    (apply Exists.intro; apply And.intro; (focus ((conv => whnf); first | exact ⟨rfl, rfl, trivial⟩ | (refine ⟨by omega, ?_⟩; (conv => whnf); exact ⟨rfl, rfl, trivial⟩))); (conv => whnf))
    apply Exists.intro
    apply And.intro
    · (conv => whnf)
      first | exact ⟨rfl, rfl, trivial⟩ | (refine ⟨by decide, ?_⟩; (conv => whnf); exact ⟨rfl, rfl, trivial⟩)
    (conv => whnf)
    apply Exists.intro
    apply And.intro
    · (conv => whnf)
      first | exact ⟨rfl, rfl, trivial⟩ | (refine ⟨by decide, ?_⟩; (conv => whnf); exact ⟨rfl, rfl, trivial⟩)
    (conv => whnf)
    apply Exists.intro
    apply And.intro
    · (conv => whnf)
      ((conv in (_[_]?) => tactic => exact (z.look4 3 H)); (conv => whnf))
      exact ⟨rfl, rfl, trivial⟩
    (conv => whnf)
    (apply Exists.intro; apply And.intro; (focus ((conv => whnf); first | exact ⟨rfl, rfl, trivial⟩ | (refine ⟨by omega, ?_⟩; (conv => whnf); exact ⟨rfl, rfl, trivial⟩))); (conv => whnf))
    (apply Exists.intro; apply And.intro; (focus ((conv => whnf); first | exact ⟨rfl, rfl, trivial⟩ | (refine ⟨by omega, ?_⟩; (conv => whnf); exact ⟨rfl, rfl, trivial⟩))); (conv => whnf))
    (apply Exists.intro; apply And.intro; (focus ((conv => whnf); first | exact ⟨rfl, rfl, trivial⟩ | (refine ⟨by omega, ?_⟩; (conv => whnf); exact ⟨rfl, rfl, trivial⟩))); (conv => whnf))
    apply Exists.intro
    apply And.intro
    · (conv => whnf)
      first | exact ⟨rfl, rfl, trivial⟩ | (refine ⟨by decide, ?_⟩; (conv => whnf); exact ⟨rfl, rfl, trivial⟩)
    (conv => whnf)
    (apply Exists.intro; apply And.intro; (focus ((conv => whnf); first | exact ⟨rfl, rfl, trivial⟩ | (refine ⟨by omega, ?_⟩; (conv => whnf); exact ⟨rfl, rfl, trivial⟩))); (conv => whnf))
    apply Exists.intro
    apply And.intro
    · (conv => whnf)
      first | exact ⟨rfl, rfl, trivial⟩ | (refine ⟨by decide, ?_⟩; (conv => whnf); exact ⟨rfl, rfl, trivial⟩)
    (conv => whnf)
    (apply Exists.intro; apply And.intro; (focus ((conv => whnf); first | exact ⟨rfl, rfl, trivial⟩ | (refine ⟨by omega, ?_⟩; (conv => whnf); exact ⟨rfl, rfl, trivial⟩))); (conv => whnf))
    apply Exists.intro
    apply And.intro
    · (conv => whnf)
      first | exact ⟨rfl, rfl, trivial⟩ | (refine ⟨by decide, ?_⟩; (conv => whnf); exact ⟨rfl, rfl, trivial⟩)
    (conv => whnf)
    apply Exists.intro
    apply And.intro
    · (conv => whnf)
      ((conv in (_[_]?) => tactic => exact (z.look4 3 H)); (conv => whnf))
      exact ⟨rfl, set_last H _ _, trivial⟩
    (conv => whnf)
    refine ⟨4, by decide, ⟨rfl, rfl, rfl, rfl, trivial⟩, ?_, by decide⟩
    subst hz hkk
    rfl
  | 4, _ =>
    (conv => whnf)
    refine ⟨fun _ => ?_, fun h => absurd (show ((4 : Nat) : Int) < 16 by decide) h⟩
    (conv => whnf)
    refine ⟨⟨by decide, by decide⟩, ?_⟩
    (conv => whnf)
    generalize hz : wN kk 4 = z
    refine drawK_of2 D199_4 [H ++ [z.O4 4], H ++ [S4.O4 { z with b := orB z.b k4 0 } 5]] (by kernel_rfl) rfl trivial ?_
    (conv => whnf)
    (apply Exists.intro; apply And.intro; (focus ((conv => whnf); first | exact ⟨rfl, rfl, trivial⟩ | (refine ⟨by omega, ?_⟩; (conv => whnf); exact ⟨rfl, rfl, trivial⟩))); (conv => whnf))
    apply Exists.intro
    apply And.intro
    · (conv => whnf)
      first | exact ⟨rfl, rfl, trivial⟩ | (refine ⟨by decide, ?_⟩; (conv => whnf); exact ⟨rfl, rfl, trivial⟩)
    (conv => whnf)
    apply Exists.intro
    apply And.intro
    · (conv => whnf)
      first | exact ⟨rfl, rfl, trivial⟩ | (refine ⟨by decide, ?_⟩; (conv => whnf); exact ⟨rfl, rfl, trivial⟩)
    (conv => whnf)
    apply Exists.intro
    apply And.intro
    · (conv => whnf)
      ((conv in (_[_]?) => tactic => exact (z.look4 4 H)); (conv => whnf))
      exact ⟨rfl, rfl, trivial⟩
    (conv => whnf)
    (apply Exists.intro; apply And.intro; (focus ((conv => whnf); first | exact ⟨rfl, rfl, trivial⟩ | (refine ⟨by omega, ?_⟩; (conv => whnf); exact ⟨rfl, rfl, trivial⟩))); (conv => whnf))
    (apply Exists.intro; apply And.intro; (focus ((conv => whnf); first | exact ⟨rfl, rfl, trivial⟩ | (refine ⟨by omega, ?_⟩; (conv => whnf); exact ⟨rfl, rfl, trivial⟩))); (conv => whnf))
    (apply Exists.intro; apply And.intro; (focus ((conv => whnf); first | exact ⟨rfl, rfl, trivial⟩ | (refine ⟨by omega, ?_⟩; (conv => whnf); exact ⟨rfl, rfl, trivial⟩))); (conv => whnf))
    apply Exists.intro
    apply And.intro
    · (conv => whnf)
      first | exact ⟨rfl, rfl, trivial⟩ | (refine ⟨by decide, ?_⟩; (conv => whnf); exact ⟨rfl, rfl, trivial⟩)
    (conv => whnf)
    (apply Exists.intro; apply And.intro; (focus ((conv => whnf); first | exact ⟨rfl, rfl, trivial⟩ | (refine ⟨by omega, ?_⟩; (conv => whnf); exact ⟨rfl, rfl, trivial⟩))); (conv => whnf))
    apply Exists.intro
    apply And.intro
    · (conv => whnf)
      first | exact ⟨rfl, rfl, trivial⟩ | (refine ⟨by decide, ?_⟩; (conv => whnf); exact ⟨rfl, rfl, trivial⟩)
    (conv => whnf)
    (apply Exists.intro; apply And.intro; (focus ((conv => whnf); first | exact ⟨rfl, rfl, trivial⟩ | (refine ⟨by omega, ?_⟩; (conv => whnf); exact ⟨rfl, rfl, trivial⟩))); (conv => whnf))
    apply Exists.intro
    apply And.intro
    · (conv => whnf)
      first | exact ⟨rfl, rfl, trivial⟩ | (refine ⟨by decide, ?_⟩; (conv => whnf); exact ⟨rfl, rfl, trivial⟩)
    (conv => whnf)
    apply Exists.intro
    apply And.intro
    · (conv => whnf)
      ((conv in (_[_]?) => tactic => exact (z.look4 4 H)); (conv => whnf))
      exact ⟨rfl, set_last H _ _, trivial⟩
    (conv => whnf)
    refine ⟨5, by decide, ⟨rfl, rfl, rfl, rfl, trivial⟩, ?_, by decide⟩
    subst hz hkk
    rfl
  | 5, _ =>
    (conv => whnf)
    refine ⟨fun _ => ?_, fun h => absurd (show ((5 : Nat) : Int) < 16 by decide) h⟩
    (conv => whnf)
    refine ⟨⟨by decide, by decide⟩, ?_⟩
    (conv => whnf)
    generalize hz : wN kk 5 = z
    refine drawK_of2 D199_4 [H ++ [z.O4 5], H ++ [S4.O4 { z with b := orB z.b k5 8 } 6]] (by kernel_rfl) rfl trivial ?_
    (conv => whnf)
    (apply Exists.intro; apply And.intro; (focus ((conv => whnf); first | exact ⟨rfl, rfl, trivial⟩ | (refine ⟨by omega, ?_⟩; (conv => whnf); exact ⟨rfl, rfl, trivial⟩))); (conv => whnf))
    apply Exists.intro
    apply And.intro
    · (conv => whnf)
      first | exact ⟨rfl, rfl, trivial⟩ | (refine ⟨by decide, ?_⟩; (conv => whnf); exact ⟨rfl, rfl, trivial⟩)
    (conv => whnf)
    apply Exists.intro
    apply And.intro
    · (conv => whnf)
      first | exact ⟨rfl, rfl, trivial⟩ | (refine ⟨by decide, ?_⟩; (conv => whnf); exact ⟨rfl, rfl, trivial⟩)
    (conv => whnf)
    apply Exists.intro
    apply And.intro
    · (conv => whnf)
      ((conv in (_[_]?) => tactic => exact (z.look4 5 H)); (conv => whnf))
      exact ⟨rfl, rfl, trivial⟩
    (conv => whnf)
    (apply Exists.intro; apply And.intro; (focus ((conv => whnf); first | exact ⟨rfl, rfl, trivial⟩ | (refine ⟨by omega, ?_⟩; (conv => whnf); exact ⟨rfl, rfl, trivial⟩))); (conv => whnf))
    (apply Exists.intro; apply And.intro; (focus ((conv => whnf); first | exact ⟨rfl, rfl, trivial⟩ | (refine ⟨by omega, ?_⟩; (conv => whnf); exact ⟨rfl, rfl, trivial⟩))); (conv => whnf))
    (apply Exists.intro; apply And.intro; (focus ((conv => whnf); first | exact ⟨rfl, rfl, trivial⟩ | (refine ⟨by omega, ?_⟩; (conv => whnf); exact ⟨rfl, rfl, trivial⟩))); (conv => whnf))
    apply Exists.intro
    apply And.intro
    · (conv => whnf)
      first | exact ⟨rfl, rfl, trivial⟩ | (refine ⟨by decide, ?_⟩; (conv => whnf); exact ⟨rfl, rfl, trivial⟩)
    (conv => whnf)
    (apply Exists.intro; apply And.intro; (focus ((conv => whnf); first | exact ⟨rfl, rfl, trivial⟩ | (refine ⟨by omega, ?_⟩; (conv => whnf); exact ⟨rfl, rfl, trivial⟩))); (conv => whnf))
    apply Exists.intro
    apply And.intro
    · (conv => whnf)
      first | exact ⟨rfl, rfl, trivial⟩ | (refine ⟨by decide, ?_⟩; (conv => whnf); exact ⟨rfl, rfl, trivial⟩)
    (conv => whnf)
    (apply Exists.intro; apply And.intro; (focus ((conv => whnf); first | exact ⟨rfl, rfl, trivial⟩ | (refine ⟨by omega, ?_⟩; (conv => whnf); exact ⟨rfl, rfl, trivial⟩))); (conv => whnf))
    apply Exists.intro
    apply And.intro
    · (conv => whnf)
      first | exact ⟨rfl, rfl, trivial⟩ | (refine ⟨by decide, ?_⟩; (conv => whnf); exact ⟨rfl, rfl, trivial⟩)
    (conv => whnf)
    apply Exists.intro
    apply And.intro
    · (conv => whnf)
      ((conv in (_[_]?) => tactic => exact (z.look4 5 H)); (conv => whnf))
      exact ⟨rfl, set_last H _ _, trivial⟩
    (conv => whnf)
    refine ⟨6, by decide, ⟨rfl, rfl, rfl, rfl, trivial⟩, ?_, by decide⟩
    subst hz hkk
    rfl
  | 6, _ =>
    (conv => whnf)
    refine ⟨fun _ => ?_, fun h => absurd (show ((6 : Nat) : Int) < 16 by decide) h⟩
    (conv => whnf)
    refine ⟨⟨by decide, by decide⟩, ?_⟩
    (conv => whnf)
    generalize hz : wN kk 6 = z
    refine drawK_of2 D199_4 [H ++ [z.O4 6], H ++ [S4.O4 { z with b := orB z.b k6 16 } 7]] (by kernel_rfl) rfl trivial ?_
    (conv => whnf)
    (apply Exists.intro; apply And.intro; (focus ((conv => whnf); first | exact ⟨rfl, rfl, trivial⟩ | (refine ⟨by omega, ?_⟩; (conv => whnf); exact ⟨rfl, rfl, trivial⟩))); (conv => whnf))
    apply Exists.intro
    apply And.intro
    · (conv => whnf)
      first | exact ⟨rfl, rfl, trivial⟩ | (refine ⟨by decide, ?_⟩; (conv => whnf); exact ⟨rfl, rfl, trivial⟩)
    (conv => whnf)
    apply Exists.intro
    apply And.intro
    · (conv => whnf)
      first | exact ⟨rfl, rfl, trivial⟩ | (refine ⟨by decide, ?_⟩; (conv => whnf); exact ⟨rfl, rfl, trivial⟩)
    (conv => whnf)
    apply Exists.intro
    apply And.intro
    · (conv => whnf)
      ((conv in (_[_]?) => tactic => exact (z.look4 6 H)); (conv => whnf))
      exact ⟨rfl, rfl, trivial⟩
    (conv => whnf)
    (apply Exists.intro; apply And.intro; (focus ((conv => whnf); first | exact ⟨rfl, rfl, trivial⟩ | (refine ⟨by omega, ?_⟩; (conv => whnf); exact ⟨rfl, rfl, trivial⟩))); (conv => whnf))
    (apply Exists.intro; apply And.intro; (focus ((conv => whnf); first | exact ⟨rfl, rfl, trivial⟩ | (refine ⟨by omega, ?_⟩; (conv => whnf); exact ⟨rfl, rfl, trivial⟩))); (conv => whnf))
    (apply Exists.intro; apply And.intro; (focus ((conv => whnf); first | exact ⟨rfl, rfl, trivial⟩ | (refine ⟨by omega, ?_⟩; (conv => whnf); exact ⟨rfl, rfl, trivial⟩))); (conv => whnf))
    apply Exists.intro
    apply And.intro
    · (conv => whnf)
      first | exact ⟨rfl, rfl, trivial⟩ | (refine ⟨by decide, ?_⟩; (conv => whnf); exact ⟨rfl, rfl, trivial⟩)
    (conv => whnf)
    (apply Exists.intro; apply And.intro; (focus ((conv => whnf); first | exact ⟨rfl, rfl, trivial⟩ | (refine ⟨by omega, ?_⟩; (conv => whnf); exact ⟨rfl, rfl, trivial⟩))); (conv => whnf))
    apply Exists.intro
    apply And.intro
    · (conv => whnf)
      first | exact ⟨rfl, rfl, trivial⟩ | (refine ⟨by decide, ?_⟩; (conv => whnf); exact ⟨rfl, rfl, trivial⟩)
    (conv => whnf)
    (apply Exists.intro; apply And.intro; (focus ((conv => whnf); first | exact ⟨rfl, rfl, trivial⟩ | (refine ⟨by omega, ?_⟩; (conv => whnf); exact ⟨rfl, rfl, trivial⟩))); (conv => whnf))
    apply Exists.intro
    apply And.intro
    · (conv => whnf)
      first | exact ⟨rfl, rfl, trivial⟩ | (refine ⟨by decide, ?_⟩; (conv => whnf); exact ⟨rfl, rfl, trivial⟩)
    (conv => whnf)
    apply Exists.intro
    apply And.intro
    · (conv => whnf)
      ((conv in (_[_]?) => tactic => exact (z.look4 6 H)); (conv => whnf))
      exact ⟨rfl, set_last H _ _, trivial⟩
    (conv => whnf)
    refine ⟨7, by decide, ⟨rfl, rfl, rfl, rfl, trivial⟩, ?_, by decide⟩
    subst hz hkk
    rfl
  | 7, _ =>
    (conv => whnf)
    refine ⟨fun _ => ?_, fun h => absurd (show ((7 : Nat) : Int) < 16 by decide) h⟩
    (conv => whnf)
    refine ⟨⟨by decide, by decide⟩, ?_⟩
    (conv => whnf)
    generalize hz : wN kk 7 = z
    refine drawK_of2 D199_4 [H ++ [z.O4 7], H ++ [S4.O4 { z with b := orB z.b k7 24 } 8]] (by kernel_rfl) rfl trivial ?_
    (conv => whnf)
    (apply Exists.intro; apply And.intro; (focus ((conv => whnf); first | exact ⟨rfl, rfl, trivial⟩ | (refine ⟨by omega, ?_⟩; (conv => whnf); exact ⟨rfl, rfl, trivial⟩))); (conv => whnf))
    apply Exists.intro
    apply And.intro
    · (conv => whnf)
      first | exact ⟨rfl, rfl, trivial⟩ | (refine ⟨by decide, ?_⟩; (conv => whnf); exact ⟨rfl, rfl, trivial⟩)
    (conv => whnf)
    apply Exists.intro
    apply And.intro
    · (conv => whnf)
      first | exact ⟨rfl, rfl, trivial⟩ | (refine ⟨by decide, ?_⟩; (conv => whnf); exact ⟨rfl, rfl, trivial⟩)
    (conv => whnf)
    apply Exists.intro
    apply And.intro
    · (conv => whnf)
      ((conv in (_[_]?) => tactic => exact (z.look4 7 H)); (conv => whnf))
      exact ⟨rfl, rfl, trivial⟩
    (conv => whnf)
    (apply Exists.intro; apply And.intro; (focus ((conv => whnf); first | exact ⟨rfl, rfl, trivial⟩ | (refine ⟨by omega, ?_⟩; (conv => whnf); exact ⟨rfl, rfl, trivial⟩))); (conv => whnf))
    (apply Exists.intro; apply And.intro; (focus ((conv => whnf); first | exact ⟨rfl, rfl, trivial⟩ | (refine ⟨by omega, ?_⟩; (conv => whnf); exact ⟨rfl, rfl, trivial⟩))); (conv => whnf))
    (apply Exists.intro; apply And.intro; (focus ((conv => whnf); first | exact ⟨rfl, rfl, trivial⟩ | (refine ⟨by omega, ?_⟩; (conv => whnf); exact ⟨rfl, rfl, trivial⟩))); (conv => whnf))
    apply Exists.intro
    apply And.intro
    · (conv => whnf)
      first | exact ⟨rfl, rfl, trivial⟩ | (refine ⟨by decide, ?_⟩; (conv => whnf); exact ⟨rfl, rfl, trivial⟩)
    (conv => whnf)
    (apply Exists.intro; apply And.intro; (focus ((conv => whnf); first | exact ⟨rfl, rfl, trivial⟩ | (refine ⟨by omega, ?_⟩; (conv => whnf); exact ⟨rfl, rfl, trivial⟩))); (conv => whnf))
    apply Exists.intro
    apply And.intro
    · (conv => whnf)
      first | exact ⟨rfl, rfl, trivial⟩ | (refine ⟨by decide, ?_⟩; (conv => whnf); exact ⟨rfl, rfl, trivial⟩)
    (conv => whnf)
    (apply Exists.intro; apply And.intro; (focus ((conv => whnf); first | exact ⟨rfl, rfl, trivial⟩ | (refine ⟨by omega, ?_⟩; (conv => whnf); exact ⟨rfl, rfl, trivial⟩))); (conv => whnf))
    apply Exists.intro
    apply And.intro
    · (conv => whnf)
      first | exact ⟨rfl, rfl, trivial⟩ | (refine ⟨by decide, ?_⟩; (conv => whnf); exact ⟨rfl, rfl, trivial⟩)
    (conv => whnf)
    apply Exists.intro
    apply And.intro
    · (conv => whnf)
      ((conv in (_[_]?) => tactic => exact (z.look4 7 H)); (conv => whnf))
      exact ⟨rfl, set_last H _ _, trivial⟩
    (conv => whnf)
    refine ⟨8, by decide, ⟨rfl, rfl, rfl, rfl, trivial⟩, ?_, by decide⟩
    subst hz hkk
    rfl
  | 8, _ =>
    (conv => whnf)
    refine ⟨fun _ => ?_, fun h => absurd (show ((8 : Nat) : Int) < 16 by decide) h⟩
    (conv => whnf)
    refine ⟨⟨by decide, by decide⟩, ?_⟩
    (conv => whnf)
    generalize hz : wN kk 8 = z
    refine drawK_of2 D199_4 [H ++ [z.O4 8], H ++ [S4.O4 { z with c := orB z.c k8 0 } 9]] (by kernel_rfl) rfl trivial ?_
    (conv => whnf)
    (apply Exists.intro; apply And.intro; (focus ((conv => whnf); first | exact ⟨rfl, rfl, trivial⟩ | (refine ⟨by omega, ?_⟩; (conv => whnf); exact ⟨rfl, rfl, trivial⟩))); (conv => whnf))
    apply Exists.intro
    apply And.intro
    · (conv => whnf)
      first | exact ⟨rfl, rfl, trivial⟩ | (refine ⟨by decide, ?_⟩; (conv => whnf); exact ⟨rfl, rfl, trivial⟩)
    (conv => whnf)
    apply Exists.intro
    apply And.intro
    · (conv => whnf)
      first | exact ⟨rfl, rfl, trivial⟩ | (refine ⟨by decide, ?_⟩; (conv => whnf); exact ⟨rfl, rfl, trivial⟩)
    (conv => whnf)
    apply Exists.intro
    apply And.intro
    · (conv => whnf)
      ((conv in (_[_]?) => tactic => exact (z.look4 8 H)); (conv => whnf))
      exact ⟨rfl, rfl, trivial⟩
    (conv => whnf)
    (apply Exists.intro; apply And.intro; (focus ((conv => whnf); first | exact ⟨rfl, rfl, trivial⟩ | (refine ⟨by omega, ?_⟩; (conv => whnf); exact ⟨rfl, rfl, trivial⟩))); (conv => whnf))
    (apply Exists.intro; apply And.intro; (focus ((conv => whnf); first | exact ⟨rfl, rfl, trivial⟩ | (refine ⟨by omega, ?_⟩; (conv => whnf); exact ⟨rfl, rfl, trivial⟩))); (conv => whnf))
    (apply Exists.intro; apply And.intro; (focus ((conv => whnf); first | exact ⟨rfl, rfl, trivial⟩ | (refine ⟨by omega, ?_⟩; (conv => whnf); exact ⟨rfl, rfl, trivial⟩))); (conv => whnf))
    apply Exists.intro
    apply And.intro
    · (conv => whnf)
      first | exact ⟨rfl, rfl, trivial⟩ | (refine ⟨by decide, ?_⟩; (conv => whnf); exact ⟨rfl, rfl, trivial⟩)
    (conv => whnf)
    (apply Exists.intro; apply And.intro; (focus ((conv => whnf); first | exact ⟨rfl, rfl, trivial⟩ | (refine ⟨by omega, ?_⟩; (conv => whnf); exact ⟨rfl, rfl, trivial⟩))); (conv => whnf))
    apply Exists.intro
    apply And.intro
    · (conv => whnf)
      first | exact ⟨rfl, rfl, trivial⟩ | (refine ⟨by decide, ?_⟩; (conv => whnf); exact ⟨rfl, rfl, trivial⟩)
    (conv => whnf)
    (apply Exists.intro; apply And.intro; (focus ((conv => whnf); first | exact ⟨rfl, rfl, trivial⟩ | (refine ⟨by omega, ?_⟩; (conv => whnf); exact ⟨rfl, rfl, trivial⟩))); (conv => whnf))
    apply Exists.intro
    apply And.intro
    · (conv => whnf)
      first | exact ⟨rfl, rfl, trivial⟩ | (refine ⟨by decide, ?_⟩; (conv => whnf); exact ⟨rfl, rfl, trivial⟩)
    (conv => whnf)
    apply Exists.intro
    apply And.intro
    · (conv => whnf)
      ((conv in (_[_]?) => tactic => exact (z.look4 8 H)); (conv => whnf))
      exact ⟨rfl, set_last H _ _, trivial⟩
    (conv => whnf)
    refine ⟨9, by decide, ⟨rfl, rfl, rfl, rfl, trivial⟩, ?_, by decide⟩
    subst hz hkk
    rfl
  | 9, _ =>
    (conv => whnf)
    refine ⟨fun _ => ?_, fun h => absurd (show ((9 : Nat) : Int) < 16 by decide) h⟩
    (conv => whnf)
    refine ⟨⟨by decide, by decide⟩, ?_⟩
    (conv => whnf)
    generalize hz : wN kk 9 = z
    refine drawK_of2 D199_4 [H ++ [z.O4 9], H ++ [S4.O4 { z with c := orB z.c k9 8 } 10]] (by kernel_rfl) rfl trivial ?_
    (conv => whnf)
    (apply Exists.intro; apply And.intro; (focus ((conv => whnf); first | exact ⟨rfl, rfl, trivial⟩ | (refine ⟨by omega, ?_⟩; (conv => whnf); exact ⟨rfl, rfl, trivial⟩))); (conv => whnf))
    apply Exists.intro
    apply And.intro
    · (conv => whnf)
      first | exact ⟨rfl, rfl, trivial⟩ | (refine ⟨by decide, ?_⟩; (conv => whnf); exact ⟨rfl, rfl, trivial⟩)
    (conv => whnf)
    apply Exists.intro
    apply And.intro
    · (conv => whnf)
      first | exact ⟨rfl, rfl, trivial⟩ | (refine ⟨by decide, ?_⟩; (conv => whnf); exact ⟨rfl, rfl, trivial⟩)
    (conv => whnf)
    apply Exists.intro
    apply And.intro
    · (conv => whnf)
      ((conv in (_[_]?) => tactic => exact (z.look4 9 H)); (conv => whnf))
      exact ⟨rfl, rfl, trivial⟩
    (conv => whnf)
    (apply Exists.intro; apply And.intro; (focus ((conv => whnf); first | exact ⟨rfl, rfl, trivial⟩ | (refine ⟨by omega, ?_⟩; (conv => whnf); exact ⟨rfl, rfl, trivial⟩))); (conv => whnf))
    (apply Exists.intro; apply And.intro; (focus ((conv => whnf); first | exact ⟨rfl, rfl, trivial⟩ | (refine ⟨by omega, ?_⟩; (conv => whnf); exact ⟨rfl, rfl, trivial⟩))); (conv => whnf))
    (apply Exists.intro; apply And.intro; (focus ((conv => whnf); first | exact ⟨rfl, rfl, trivial⟩ | (refine ⟨by omega, ?_⟩; (conv => whnf); exact ⟨rfl, rfl, trivial⟩))); (conv => whnf))
    apply Exists.intro
    apply And.intro
    · (conv => whnf)
      first | exact ⟨rfl, rfl, trivial⟩ | (refine ⟨by decide, ?_⟩; (conv => whnf); exact ⟨rfl, rfl, trivial⟩)
    (conv => whnf)
    (apply Exists.intro; apply And.intro; (focus ((conv => whnf); first | exact ⟨rfl, rfl, trivial⟩ | (refine ⟨by omega, ?_⟩; (conv => whnf); exact ⟨rfl, rfl, trivial⟩))); (conv => whnf))
    apply Exists.intro
    apply And.intro
    · (conv => whnf)
      first | exact ⟨rfl, rfl, trivial⟩ | (refine ⟨by decide, ?_⟩; (conv => whnf); exact ⟨rfl, rfl, trivial⟩)
    (conv => whnf)
    (apply Exists.intro; apply And.intro; (focus ((conv => whnf); first | exact ⟨rfl, rfl, trivial⟩ | (refine ⟨by omega, ?_⟩; (conv => whnf); exact ⟨rfl, rfl, trivial⟩))); (conv => whnf))
    apply Exists.intro
    apply And.intro
    · (conv => whnf)
      first | exact ⟨rfl, rfl, trivial⟩ | (refine ⟨by decide, ?_⟩; (conv => whnf); exact ⟨rfl, rfl, trivial⟩)
    (conv => whnf)
    apply Exists.intro
    apply And.intro
    · (conv => whnf)
      ((conv in (_[_]?) => tactic => exact (z.look4 9 H)); (conv => whnf))
      exact ⟨rfl, set_last H _ _, trivial⟩
    (conv => whnf)
    refine ⟨10, by decide, ⟨rfl, rfl, rfl, rfl, trivial⟩, ?_, by decide⟩
    subst hz hkk
    rfl
  | 10, _ =>
    (conv => whnf)
    refine ⟨fun _ => ?_, fun h => absurd (show ((10 : Nat) : Int) < 16 by decide) h⟩
    (conv => whnf)
    refine ⟨⟨by decide, by decide⟩, ?_⟩
    (conv => whnf)
    generalize hz : wN kk 10 = z
    refine drawK_of2 D199_4 [H ++ [z.O4 10], H ++ [S4.O4 { z with c := orB z.c ka 16 } 11]] (by kernel_rfl) rfl trivial ?_
    (conv => whnf)
    (apply Exists.intro; apply And.intro; (focus ((conv => whnf); first | exact ⟨rfl, rfl, trivial⟩ | (refine ⟨by omega, ?_⟩; (conv => whnf); exact ⟨rfl, rfl, trivial⟩))); (conv => whnf))
    apply Exists.intro
    apply And.intro
    · (conv => whnf)
      first | exact ⟨rfl, rfl, trivial⟩ | (refine ⟨by decide, ?_⟩; (conv => whnf); exact ⟨rfl, rfl, trivial⟩)
    (conv => whnf)
    apply Exists.intro
    apply And.intro
    · (conv => whnf)
      first | exact ⟨rfl, rfl, trivial⟩ | (refine ⟨by decide, ?_⟩; (conv => whnf); exact ⟨rfl, rfl, trivial⟩)
    (conv => whnf)
    apply Exists.intro
    apply And.intro
    · (conv => whnf)
      ((conv in (_[_]?) => tactic => exact (z.look4 10 H)); (conv => whnf))
      exact ⟨rfl, rfl, trivial⟩
    (conv => whnf)
    (apply Exists.intro; apply And.intro; (focus ((conv => whnf); first | exact ⟨rfl, rfl, trivial⟩ | (refine ⟨by omega, ?_⟩; (conv => whnf); exact ⟨rfl, rfl, trivial⟩))); (conv => whnf))
    (apply Exists.intro; apply And.intro; (focus ((conv => whnf); first | exact ⟨rfl, rfl, trivial⟩ | (refine ⟨by omega, ?_⟩; (conv => whnf); exact ⟨rfl, rfl, trivial⟩))); (conv => whnf))
    (apply Exists.intro; apply And.intro; (focus ((conv => whnf); first | exact ⟨rfl, rfl, trivial⟩ | (refine ⟨by omega, ?_⟩; (conv => whnf); exact ⟨rfl, rfl, trivial⟩))); (conv => whnf))
    apply Exists.intro
    apply And.intro
    · (conv => whnf)
      first | exact ⟨rfl, rfl, trivial⟩ | (refine ⟨by decide, ?_⟩; (conv => whnf); exact ⟨rfl, rfl, trivial⟩)
    (conv => whnf)
    (apply Exists.intro; apply And.intro; (focus ((conv => whnf); first | exact ⟨rfl, rfl, trivial⟩ | (refine ⟨by omega, ?_⟩; (conv => whnf); exact ⟨rfl, rfl, trivial⟩))); (conv => whnf))
    apply Exists.intro
    apply And.intro
    · (conv => whnf)
      first | exact ⟨rfl, rfl, trivial⟩ | (refine ⟨by decide, ?_⟩; (conv => whnf); exact ⟨rfl, rfl, trivial⟩)
    (conv => whnf)
    (apply Exists.intro; apply And.intro; (focus ((conv => whnf); first | exact ⟨rfl, rfl, trivial⟩ | (refine ⟨by omega, ?_⟩; (conv => whnf); exact ⟨rfl, rfl, trivial⟩))); (conv => whnf))
    apply Exists.intro
    apply And.intro
    · (conv => whnf)
      first | exact ⟨rfl, rfl, trivial⟩ | (refine ⟨by decide, ?_⟩; (conv => whnf); exact ⟨rfl, rfl, trivial⟩)
    (conv => whnf)
    apply Exists.intro
    apply And.intro
    · (conv => whnf)
      ((conv in (_[_]?) => tactic => exact (z.look4 10 H)); (conv => whnf))
      exact ⟨rfl, set_last H _ _, trivial⟩
    (conv => whnf)
    refine ⟨11, by decide, ⟨rfl, rfl, rfl, rfl, trivial⟩, ?_, by decide⟩
    subst hz hkk
    rfl
  | 11, _ =>
    (conv => whnf)
    refine ⟨fun _ => ?_, fun h => absurd (show ((11 : Nat) : Int) < 16 by decide) h⟩
    (conv => whnf)
    refine ⟨⟨by decide, by decide⟩, ?_⟩
    (conv => whnf)
    generalize hz : wN kk 11 = z
    refine drawK_of2 D199_4 [H ++ [z.O4 11], H ++ [S4.O4 { z with c := orB z.c kb 24 } 12]] (by kernel_rfl) rfl trivial ?_
    (conv => whnf)
    (apply Exists.intro; apply And.intro; (focus ((conv => whnf); first | exact ⟨rfl, rfl, trivial⟩ | (refine ⟨by omega, ?_⟩; (conv => whnf); exact ⟨rfl, rfl, trivial⟩))); (conv => whnf))
    apply Exists.intro
    apply And.intro
    · (conv => whnf)
      first | exact ⟨rfl, rfl, trivial⟩ | (refine ⟨by decide, ?_⟩; (conv => whnf); exact ⟨rfl, rfl, trivial⟩)
    (conv => whnf)
    apply Exists.intro
    apply And.intro
    · (conv => whnf)
      first | exact ⟨rfl, rfl, trivial⟩ | (refine ⟨by decide, ?_⟩; (conv => whnf); exact ⟨rfl, rfl, trivial⟩)
    (conv => whnf)
    apply Exists.intro
    apply And.intro
    · (conv => whnf)
      ((conv in (_[_]?) => tactic => exact (z.look4 11 H)); (conv => whnf))
      exact ⟨rfl, rfl, trivial⟩
    (conv => whnf)
    (apply Exists.intro; apply And.intro; (focus ((conv => whnf); first | exact ⟨rfl, rfl, trivial⟩ | (refine ⟨by omega, ?_⟩; (conv => whnf); exact ⟨rfl, rfl, trivial⟩))); (conv => whnf))
    (apply Exists.intro; apply And.intro; (focus ((conv => whnf); first | exact ⟨rfl, rfl, trivial⟩ | (refine ⟨by omega, ?_⟩; (conv => whnf); exact ⟨rfl, rfl, trivial⟩))); (conv => whnf))
    (apply Exists.intro; apply And.intro; (focus ((conv => whnf); first | exact ⟨rfl, rfl, trivial⟩ | (refine ⟨by omega, ?_⟩; (conv => whnf); exact ⟨rfl, rfl, trivial⟩))); (conv => whnf))
    apply Exists.intro
    apply And.intro
    · (conv => whnf)
      first | exact ⟨rfl, rfl, trivial⟩ | (refine ⟨by decide, ?_⟩; (conv => whnf); exact ⟨rfl, rfl, trivial⟩)
    (conv => whnf)
    (apply Exists.intro; apply And.intro; (focus ((conv => whnf); first | exact ⟨rfl, rfl, trivial⟩ | (refine ⟨by omega, ?_⟩; (conv => whnf); exact ⟨rfl, rfl, trivial⟩))); (conv => whnf))
    apply Exists.intro
    apply And.intro
    · (conv => whnf)
      first | exact ⟨rfl, rfl, trivial⟩ | (refine ⟨by decide, ?_⟩; (conv => whnf); exact ⟨rfl, rfl, trivial⟩)
    (conv => whnf)
    (apply Exists.intro; apply And.intro; (focus ((conv => whnf); first | exact ⟨rfl, rfl, trivial⟩ | (refine ⟨by omega, ?_⟩; (conv => whnf); exact ⟨rfl, rfl, trivial⟩))); (conv => whnf))
    apply Exists.intro
    apply And.intro
    · (conv => whnf)
      first | exact ⟨rfl, rfl, trivial⟩ | (refine ⟨by decide, ?_⟩; (conv => whnf); exact ⟨rfl, rfl, trivial⟩)
    (conv => whnf)
    apply Exists.intro
    apply And.intro
    · (conv => whnf)
      ((conv in (_[_]?) => tactic => exact (z.look4 11 H)); (conv => whnf))
      exact ⟨rfl, set_last H _ _, trivial⟩
    (conv => whnf)
    refine ⟨12, by decide, ⟨rfl, rfl, rfl, rfl, trivial⟩, ?_, by decide⟩
    subst hz hkk
    rfl
  | 12, _ =>
    (conv => whnf)
    refine ⟨fun _ => ?_, fun h => absurd (show ((12 : Nat) : Int) < 16 by decide) h⟩
    (conv => whnf)
    refine ⟨⟨by decide, by decide⟩, ?_⟩
    (conv => whnf)
    generalize hz : wN kk 12 = z
    refine drawK_of2 D199_4 [H ++ [z.O4 12], H ++ [S4.O4 { z with d := orB z.d kc 0 } 13]] (by kernel_rfl) rfl trivial ?_
    (conv => whnf)
    (apply Exists.intro; apply And.intro; (focus ((conv => whnf); first | exact ⟨rfl, rfl, trivial⟩ | (refine ⟨by omega, ?_⟩; (conv => whnf); exact ⟨rfl, rfl, trivial⟩))); (conv => whnf))
    apply Exists.intro
    apply And.intro
    · (conv => whnf)
      first | exact ⟨rfl, rfl, trivial⟩ | (refine ⟨by decide, ?_⟩; (conv => whnf); exact ⟨rfl, rfl, trivial⟩)
    (conv => whnf)
    apply Exists.intro
    apply And.intro
    · (conv => whnf)
      first | exact ⟨rfl, rfl, trivial⟩ | (refine ⟨by decide, ?_⟩; (conv => whnf); exact ⟨rfl, rfl, trivial⟩)
    (conv => whnf)
    apply Exists.intro
    apply And.intro
    · (conv => whnf)
      ((conv in (_[_]?) => tactic => exact (z.look4 12 H)); (conv => whnf))
      exact ⟨rfl, rfl, trivial⟩
    (conv => whnf)
    (apply Exists.intro; apply And.intro; (focus ((conv => whnf); first | exact ⟨rfl, rfl, trivial⟩ | (refine ⟨by omega, ?_⟩; (conv => whnf); exact ⟨rfl, rfl, trivial⟩))); (conv => whnf))
    (apply Exists.intro; apply And.intro; (focus ((conv => whnf); first | exact ⟨rfl, rfl, trivial⟩ | (refine ⟨by omega, ?_⟩; (conv => whnf); exact ⟨rfl, rfl, trivial⟩))); (conv => whnf))
    (apply Exists.intro; apply And.intro; (focus ((conv => whnf); first | exact ⟨rfl, rfl, trivial⟩ | (refine ⟨by omega, ?_⟩; (conv => whnf); exact ⟨rfl, rfl, trivial⟩))); (conv => whnf))
    apply Exists.intro
    apply And.intro
    · (conv => whnf)
      first | exact ⟨rfl, rfl, trivial⟩ | (refine ⟨by decide, ?_⟩; (conv => whnf); exact ⟨rfl, rfl, trivial⟩)
    (conv => whnf)
    (apply Exists.intro; apply And.intro; (focus ((conv => whnf); first | exact ⟨rfl, rfl, trivial⟩ | (refine ⟨by omega, ?_⟩; (conv => whnf); exact ⟨rfl, rfl, trivial⟩))); (conv => whnf))
    apply Exists.intro
    apply And.intro
    · (conv => whnf)
      first | exact ⟨rfl, rfl, trivial⟩ | (refine ⟨by decide, ?_⟩; (conv => whnf); exact ⟨rfl, rfl, trivial⟩)
    (conv => whnf)
    (apply Exists.intro; apply And.intro; (focus ((conv => whnf); first | exact ⟨rfl, rfl, trivial⟩ | (refine ⟨by omega, ?_⟩; (conv => whnf); exact ⟨rfl, rfl, trivial⟩))); (conv => whnf))
    apply Exists.intro
    apply And.intro
    · (conv => whnf)
      first | exact ⟨rfl, rfl, trivial⟩ | (refine ⟨by decide, ?_⟩; (conv => whnf); exact ⟨rfl, rfl, trivial⟩)
    (conv => whnf)
    apply Exists.intro
    apply And.intro
    · (conv => whnf)
      ((conv in (_[_]?) => tactic => exact (z.look4 12 H)); (conv => whnf))
      exact ⟨rfl, set_last H _ _, trivial⟩
    (conv => whnf)
    refine ⟨13, by decide, ⟨rfl, rfl, rfl, rfl, trivial⟩, ?_, by decide⟩
    subst hz hkk
    rfl
  | 13, _ =>
    (conv => whnf)
    refine ⟨fun _ => ?_, fun h => absurd (show ((13 : Nat) : Int) < 16 by decide) h⟩
    (conv => whnf)
    refine ⟨⟨by decide, by decide⟩, ?_⟩
    (conv => whnf)
    generalize hz : wN kk 13 = z
    refine drawK_of2 D199_4 [H ++ [z.O4 13], H ++ [S4.O4 { z with d := orB z.d kd 8 } 14]] (by kernel_rfl) rfl trivial ?_
    (conv => whnf)
    (apply Exists.intro; apply And.intro; (focus ((conv => whnf); first | exact ⟨rfl, rfl, trivial⟩ | (refine ⟨by omega, ?_⟩; (conv => whnf); exact ⟨rfl, rfl, trivial⟩))); (conv => whnf))
    apply Exists.intro
    apply And.intro
    · (conv => whnf)
      first | exact ⟨rfl, rfl, trivial⟩ | (refine ⟨by decide, ?_⟩; (conv => whnf); exact ⟨rfl, rfl, trivial⟩)
    (conv => whnf)
    apply Exists.intro
    apply And.intro
    · (conv => whnf)
      first | exact ⟨rfl, rfl, trivial⟩ | (refine ⟨by decide, ?_⟩; (conv => whnf); exact ⟨rfl, rfl, trivial⟩)
    (conv => whnf)
    apply Exists.intro
    apply And.intro
    · (conv => whnf)
      ((conv in (_[_]?) => tactic => exact (z.look4 13 H)); (conv => whnf))
      exact ⟨rfl, rfl, trivial⟩
    (conv => whnf)
    (apply Exists.intro; apply And.intro; (focus ((conv => whnf); first | exact ⟨rfl, rfl, trivial⟩ | (refine ⟨by omega, ?_⟩; (conv => whnf); exact ⟨rfl, rfl, trivial⟩))); (conv => whnf))
    (apply Exists.intro; apply And.intro; (focus ((conv => whnf); first | exact ⟨rfl, rfl, trivial⟩ | (refine ⟨by omega, ?_⟩; (conv => whnf); exact ⟨rfl, rfl, trivial⟩))); (conv => whnf))
    (apply Exists.intro; apply And.intro; (focus ((conv => whnf); first | exact ⟨rfl, rfl, trivial⟩ | (refine ⟨by omega, ?_⟩; (conv => whnf); exact ⟨rfl, rfl, trivial⟩))); (conv => whnf))
    apply Exists.intro
    apply And.intro
    · (conv => whnf)
      first | exact ⟨rfl, rfl, trivial⟩ | (refine ⟨by decide, ?_⟩; (conv => whnf); exact ⟨rfl, rfl, trivial⟩)
    (conv => whnf)
    (apply Exists.intro; apply And.intro; (focus ((conv => whnf); first | exact ⟨rfl, rfl, trivial⟩ | (refine ⟨by omega, ?_⟩; (conv => whnf); exact ⟨rfl, rfl, trivial⟩))); (conv => whnf))
    apply Exists.intro
    apply And.intro
    · (conv => whnf)
      first | exact ⟨rfl, rfl, trivial⟩ | (refine ⟨by decide, ?_⟩; (conv => whnf); exact ⟨rfl, rfl, trivial⟩)
    (conv => whnf)
    (apply Exists.intro; apply And.intro; (focus ((conv => whnf); first | exact ⟨rfl, rfl, trivial⟩ | (refine ⟨by omega, ?_⟩; (conv => whnf); exact ⟨rfl, rfl, trivial⟩))); (conv => whnf))
    apply Exists.intro
    apply And.intro
    · (conv => whnf)
      first | exact ⟨rfl, rfl, trivial⟩ | (refine ⟨by decide, ?_⟩; (conv => whnf); exact ⟨rfl, rfl, trivial⟩)
    (conv => whnf)
    apply Exists.intro
    apply And.intro
    · (conv => whnf)
      ((conv in (_[_]?) => tactic => exact (z.look4 13 H)); (conv => whnf))
      exact ⟨rfl, set_last H _ _, trivial⟩
    (conv => whnf)
    refine ⟨14, by decide, ⟨rfl, rfl, rfl, rfl, trivial⟩, ?_, by decide⟩
    subst hz hkk
    rfl
  | 14, _ =>
    (conv => whnf)
    refine ⟨fun _ => ?_, fun h => absurd (show ((14 : Nat) : Int) < 16 by decide) h⟩
    (conv => whnf)
    refine ⟨⟨by decide, by decide⟩, ?_⟩
    (conv => whnf)
    generalize hz : wN kk 14 = z
    refine drawK_of2 D199_4 [H ++ [z.O4 14], H ++ [S4.O4 { z with d := orB z.d ke 16 } 15]] (by kernel_rfl) rfl trivial ?_
    (conv => whnf)
    (apply Exists.intro; apply And.intro; (focus ((conv => whnf); first | exact ⟨rfl, rfl, trivial⟩ | (refine ⟨by omega, ?_⟩; (conv => whnf); exact ⟨rfl, rfl, trivial⟩))); (conv => whnf))
    apply Exists.intro
    apply And.intro
    · (conv => whnf)
      first | exact ⟨rfl, rfl, trivial⟩ | (refine ⟨by decide, ?_⟩; (conv => whnf); exact ⟨rfl, rfl, trivial⟩)
    (conv => whnf)
    apply Exists.intro
    apply And.intro
    · (conv => whnf)
      first | exact ⟨rfl, rfl, trivial⟩ | (refine ⟨by decide, ?_⟩; (conv => whnf); exact ⟨rfl, rfl, trivial⟩)
    (conv => whnf)
    apply Exists.intro
    apply And.intro
    · (conv => whnf)
      ((conv in (_[_]?) => tactic => exact (z.look4 14 H)); (conv => whnf))
      exact ⟨rfl, rfl, trivial⟩
    (conv => whnf)
    (apply Exists.intro; apply And.intro; (focus ((conv => whnf); first | exact ⟨rfl, rfl, trivial⟩ | (refine ⟨by omega, ?_⟩; (conv => whnf); exact ⟨rfl, rfl, trivial⟩))); (conv => whnf))
    (apply Exists.intro; apply And.intro; (focus ((conv => whnf); first | exact ⟨rfl, rfl, trivial⟩ | (refine ⟨by omega, ?_⟩; (conv => whnf); exact ⟨rfl, rfl, trivial⟩))); (conv => whnf))
    (apply Exists.intro; apply And.intro; (focus ((conv => whnf); first | exact ⟨rfl, rfl, trivial⟩ | (refine ⟨by omega, ?_⟩; (conv => whnf); exact ⟨rfl, rfl, trivial⟩))); (conv => whnf))
    apply Exists.intro
    apply And.intro
    · (conv => whnf)
      first | exact ⟨rfl, rfl, trivial⟩ | (refine ⟨by decide, ?_⟩; (conv => whnf); exact ⟨rfl, rfl, trivial⟩)
    (conv => whnf)
    (apply Exists.intro; apply And.intro; (focus ((conv => whnf); first | exact ⟨rfl, rfl, trivial⟩ | (refine ⟨by omega, ?_⟩; (conv => whnf); exact ⟨rfl, rfl, trivial⟩))); (conv => whnf))
    apply Exists.intro
    apply And.intro
    · (conv => whnf)
      first | exact ⟨rfl, rfl, trivial⟩ | (refine ⟨by decide, ?_⟩; (conv => whnf); exact ⟨rfl, rfl, trivial⟩)
    (conv => whnf)
    (apply Exists.intro; apply And.intro; (focus ((conv => whnf); first | exact ⟨rfl, rfl, trivial⟩ | (refine ⟨by omega, ?_⟩; (conv => whnf); exact ⟨rfl, rfl, trivial⟩))); (conv => whnf))
    apply Exists.intro
    apply And.intro
    · (conv => whnf)
      first | exact ⟨rfl, rfl, trivial⟩ | (refine ⟨by decide, ?_⟩; (conv => whnf); exact ⟨rfl, rfl, trivial⟩)
    (conv => whnf)
    apply Exists.intro
    apply And.intro
    · (conv => whnf)
      ((conv in (_[_]?) => tactic => exact (z.look4 14 H)); (conv => whnf))
      exact ⟨rfl, set_last H _ _, trivial⟩
    (conv => whnf)
    refine ⟨15, by decide, ⟨rfl, rfl, rfl, rfl, trivial⟩, ?_, by decide⟩
    subst hz hkk
    rfl
  | 15, _ =>
    (conv => whnf)
    refine ⟨fun _ => ?_, fun h => absurd (show ((15 : Nat) : Int) < 16 by decide) h⟩
    (conv => whnf)
    refine ⟨⟨by decide, by decide⟩, ?_⟩
    (conv => whnf)
    generalize hz : wN kk 15 = z
    refine drawK_of2 D199_4 [H ++ [z.O4 15], H ++ [S4.O4 { z with d := orB z.d kf 24 } 16]] (by kernel_rfl) rfl trivial ?_
    (conv => whnf)
    (apply Exists.intro; apply And.intro; (focus ((conv => whnf); first | exact ⟨rfl, rfl, trivial⟩ | (refine ⟨by omega, ?_⟩; (conv => whnf); exact ⟨rfl, rfl, trivial⟩))); (conv => whnf))
    apply Exists.intro
    apply And.intro
    · (conv => whnf)
      first | exact ⟨rfl, rfl, trivial⟩ | (refine ⟨by decide, ?_⟩; (conv => whnf); exact ⟨rfl, rfl, trivial⟩)
    (conv => whnf)
    apply Exists.intro
    apply And.intro
    · (conv => whnf)
      first | exact ⟨rfl, rfl, trivial⟩ | (refine ⟨by decide, ?_⟩; (conv => whnf); exact ⟨rfl, rfl, trivial⟩)
    (conv => whnf)
    apply Exists.intro
    apply And.intro
    · (conv => whnf)
      ((conv in (_[_]?) => tactic => exact (z.look4 15 H)); (conv => whnf))
      exact ⟨rfl, rfl, trivial⟩
    (conv => whnf)
    (apply Exists.intro; apply And.intro; (focus ((conv => whnf); first | exact ⟨rfl, rfl, trivial⟩ | (refine ⟨by omega, ?_⟩; (conv => whnf); exact ⟨rfl, rfl, trivial⟩))); (conv => whnf))
    (apply Exists.intro; apply And.intro; (focus ((conv => whnf); first | exact ⟨rfl, rfl, trivial⟩ | (refine ⟨by omega, ?_⟩; (conv => whnf); exact ⟨rfl, rfl, trivial⟩))); (conv => whnf))
    (apply Exists.intro; apply And.intro; (focus ((conv => whnf); first | exact ⟨rfl, rfl, trivial⟩ | (refine ⟨by omega, ?_⟩; (conv => whnf); exact ⟨rfl, rfl, trivial⟩))); (conv => whnf))
    apply Exists.intro
    apply And.intro
    · (conv => whnf)
      first | exact ⟨rfl, rfl, trivial⟩ | (refine ⟨by decide, ?_⟩; (conv => whnf); exact ⟨rfl, rfl, trivial⟩)
    (conv => whnf)
    (apply Exists.intro; apply And.intro; (focus ((conv => whnf); first | exact ⟨rfl, rfl, trivial⟩ | (refine ⟨by omega, ?_⟩; (conv => whnf); exact ⟨rfl, rfl, trivial⟩))); (conv => whnf))
    apply Exists.intro
    apply And.intro
    · (conv => whnf)
      first | exact ⟨rfl, rfl, trivial⟩ | (refine ⟨by decide, ?_⟩; (conv => whnf); exact ⟨rfl, rfl, trivial⟩)
    (conv => whnf)
    (apply Exists.intro; apply And.intro; (focus ((conv => whnf); first | exact ⟨rfl, rfl, trivial⟩ | (refine ⟨by omega, ?_⟩; (conv => whnf); exact ⟨rfl, rfl, trivial⟩))); (conv => whnf))
    apply Exists.intro
    apply And.intro
    · (conv => whnf)
      first | exact ⟨rfl, rfl, trivial⟩ | (refine ⟨by decide, ?_⟩; (conv => whnf); exact ⟨rfl, rfl, trivial⟩)
    (conv => whnf)
    apply Exists.intro
    apply And.intro
    · (conv => whnf)
      ((conv in (_[_]?) => tactic => exact (z.look4 15 H)); (conv => whnf))
      exact ⟨rfl, set_last H _ _, trivial⟩
    (conv => whnf)
    refine ⟨16, by decide, ⟨rfl, rfl, rfl, rfl, trivial⟩, ?_, by decide⟩
    subst hz hkk
    rfl
  | 16, _ =>
    (conv => whnf)
    refine ⟨fun h => absurd h (by decide), fun _ => ?_⟩
    (conv => whnf)
    refine drawK_pure2 (by kernel_rfl) ?_
    (conv => whnf)
    apply Exists.intro
    apply And.intro
    · (conv => whnf)
      exact ⟨by decide, rfl, rfl, trivial⟩
    (conv => whnf)
    apply Exists.intro
    apply And.intro
    · (conv => whnf)
      ((conv in (_[_]?) => tactic => exact ((wN kk 16).look4 16 H)); (conv => whnf))
      exact ⟨rfl, rfl, trivial⟩
    (conv => whnf)
    apply Exists.intro
    apply And.intro
    · (conv => whnf)
      refine ⟨by decide, fun _ => ?_, fun h => absurd (show (1 : Int) < 4 by decide) h⟩
      (conv => whnf)
      exact ⟨rfl, rfl, trivial⟩
    (conv => whnf)
    (apply Exists.intro; apply And.intro; (focus ((conv => whnf); first | exact ⟨rfl, rfl, trivial⟩ | (refine ⟨by omega, ?_⟩; (conv => whnf); exact ⟨rfl, rfl, trivial⟩))); (conv => whnf))
    (apply Exists.intro; apply And.intro; (focus ((conv => whnf); first | exact ⟨rfl, rfl, trivial⟩ | (refine ⟨by omega, ?_⟩; (conv => whnf); exact ⟨rfl, rfl, trivial⟩))); (conv => whnf))
    subst hkk
    refine loopK_of MkS (fun x => [(0, .ptr (some (kid, 0))), (5, .int .u32 (spN [k0, k1, k2, k3, k4, k5, k6, k7, k8, k9, ka, kb, kc, kd, ke, kf] x.i).a), (6, .sref x.lid x.off 3 x.cap), (33, .int .i64 x.i)]) (fun x => x.K) (fun x => MkOk [k0, k1, k2, k3, k4, k5, k6, k7, k8, k9, ka, kb, kc, kd, ke, kf] d m s md l kid H x) (fun x => 27 - x.i)
      ⟨⟨0, v, H.length, 1, 3, (wN [k0, k1, k2, k3, k4, k5, k6, k7, k8, k9, ka, kb, kc, kd, ke, kf] 16).O4 16, H ++ [(wN [k0, k1, k2, k3, k4, k5, k6, k7, k8, k9, ka, kb, kc, kd, ke, kf] 16).O4 16]⟩, ⟨Nat.zero_le _, by rw [List.getElem?_append_left hlt]; exact hid, by show H.length ≠ kid; omega, Nat.le_refl _, get_last H _, rfl, by show 1 + 3 ≤ 4; omega, by show 3 ≤ 3; omega, by simp, fun j hj _ => List.getElem?_append_left hj⟩, ⟨rfl, rfl, rfl, rfl, trivial⟩, rfl⟩ ?_
    rintro x hx
    obtain ⟨i, kv, lid, off, cap, ob, K⟩ := x
    have hx : MkOk [k0, k1, k2, k3, k4, k5, k6, k7, k8, k9, ka, kb, kc, kd, ke, kf] d m s md l kid H ⟨i, kv, lid, off, cap, ob, K⟩ := hx
    have hi : i ≤ 27 := hx.i
    have hKk : K[kid]? = some (keyO [k0, k1, k2, k3, k4, k5, k6, k7, k8, k9, ka, kb, kc, kd, ke, kf] d m s (spL [k0, k1, k2, k3, k4, k5, k6, k7, k8, k9, ka, kb, kc, kd, ke, kf] l i) md kv) := hx.key
    (conv => whnf)
    refine ⟨fun h => ?_, fun h => ?_⟩
    · have h : (i : Int) < 27 := h
      have hspl : (spL [k0, k1, k2, k3, k4, k5, k6, k7, k8, k9, ka, kb, kc, kd, ke, kf] l i).length = 27 := by rw [spL_len _ _ _ hl hi]
      (conv => whnf)
      refine ⟨⟨by omega, h⟩, ?_⟩
      (conv => whnf)
      ((conv in (_[_]?) => tactic => exact hKk); (conv => whnf))
      ((conv in (Nat.ble _ _) => tactic => exact (show Nat.ble (0 + 19 + (i : Int).toNat * 1 + 1) (([k0, k1, k2, k3, k4, k5, k6, k7, k8, k9, ka, kb, kc, kd, ke, kf].map byteC ++ [PV.int .u32 d, PV.int .i32 m, PV.int .u32 s]) ++ (spL [k0, k1, k2, k3, k4, k5, k6, k7, k8, k9, ka, kb, kc, kd, ke, kf] l i).map u32C ++ [PV.int .u32 md]).length = true by rw [Nat.ble_eq]; simp [hspl]; omega)); (conv => whnf))
      generalize hg : setH kid _ _ _ = K1
      have hK1 : K1 = K.set kid (keyO [k0, k1, k2, k3, k4, k5, k6, k7, k8, k9, ka, kb, kc, kd, ke, kf] d m s (spL [k0, k1, k2, k3, k4, k5, k6, k7, k8, k9, ka, kb, kc, kd, ke, kf] l (i + 1)) md (kv + 1)) := by
        rw [← hg]
        show K.set kid ⟨243, setCells (0 + 19 + (i : Int).toNat * 1) [u32C (spN [k0, k1, k2, k3, k4, k5, k6, k7, k8, k9, ka, kb, kc, kd, ke, kf] i).a] (([k0, k1, k2, k3, k4, k5, k6, k7, k8, k9, ka, kb, kc, kd, ke, kf].map byteC ++ [PV.int .u32 d, PV.int .i32 m, PV.int .u32 s]) ++ (spL [k0, k1, k2, k3, k4, k5, k6, k7, k8, k9, ka, kb, kc, kd, ke, kf] l i).map u32C ++ [PV.int .u32 md]), kv + 1⟩ = _
        rw [setCells_mid _ _ _ i _ _ (by omega) (by simp), spL_set _ _ _ hl (by omega)]
        rfl
      have h1 : K1[lid]? = some ob := by rw [hK1, List.getElem?_set_ne (Ne.symm hx.ne)]; exact hx.lst
      have hk1 : K1[kid]? = some (keyO [k0, k1, k2, k3, k4, k5, k6, k7, k8, k9, ka, kb, kc, kd, ke, kf] d m s (spL [k0, k1, k2, k3, k4, k5, k6, k7, k8, k9, ka, kb, kc, kd, ke, kf] l (i + 1)) md (kv + 1)) := by rw [hK1]; exact get_set hKk
      have hl1 : K1.length = K.length := by rw [hK1, List.length_set]
      have ht : (ob.cs.drop off).take 3 = [u32C (spN [k0, k1, k2, k3, k4, k5, k6, k7, k8, k9, ka, kb, kc, kd, ke, kf] i).b, u32C (spN [k0, k1, k2, k3, k4, k5, k6, k7, k8, k9, ka, kb, kc, kd, ke, kf] i).c, u32C (spN [k0, k1, k2, k3, k4, k5, k6, k7, k8, k9, ka, kb, kc, kd, ke, kf] i).d] := hx.three
      have ht2 : ob.cs.drop off = u32C (spN [k0, k1, k2, k3, k4, k5, k6, k7, k8, k9, ka, kb, kc, kd, ke, kf] i).b :: u32C (spN [k0, k1, k2, k3, k4, k5, k6, k7, k8, k9, ka, kb, kc, kd, ke, kf] i).c :: u32C (spN [k0, k1, k2, k3, k4, k5, k6, k7, k8, k9, ka, kb, kc, kd, ke, kf] i).d :: (ob.cs.drop off).drop 3 := by
        conv => lhs; rw [← List.take_append_drop 3 (ob.cs.drop off), ht]
        rfl
      clear hg
      (conv => whnf)
      refine ⟨⟨by decide, by show (0 : Int) < ((3 : Nat) : Int); decide⟩, ?_⟩
      (conv => whnf)
      ((conv in (_[_]?) => tactic => exact h1); (conv => whnf))
      ((conv in (dropN _ _) => tactic => exact ((dropN_eq _ _).trans ht2)); (conv => whnf))
      refine callK_pure (c185 _ _) ?_
      (conv => whnf)
      refine callK_pure (c185 _ _) ?_
      (conv => whnf)
      refine ⟨⟨by decide, by show (1 : Int) ≤ ((3 : Nat) : Int); decide, by show ((3 : Nat) : Int) ≤ ((3 : Nat) : Int); decide⟩, fun _ => ?_, fun h => absurd (show (1 : Int) < ((3 : Nat) : Int) by decide) h⟩
      (conv => whnf)
      ((conv in (_[_]?) => tactic => exact h1); (conv => whnf))
      have hr1 : off + cap ≤ ob.cs.length := hx.room
      have hr2 : 3 ≤ cap := hx.cap
      have hlid : H.length ≤ lid := hx.new
      have hlen : H.length ≤ K.length := hx.len
      refine ⟨⟨by decide, rfl, rfl, by show off + 1 + 2 ≤ ob.cs.length; omega⟩, fun h4 => ?_, fun h4 cap' hc => ?_⟩
      · have h4 : 3 ≤ cap - 1 := h4
        refine ⟨by show off + 1 + 3 ≤ ob.cs.length; omega, ?_⟩
        (conv => whnf)
        refine ⟨⟨i + 1, kv + 1, lid, off + 1, cap - 1, ⟨ob.T, setCells (off + 1 + 2) [u32C (spN [k0, k1, k2, k3, k4, k5, k6, k7, k8, k9, ka, kb, kc, kd, ke, kf] (i + 1)).d] ob.cs, ob.ver + 1⟩, K1.set lid ⟨ob.T, setCells (off + 1 + 2) [u32C (spN [k0, k1, k2, k3, k4, k5, k6, k7, k8, k9, ka, kb, kc, kd, ke, kf] (i + 1)).d] ob.cs, ob.ver + 1⟩⟩, ⟨by show i + 1 ≤ 27; omega, by rw [List.getElem?_set_ne hx.ne]; exact hk1, hx.ne, hx.new, get_set h1, slide ob.cs off _ _ _ _ ht2 (by omega) _, ?_, by show 3 ≤ cap - 1; omega, by show H.length ≤ (K1.set lid _).length; rw [List.length_set]; omega, fun j hj hjk => ?_⟩, ⟨rfl, rfl, rfl, ?_, trivial⟩, rfl, by show 27 - (i + 1) < 27 - i; omega⟩
        · show off + 1 + (cap - 1) ≤ (setCells _ _ _).length
          rw [setCells_len _ _ _ (by show off + 1 + 2 + 1 ≤ _; omega)]; omega
        · rw [List.getElem?_set_ne (by omega), hK1, List.getElem?_set_ne (Ne.symm hjk)]
          exact hx.fr j hj hjk
        · show PV.int _ (IntKind.i64.wrap ((i : Int) + 1)) = PV.int _ _
          rw [wrap64 (by omega) (by omega)]; simp
      · have hc : 3 ≤ cap' := hc
        (conv => whnf)
        have ht3 : ob.cs.drop (off + 1) = u32C (spN [k0, k1, k2, k3, k4, k5, k6, k7, k8, k9, ka, kb, kc, kd, ke, kf] i).c :: u32C (spN [k0, k1, k2, k3, k4, k5, k6, k7, k8, k9, ka, kb, kc, kd, ke, kf] i).d :: (ob.cs.drop off).drop 3 := by
          rw [← List.drop_drop, ht2]; rfl
        have hcell : ((ob.cs.drop (off + 1)).take 2).map dem = [u32C (spN [k0, k1, k2, k3, k4, k5, k6, k7, k8, k9, ka, kb, kc, kd, ke, kf] i).c, u32C (spN [k0, k1, k2, k3, k4, k5, k6, k7, k8, k9, ka, kb, kc, kd, ke, kf] i).d] := by rw [ht3]; rfl
        refine ⟨⟨i + 1, kv + 1, K1.length, 0, cap', ⟨217, ((ob.cs.drop (off + 1)).take 2).map dem ++ [u32C (spN [k0, k1, k2, k3, k4, k5, k6, k7, k8, k9, ka, kb, kc, kd, ke, kf] (i + 1)).d] ++ zerosOf [PV.int .u32 0] (cap' - 3), 0⟩, K1 ++ [⟨217, ((ob.cs.drop (off + 1)).take 2).map dem ++ [u32C (spN [k0, k1, k2, k3, k4, k5, k6, k7, k8, k9, ka, kb, kc, kd, ke, kf] (i + 1)).d] ++ zerosOf [PV.int .u32 0] (cap' - 3), 0⟩]⟩, ⟨by show i + 1 ≤ 27; omega, by rw [List.getElem?_append_left (List.getElem?_eq_some_iff.1 hk1).1]; exact hk1, by show K1.length ≠ kid; omega, by show H.length ≤ K1.length; omega, get_last K1 _, ?_, ?_, hc, by show H.length ≤ (K1 ++ [_]).length; rw [List.length_append]; omega, fun j hj hjk => ?_⟩, ⟨rfl, rfl, rfl, ?_, trivial⟩, rfl, by show 27 - (i + 1) < 27 - i; omega⟩
        · rw [hcell]; rfl
        · show 0 + cap' ≤ (((ob.cs.drop (off + 1)).take 2).map dem ++ [u32C (spN [k0, k1, k2, k3, k4, k5, k6, k7, k8, k9, ka, kb, kc, kd, ke, kf] (i + 1)).d] ++ zerosOf [PV.int .u32 0] (cap' - 3)).length
          rw [hcell, List.length_append, (zerosOf_get (z := [PV.int .u32 0]) (sz := 1) rfl (by omega) (cap' - 3)).1]
          show 0 + cap' ≤ 3 + (cap' - 3) * 1
          omega
        · rw [List.getElem?_append_left (by omega), hK1, List.getElem?_set_ne (Ne.symm hjk)]
          exact hx.fr j hj hjk
        · show PV.int _ (IntKind.i64.wrap ((i : Int) + 1)) = PV.int _ _
          rw [wrap64 (by omega) (by omega)]; simp
    · have h : ¬ (i : Int) < 27 := h
      have e : i = 27 := by omega
      subst e
      have hspl : spL [k0, k1, k2, k3, k4, k5, k6, k7, k8, k9, ka, kb, kc, kd, ke, kf] l 27 = spW [k0, k1, k2, k3, k4, k5, k6, k7, k8, k9, ka, kb, kc, kd, ke, kf] := by
        unfold spL spW
        rw [List.drop_of_length_le (by omega), List.append_nil]
      rw [hspl] at hKk
      (conv => whnf)
      refine callK_of (c207 (o := keyO [k0, k1, k2, k3, k4, k5, k6, k7, k8, k9, ka, kb, kc, kd, ke, kf] d m s (spW [k0, k1, k2, k3, k4, k5, k6, k7, k8, k9, ka, kb, kc, kd, ke, kf]) md kv) (n := md) hKk rfl) ?_
      rintro _ _ ⟨rfl, rfl⟩
      (conv => whnf)
      exact ⟨rfl, K, kv, hKk, hx.len, hx.fr, rfl⟩
  | j + 17, hj => exact absurd hj (by omega)
end Go.Proofs.Tryz

set_option maxRecDepth 100000
set_option maxHeartbeats 1000000
set_option linter.unusedVariables false
set_option linter.unusedSimpArgs false
namespace Go.Proofs.Tryz
open Go Ps
theorem keyO_flat (k : List UInt8) (d m s : Int) (l : List Int) (md : Int) (v : Nat) : ∀ c ∈ (keyO k d m s l md v).cs, flatP c = true := by
  intro c hc
  simp only [keyO, List.mem_append, List.mem_map, List.mem_cons, List.not_mem_nil, or_false] at hc
  rcases hc with ((⟨b, _, rfl⟩ | rfl | rfl | rfl) | ⟨x, _, rfl⟩) | rfl <;> rfl
theorem split_set {H K : PH} {kid : Nat} {o : PObj} (hlt : kid < H.length) (hl : H.length ≤ K.length) (hf : ∀ j, j < H.length → j ≠ kid → K[j]? = H[j]?) : K.set kid o = H.set kid o ++ K.drop H.length := by
  apply List.ext_getElem?
  intro j
  by_cases h : j < H.length
  · rw [List.getElem?_append_left (by rw [List.length_set]; exact h)]
    by_cases e : j = kid
    · subst e
      rw [List.getElem?_set_self (by omega), List.getElem?_set_self h]
    · rw [List.getElem?_set_ne (Ne.symm e), List.getElem?_set_ne (Ne.symm e)]
      exact hf j h e
  · rw [List.getElem?_append_right (by rw [List.length_set]; omega), List.length_set, List.getElem?_drop, List.getElem?_set_ne (by omega)]
    congr 1; omega
theorem c199 (k : List UInt8) (hk : k.length = 16) (d m s md : Int) (l : List Int) (hl : l.length = 27) (v kid : Nat) (H : PH) (hid : H[kid]? = some (keyO k d m s l md v)) :
    CallOk prog 199 [.ptr (some (kid, 0))] H fun r H' => r = .tup [] ∧ ∃ v', H' = H.set kid (keyO k d m s (spW k) 1 v') := by
  have hlt : kid < H.length := (List.getElem?_eq_some_iff.1 hid).1
  refine CallOk.gcK (c199x k hk d m s md l hl v kid H hid) fun r H' hh => ?_
  obtain ⟨rfl, K, kv, h1, h2, h3, rfl⟩ := hh
  exact ⟨rfl, H.set kid (keyO k d m s (spW k) 1 (kv + 1)), _, split_set hlt h2 h3, kept_set hlt fun c hc => .inl (keyO_flat _ _ _ _ _ _ _ c hc), rfl, _, rfl⟩
/-- The words of a key are there: as the first call leaves them. -/
def WordsOk : Prop := ∀ (k : List UInt8) (hk : k.length = 16) (kid : Nat) (H : PH), (∃ v, H[kid]? = some (keyO k 0 0 0 (List.replicate 27 0) 0 v)) ∨ (∃ v, H[kid]? = some (keyO k 1 0 0 (spW k) 1 v)) →
  CallOk prog 184 [.ptr (some (kid, 0))] H fun r H' => r = .sref kid 19 27 27 ∧ ∃ v', H' = H.set kid (keyO k 1 0 0 (spW k) 1 v')
theorem speckO_eq (k : List UInt8) : speckO k = keyO k 0 0 0 (List.replicate 27 0) 0 0 := by
  unfold speckO keyO
  simp [u32C]
/-- One turn by a word. -/
def spR (w : Int) (p : Int × Int) : Int × Int := (xor32 (add32 (rot32 p.1 (-8)) p.2) w, xor32 (rot32 p.2 3) (xor32 (add32 (rot32 p.1 (-8)) p.2) w))
def spB (ws : List Int) (p : Int × Int) : Int × Int := ws.foldl (fun p w => spR w p) p
theorem spB_snoc (ws : List Int) (w : Int) (p : Int × Int) : spB (ws ++ [w]) p = spR w (spB ws p) := by unfold spB; rw [List.foldl_append]; rfl
theorem spW_len (k : List UInt8) : (spW k).length = 27 := by unfold spW; simp
theorem c163 (hw : WordsOk) (k : List UInt8) (hk : k.length = 16) (kid : Nat) (H : PH) (h0 : (∃ v, H[kid]? = some (keyO k 0 0 0 (List.replicate 27 0) 0 v)) ∨ (∃ v, H[kid]? = some (keyO k 1 0 0 (spW k) 1 v))) (x y : Int) :
    CallOk prog 163 [.ptr (some (kid, 0)), .int .u32 x, .int .u32 y] H fun r H' => r = .tup [.int .u32 (spB (spW k) (x, y)).1, .int .u32 (spB (spW k) (x, y)).2] ∧ ∃ v', H' = H.set kid (keyO k 1 0 0 (spW k) 1 v') := by
  have hlt : kid < H.length := by
    rcases h0 with ⟨v, h⟩ | ⟨v, h⟩ <;> exact (List.getElem?_eq_some_iff.1 h).1
  (refine callOk_of_pFun2 (tt := ttO) (imm := imm163) follows ttO_ok depth6 func163 (by kernel_rfl) ?_; (conv => whnf))
  refine callK_of (hw k hk kid H h0) ?_
  rintro _ _ ⟨rfl, v', rfl⟩
  have hK : (H.set kid (keyO k 1 0 0 (spW k) 1 v'))[kid]? = some (keyO k 1 0 0 (spW k) 1 v') := List.getElem?_set_self hlt
  generalize hKK : H.set kid (keyO k 1 0 0 (spW k) 1 v') = K at hK
  (conv => whnf)
  refine loopK_of Nat (fun i => [(13, .sref kid 19 27 27), (14, .int .i64 27), (15, .int .i64 i), (1, .int .u32 (spB ((spW k).take i) (x, y)).1), (2, .int .u32 (spB ((spW k).take i) (x, y)).2)]) (fun _ => K) (fun i => i ≤ 27) (fun i => 27 - i) ⟨0, Nat.zero_le _, ⟨rfl, rfl, rfl, rfl, rfl, trivial⟩, rfl⟩ ?_
  intro i hi
  (conv => whnf)
  refine ⟨fun h => ?_, fun h => ?_⟩
  · have h : (i : Int) < 27 := h
    have hi' : i < (spW k).length := by rw [spW_len]; omega
    (conv => whnf)
    refine ⟨⟨by omega, by show (i : Int) < ((27 : Nat) : Int); exact h⟩, ?_⟩
    (conv => whnf)
    ((conv in (_[_]?) => tactic => exact hK); (conv => whnf))
    have hd : dropN (19 + (i : Int).toNat * 1) (keyO k 1 0 0 (spW k) 1 v').cs = u32C (spW k)[i] :: (((spW k).drop (i + 1)).map u32C ++ [u32C 1]) := by
      rw [dropN_eq]
      show ((k.map byteC ++ [PV.int .u32 1, PV.int .i32 0, PV.int .u32 0]) ++ (spW k).map u32C ++ [PV.int .u32 1]).drop _ = _
      have e : 19 + (i : Int).toNat * 1 = (k.map byteC ++ [PV.int .u32 1, PV.int .i32 0, PV.int .u32 0]).length + i := by simp [hk]
      rw [e, List.append_assoc, List.drop_length_add_append, List.drop_append_of_le_length (by rw [List.length_map]; omega), ← List.map_drop, List.drop_eq_getElem_cons hi']
      rfl
    ((conv in (dropN _ _) => tactic => exact hd); (conv => whnf))
    refine callK_pure (c185 _ _) ?_
    (conv => whnf)
    refine callK_pure (c185 _ _) ?_
    (conv => whnf)
    have et : spB ((spW k).take (i + 1)) (x, y) = spR (spW k)[i] (spB ((spW k).take i) (x, y)) := by rw [List.take_succ_eq_append_getElem hi', spB_snoc]
    refine ⟨i + 1, by omega, ⟨rfl, rfl, ?_, ?_, ?_, trivial⟩, rfl, by omega⟩
    · show PV.int _ (IntKind.i64.wrap ((i : Int) + 1)) = PV.int _ _
      rw [wrap64 (by omega) (by omega)]; simp
    · rw [et]; rfl
    · rw [et]; rfl
  · have h : ¬ (i : Int) < 27 := h
    have e : (spW k).take i = spW k := List.take_of_length_le (by rw [spW_len]; omega)
    rw [e]
    (conv => whnf)
    exact ⟨rfl, v', hKK.symm⟩
end Go.Proofs.Tryz

set_option maxRecDepth 100000
set_option maxHeartbeats 1000000
set_option linter.unusedVariables false
set_option linter.unusedSimpArgs false
namespace Go.Proofs.Tryz
open Go Ps
/-- A cipher's object: without its words, or with them. -/
def KeySt (k : List UInt8) (o : PObj) : Prop := (∃ v, o = keyO k 0 0 0 (List.replicate 27 0) 0 v) ∨ (∃ v, o = keyO k 1 0 0 (spW k) 1 v)
theorem KeySt.flat {k : List UInt8} {o : PObj} (h : KeySt k o) : o.cs.all flatP = true := by
  rcases h with ⟨v, rfl⟩ | ⟨v, rfl⟩ <;> exact List.all_eq_true.2 fun c hc => keyO_flat _ _ _ _ _ _ _ c hc
def le4 (w : Int) : List UInt8 := [byteI w, byteI (ishr .u32 w 8), byteI (ishr .u32 w 16), byteI (ishr .u32 w 24)]
def blkP (k : List UInt8) (nn : Int) (i : Nat) : Int × Int := spB (spW k) (IntKind.u32.wrap (ishr .u64 nn 32), add32 (IntKind.u32.wrap nn) i)
def strN (k : List UInt8) (nn : Int) : Nat → List UInt8
  | 0 => []
  | i + 1 => strN k nn i ++ (le4 (blkP k nn i).1 ++ le4 (blkP k nn i).2)
theorem strN_len (k : List UInt8) (nn : Int) : ∀ i, (strN k nn i).length = 8 * i
  | 0 => rfl
  | i + 1 => by
    show (strN k nn i ++ (le4 _ ++ le4 _)).length = _
    rw [List.length_append, strN_len k nn i]
    show 8 * i + 8 = _
    omega
/-- So many bytes of the stream. -/
def streamV (k : List UInt8) (nn : Int) (n : Nat) : List UInt8 := (strN k nn ((n + 7) / 8)).take n
theorem streamV_len (k : List UInt8) (nn : Int) (n : Nat) : (streamV k nn n).length = n := by
  unfold streamV
  rw [List.length_take, strN_len]; omega
theorem le4_cells (w : Int) : [PV.int .u8 (IntKind.u8.wrap w), .int .u8 (IntKind.u8.wrap (ishr .u32 w 8)), .int .u8 (IntKind.u8.wrap (ishr .u32 w 16)), .int .u8 (IntKind.u8.wrap (ishr .u32 w 24))] = (le4 w).map byteC := by
  rw [byteC_I, byteC_I, byteC_I, byteC_I]; rfl
theorem ow_app' (a b : List UInt8) {n : Nat} (hn : n = b.length) : PV.slice (a.length + n) (a.map byteC ++ b.map byteC) (some 5) = ow (a ++ b) := by subst hn; exact ow_app a b
structure StS where
  i : Nat
  o : PObj
theorem wrap32 {n : Nat} (h : n < 4294967296) : IntKind.u32.wrap (n : Int) = (n : Int) := by
  show (n : Int) % _ = _
  have : (2 ^ IntKind.u32.bits : Int) = 4294967296 := by decide
  rw [this]; omega
theorem c141 (hw : WordsOk) (k : List UInt8) (hk : k.length = 16) (kid : Nat) (nn : Int) (n : Nat) (hn : n ≤ 1000000) (so : PObj) (hso : KeySt k so) (H : PH) (hid : H[kid]? = some so) :
    CallOk prog 141 [.ptr (some (kid, 0)), .int .u64 nn, .int .i64 n] H fun r H' => r = sl (streamV k nn n) ∧ ∃ o', KeySt k o' ∧ H' = H.set kid o' := by
  have hlt : kid < H.length := (List.getElem?_eq_some_iff.1 hid).1
  rcases Nat.eq_zero_or_pos n with h0 | h0
  · subst h0
    exact (c141z kid nn 0 (by decide) H).mono fun r H' hh => ⟨hh.1, so, hso, by rw [hh.2]; exact (set_self hid).symm⟩
  (refine callOk_of_pFun2 (tt := ttS) (imm := imm141) follows ttS_ok depth6 func141 (by kernel_rfl) ?_; (conv => whnf))
  refine ⟨fun h => absurd h (by omega), fun _ => ?_⟩
  (conv => whnf)
  have hw8 : IntKind.i64.wrap ((n : Int) + 8) = (n : Int) + 8 := wrap64 (by omega) (by omega)
  refine ⟨⟨by decide, by rw [hw8]; omega, by rw [hw8]; show ((n : Int) + 8) * ((1 : Nat) : Int) ≤ _; omega⟩, ?_⟩
  (conv => whnf)
  refine loopK_of StS (fun x => [(0, .ptr (some (kid, 0))), (1, .int .u64 nn), (2, .int .i64 n), (7, ow (strN k nn x.i)), (8, .int .u32 x.i)]) (fun x => H.set kid x.o) (fun x => x.i ≤ (n + 7) / 8 ∧ KeySt k x.o) (fun x => (n + 7) / 8 - x.i) ⟨⟨0, so⟩, ⟨Nat.zero_le _, hso⟩, ⟨rfl, rfl, rfl, rfl, rfl, trivial⟩, (set_self hid).symm⟩ ?_
  rintro ⟨i, o⟩ ⟨hi, ho⟩
  replace hi : i ≤ (n + 7) / 8 := hi
  replace ho : KeySt k o := ho
  have hsl := strN_len k nn i
  (conv => whnf)
  refine ⟨fun h => ?_, fun h => ?_⟩
  · have h : ((strN k nn i).length : Int) < n := h
    rw [hsl] at h
    (conv => whnf)
    refine ⟨by decide, ?_⟩
    (conv => whnf)
    have hst : (∃ v, (H.set kid o)[kid]? = some (keyO k 0 0 0 (List.replicate 27 0) 0 v)) ∨ (∃ v, (H.set kid o)[kid]? = some (keyO k 1 0 0 (spW k) 1 v)) := by
      rw [List.getElem?_set_self hlt]
      rcases ho with ⟨v, rfl⟩ | ⟨v, rfl⟩
      · exact .inl ⟨v, rfl⟩
      · exact .inr ⟨v, rfl⟩
    refine callK_of (Q := fun r H' => r = .tup [.int .u32 (blkP k nn i).1, .int .u32 (blkP k nn i).2] ∧ ∃ v', H' = H.set kid (keyO k 1 0 0 (spW k) 1 v')) ((c163 hw k hk kid (H.set kid o) hst _ _).mono fun r H' hh => ?_) ?_
    · obtain ⟨h1, v', h2⟩ := hh
      exact ⟨h1, v', by rw [h2, List.set_set]⟩
    rintro _ _ ⟨rfl, v', rfl⟩
    (conv => whnf)
    generalize hx : (blkP k nn i).1 = x
    generalize hy : (blkP k nn i).2 = y
    refine loopK_of Nat (fun j => [(0, .ptr (some (kid, 0))), (1, .int .u64 nn), (2, .int .i64 n), (7, ow (strN k nn i ++ (le4 x ++ le4 y).take (4 * j))), (8, .int .u32 i), (42, .slice 2 [.int .u32 x, .int .u32 y] (some 217)), (43, .int .i64 2), (44, .int .i64 j)]) (fun _ => H.set kid (keyO k 1 0 0 (spW k) 1 v')) (fun j => j ≤ 2) (fun j => 2 - j) ⟨0, Nat.zero_le _, ⟨rfl, rfl, rfl, ?_, rfl, rfl, rfl, rfl, trivial⟩, rfl⟩ ?_
    · show ow (strN k nn i) = ow (strN k nn i ++ [])
      rw [List.append_nil]
    intro j hj
    have happ : ∀ (a b : List UInt8), b.length = 4 → a.length ≤ 2000000 → (a.length + 4) * 1 ≤ 140737488355328 ∧ (b.map byteC).length = 4 * 1 ∧ (b.map byteC).all oneP = true := fun a b hb ha => ⟨by omega, by simp [hb], allOne b⟩
    match j, hj with
    | 0, _ =>
      (conv => whnf)
      refine ⟨fun _ => ?_, fun h => absurd (show ((0 : Nat) : Int) < 2 by decide) h⟩
      (conv => whnf)
      refine ⟨⟨by decide, by decide⟩, [.int .u32 x], at1' (k := 0) rfl, ?_⟩
      (conv => whnf)
      refine ⟨by decide, ?_⟩
      (conv => whnf)
      refine ⟨by decide, ?_⟩
      (conv => whnf)
      refine ⟨by decide, ?_⟩
      (conv => whnf)
      refine ⟨⟨by show ((strN k nn i ++ (le4 x ++ le4 y).take (4 * 0)).length + 4) * 1 ≤ _; rw [List.length_append, hsl]; simp; omega, rfl, rfl⟩, ?_⟩
      (conv => whnf)
      refine ⟨1, by decide, ⟨rfl, rfl, rfl, ?_, rfl, rfl, rfl, rfl, trivial⟩, rfl, by decide⟩
      show PV.slice ((strN k nn i ++ (le4 x ++ le4 y).take (4 * 0)).length + 4) ((strN k nn i ++ (le4 x ++ le4 y).take (4 * 0)).map byteC ++ [PV.int .u8 (IntKind.u8.wrap x), .int .u8 (IntKind.u8.wrap (ishr .u32 x 8)), .int .u8 (IntKind.u8.wrap (ishr .u32 x 16)), .int .u8 (IntKind.u8.wrap (ishr .u32 x 24))]) (some 5) = ow (strN k nn i ++ (le4 x ++ le4 y).take (4 * 1))
      rw [le4_cells, ow_app' _ (le4 x) (n := 4) rfl, List.append_assoc]
      rfl
    | 1, _ =>
      (conv => whnf)
      refine ⟨fun _ => ?_, fun h => absurd (show ((1 : Nat) : Int) < 2 by decide) h⟩
      (conv => whnf)
      refine ⟨⟨by decide, by decide⟩, [.int .u32 y], at1' (k := 1) rfl, ?_⟩
      (conv => whnf)
      refine ⟨by decide, ?_⟩
      (conv => whnf)
      refine ⟨by decide, ?_⟩
      (conv => whnf)
      refine ⟨by decide, ?_⟩
      (conv => whnf)
      refine ⟨⟨by show ((strN k nn i ++ (le4 x ++ le4 y).take (4 * 1)).length + 4) * 1 ≤ _; rw [List.length_append, hsl]; simp; omega, rfl, rfl⟩, ?_⟩
      (conv => whnf)
      refine ⟨2, by decide, ⟨rfl, rfl, rfl, ?_, rfl, rfl, rfl, rfl, trivial⟩, rfl, by decide⟩
      show PV.slice ((strN k nn i ++ (le4 x ++ le4 y).take (4 * 1)).length + 4) ((strN k nn i ++ (le4 x ++ le4 y).take (4 * 1)).map byteC ++ [PV.int .u8 (IntKind.u8.wrap y), .int .u8 (IntKind.u8.wrap (ishr .u32 y 8)), .int .u8 (IntKind.u8.wrap (ishr .u32 y 16)), .int .u8 (IntKind.u8.wrap (ishr .u32 y 24))]) (some 5) = ow (strN k nn i ++ (le4 x ++ le4 y).take (4 * 2))
      rw [le4_cells, ow_app' _ (le4 y) (n := 4) rfl, List.append_assoc]
      rfl
    | 2, _ =>
      (conv => whnf)
      refine ⟨fun h => absurd h (by decide), fun _ => ?_⟩
      (conv => whnf)
      refine ⟨⟨i + 1, keyO k 1 0 0 (spW k) 1 v'⟩, ⟨by show i + 1 ≤ (n + 7) / 8; omega, .inr ⟨v', rfl⟩⟩, ⟨rfl, rfl, rfl, ?_, ?_, trivial⟩, rfl, by show (n + 7) / 8 - (i + 1) < (n + 7) / 8 - i; omega⟩
      · subst hx hy
        rfl
      · show PV.int _ (IntKind.u32.wrap ((i : Int) + 1)) = PV.int _ ((i + 1 : Nat) : Int)
        rw [← wrap32 (n := i + 1) (by omega)]; rfl
  · have h : ¬ ((strN k nn i).length : Int) < n := h
    rw [hsl] at h
    have e : i = (n + 7) / 8 := by omega
    (conv => whnf)
    refine ⟨⟨by decide, by omega, by show (n : Int) ≤ ((strN k nn i).length : Int); omega⟩, ?_⟩
    (conv => whnf)
    refine ⟨?_, o, ho, rfl⟩
    refine (sl_cut2 (strN k nn i) 0 n ⟨by omega, by omega, by omega⟩).trans ?_
    rw [Int.toNat_natCast, e]
    rfl
end Go.Proofs.Tryz

set_option maxRecDepth 100000
set_option maxHeartbeats 1600000
set_option linter.unusedVariables false
set_option linter.unusedSimpArgs false
namespace Go.Proofs.Tryz
open Go
theorem mDisable (w : World) : (callFunc 228 #[]).run prog w = .ok (.value (.tuple #[])) w := run_call_mark0 func228 (by kernel_rfl) (by kernel_rfl) (by kernel_rfl) .disable (by kernel_rfl) w
theorem mEnable (w : World) : (callFunc 230 #[]).run prog w = .ok (.value (.tuple #[])) w := run_call_mark0 func230 (by kernel_rfl) (by kernel_rfl) (by kernel_rfl) .enable (by kernel_rfl) w
theorem mAcquire (a : Addr) (w : World) : (callFunc 231 #[.pointer (some a)]).run prog w = .ok (.value (.tuple #[])) w := run_call_marked func231 (by kernel_rfl) (by kernel_rfl) (by kernel_rfl) .acquire (by kernel_rfl) a w
theorem mRelease (a : Addr) (w : World) : (callFunc 233 #[.pointer (some a)]).run prog w = .ok (.value (.tuple #[])) w := run_call_marked func233 (by kernel_rfl) (by kernel_rfl) (by kernel_rfl) .releaseMerge (by kernel_rfl) a w
theorem lock_free (a : Addr) (w : World) (hc : w.cell? a = some (.int .i32 0)) (hz : w.frozen? a = false) :
    Calls prog 216 #[.pointer (some a)] w fun e w' => e = .returned (.tuple #[]) ∧ w' = w.setCell a (.int .i32 1) := by
  have hd := mDisable
  have he := mEnable
  have ha := mAcquire
  have hcas := run_call_cas_hit (P := prog) func229 (by kernel_rfl) (by kernel_rfl) (by kernel_rfl) .i32 (by kernel_rfl) (y := 1) hc hz
  have hc' : (w.setCell a (.int .i32 1)).cell? a = some (.int .i32 1) := World.cell?_setCell_same w a _ hc
  have hcv := run_convert_to_unsafe (P := prog) (src := 300) (dst := 304) underlying300 underlying304 (by kernel_rfl) hc'
  go_enter func216, ntmps216
  go_wp2
  first | go_end0 | (simp only [Exit.inBlock, Exit.then]; refine bodyPost_ret (results_none rfl _ _ _) rfl ?_) | refine bodyPost_ret (results_none rfl _ _ _) rfl ?_
  go_wp2
  go_end0
  exact ⟨rfl, rfl⟩
theorem unlock_deferred (a : Addr) (u : FrameMode) (w : World) (hc : w.cell? a = some (.int .i32 1)) (hz : w.frozen? a = false) :
    CallsD prog 217 #[.pointer (some a)] u w fun e u' w' => u' = u ∧ (e = .returned (.tuple #[]) ∧ w' = w.setCell a (.int .i32 0)) := by
  have hd := mDisable
  have he := mEnable
  have hr := mRelease
  have hadd := run_call_add (P := prog) func234 (by kernel_rfl) (by kernel_rfl) (by kernel_rfl) .i32 (by kernel_rfl) (y := -1) (s := 0) hc hz (by simp [go_sem]; rfl)
  have hcv := run_convert_to_unsafe (P := prog) (src := 300) (dst := 304) underlying300 underlying304 (by kernel_rfl) hc
  go_enter_d func217, ntmps217
  go_wp2
  go_end0
  go_wp2
  go_end0
  exact ⟨rfl, rfl⟩
theorem store_deferred (a : Addr) (x : Value) (u : FrameMode) (w : World) (hc : w.cell? a = some x) (hz : w.frozen? a = false) :
    CallsD prog 207 #[.pointer (some a), .bool true] u w fun e u' w' => u' = u ∧ (e = .returned (.tuple #[]) ∧ w' = w.drew.setCell a (.int .u32 1)) := by
  have hc' : w.drew.cell? a = some x := by go_simp
  have hz' : w.drew.frozen? a = false := by go_simp
  have hst := run_call_store (P := prog) func218 (by kernel_rfl) (by kernel_rfl) (by kernel_rfl) (by kernel_rfl) (k := .u32) (y := 1) hc' hz'
  go_enter_d func207, ntmps207
  go_wp2
  go_region_calls
  all_goals (go_end0; exact ⟨rfl, rfl⟩)
end Go.Proofs.Tryz

set_option maxRecDepth 100000
set_option maxHeartbeats 3000000
set_option linter.unusedVariables false
set_option linter.unusedSimpArgs false
namespace Go.Proofs.Tryz
open Go Ps
theorem c207D {H : PH} {id off : Nat} {o : PObj} {n : Int} (ho : H[id]? = some o) (hc : o.cs[off]? = some (.int .u32 n)) :
    CallDOk prog 207 [.ptr (some (id, off)), .bool true] H fun r H' => r = .tup [] ∧ H' = H.set id ⟨o.T, setCells off [.int .u32 1] o.cs, o.ver + 1⟩ := by
  refine callDOk_of_pFun2 (tt := ttO) (imm := imm207) follows ttO_ok depth6 func207 (by kernel_rfl) ?_
  (conv => whnf)
  refine drawK_of2 D207 [H, H.set id ⟨o.T, setCells off [.int .u32 1] o.cs, o.ver + 1⟩] (by kernel_rfl) rfl trivial ?_
  (conv => whnf)
  (apply Exists.intro; apply And.intro; (focus ((conv => whnf); first | exact ⟨rfl, rfl, trivial⟩ | (refine ⟨by omega, ?_⟩; (conv => whnf); exact ⟨rfl, rfl, trivial⟩))); (conv => whnf))
  (apply Exists.intro; apply And.intro; (focus ((conv => whnf); first | exact ⟨rfl, rfl, trivial⟩ | (refine ⟨by omega, ?_⟩; (conv => whnf); exact ⟨rfl, rfl, trivial⟩))); (conv => whnf))
  (apply Exists.intro; apply And.intro; (focus ((conv => whnf); first | exact ⟨rfl, rfl, trivial⟩ | (refine ⟨by omega, ?_⟩; (conv => whnf); exact ⟨rfl, rfl, trivial⟩))); (conv => whnf))
  (apply Exists.intro; apply And.intro; (focus ((conv => whnf); first | exact ⟨rfl, rfl, trivial⟩ | (refine ⟨by omega, ?_⟩; (conv => whnf); exact ⟨rfl, rfl, trivial⟩))); (conv => whnf))
  refine ⟨_, callK_pure c219 ⟨rfl, rfl, trivial⟩, ?_⟩
  (conv => whnf)
  refine ⟨_, callK_of (c218 1 ho hc) (by rintro _ _ ⟨rfl, rfl⟩; exact ⟨rfl, rfl, trivial⟩), ?_⟩
  (conv => whnf)
  exact ⟨rfl, rfl⟩
theorem keyO_at (k : List UInt8) (hk : k.length = 16) (d m s : Int) (l : List Int) (md : Int) (v : Nat) : (keyO k d m s l md v).cs[16]? = some (.int .u32 d) ∧ (keyO k d m s l md v).cs[17]? = some (.int .i32 m) := by
  obtain ⟨k0, k1, k2, k3, k4, k5, k6, k7, k8, k9, ka, kb, kc, kd, ke, kf, rfl⟩ := len16 hk
  exact ⟨rfl, rfl⟩
theorem keyO_set16 (k : List UInt8) (hk : k.length = 16) (d m s : Int) (l : List Int) (md : Int) (v : Nat) (x : Int) : setCells 16 [.int .u32 x] (keyO k d m s l md v).cs = (keyO k x m s l md v).cs := by
  obtain ⟨k0, k1, k2, k3, k4, k5, k6, k7, k8, k9, ka, kb, kc, kd, ke, kf, rfl⟩ := len16 hk
  rfl
theorem keyO_set17 (k : List UInt8) (hk : k.length = 16) (d m s : Int) (l : List Int) (md : Int) (v : Nat) (x : Int) : setCells 17 [.int .i32 x] (keyO k d m s l md v).cs = (keyO k d x s l md v).cs := by
  obtain ⟨k0, k1, k2, k3, k4, k5, k6, k7, k8, k9, ka, kb, kc, kd, ke, kf, rfl⟩ := len16 hk
  rfl
theorem load_none (a : Addr) (w : World) (hc : w.cell? a = some (.int .u32 0)) :
    Calls prog 205 #[.pointer (some a)] w fun e w' => e = .returned (.bool false) ∧ w' = w := by
  have hl := run_call_load (P := prog) func215 (by kernel_rfl) (by kernel_rfl) (by kernel_rfl) .u32 (by kernel_rfl) (w := w) (a := a) (x := 0) hc
  go_enter func205, ntmps205
  go_wp2
  exact ⟨rfl, .bool false, by simp [results, f205, go_sem, Act.eval], rfl, rfl⟩
theorem c206 (k : List UInt8) (hk : k.length = 16) (kid v : Nat) (H : PH) (hid : H[kid]? = some (keyO k 0 0 0 (List.replicate 27 0) 0 v)) :
    CallOk prog 206 [.ptr (some (kid, 16)), .func 199 [.ptr (some (kid, 0))] []] H fun r H' => r = .tup [] ∧ ∃ v', H' = H.set kid (keyO k 1 0 0 (spW k) 1 v') := by
  intro g w vs hs hr
  obtain ⟨a, y, rfl, ha, hy⟩ := args2 hs hr.e
  obtain ⟨b, rfl, hι⟩ := (plain_of ha (by simp) (by simp)).inv_ptr
  obtain ⟨first, caps, rfl, e2, e3, e4, e5⟩ := (plain_of hy (by simp) (by simp)).inv_func
  have st0 := St.start hr
  obtain ⟨b1, q1, hd1, fd1, _⟩ := cell_at hr.h ha hid (keyO_at k hk 0 0 0 _ 0 v).1
  cases q1
  obtain ⟨b2, q2, hm1, fm1, hset1⟩ := cell_at hr.h ((V.ptr kid b 17 hι).vc) hid (keyO_at k hk 0 0 0 _ 0 v).2
  cases q2
  have st1 : St prog g w H g (w.setCell ⟨b, 17, none⟩ (.int .i32 1)) _ := hset1 1 _ _ _ st0
  rw [keyO_set17 k hk] at st1
  obtain ⟨p, rfl⟩ : ∃ p, first = #[p] := by
    match first, e2 with
    | ⟨[p]⟩, _ => exact ⟨p, rfl⟩
  obtain rfl : caps = #[] := Array.eq_empty_of_size_eq_zero e3
  have hp : V g w p (.ptr (some (kid, 0))) := e4 0 _ rfl
  obtain ⟨b3, rfl, hι3⟩ := hp.inv_ptr
  rw [hι] at hι3
  cases hι3
  refine .inl ⟨run_callFunc_body func206 (by kernel_rfl) (by kernel_rfl), ?_⟩
  have hd1' : (w.setCell ⟨b, 17, none⟩ (.int .i32 1)).cell? ⟨b, 16, none⟩ = some (.int .u32 0) := (World.cell?_setCell_other _ ⟨b, 17, none⟩ ⟨b, 16, none⟩ _ (by simp)).trans hd1
  have hid1 : (H.set kid ⟨(keyO k 0 0 0 (List.replicate 27 0) 0 v).T, (keyO k 0 1 0 (List.replicate 27 0) 0 v).cs, (keyO k 0 0 0 (List.replicate 27 0) 0 v).ver + 1⟩)[kid]? = some (keyO k 0 1 0 (List.replicate 27 0) 0 (v + 1)) := get_set hid
  have hmake := St.call st1 func199 (by kernel_rfl) (by kernel_rfl) (c199 k hk 0 1 0 0 (List.replicate 27 0) rfl (v + 1) kid _ hid1) (vs := #[.pointer (some ⟨b, 0, none⟩)]) rfl (fun j c hj => by
    match j, hj with
    | 0, hj => cases hj; exact .ptr kid b 0 hι
    | j + 1, hj => simp at hj)
  have hnot : ∀ (x : Bool) (w : World), (Op.unary .not (.bool x)).run prog w = .ok (.bool (!x)) w := fun _ _ => rfl
  go_enter_defers func206, ntmps206
  go_wp2_with (go_at_call 216; refine (lock_free ⟨b, 17, none⟩ _ hm1 fm1).mono ?_; rintro e w' ⟨rfl, rfl⟩)
  refine (load_none ⟨b, 16, none⟩ _ hd1').mono ?_
  rintro e w' ⟨rfl, rfl⟩
  go_wp2_with (go_at_call 199; refine hmake.mono ?_; rintro e w' ⟨v', r, H2, g2, rfl, ⟨rfl, v2, rfl⟩, st2, kp, hv2⟩)
  have hidk : ((H.set kid ⟨(keyO k 0 0 0 (List.replicate 27 0) 0 v).T, (keyO k 0 1 0 (List.replicate 27 0) 0 v).cs, (keyO k 0 0 0 (List.replicate 27 0) 0 v).ver + 1⟩).set kid (keyO k 0 1 0 (spW k) 1 v2))[kid]? = some (keyO k 0 1 0 (spW k) 1 v2) := get_set hid1
  have hι2 : g2.ι[kid]? = some (some b) := kp.ι kid b hι
  obtain ⟨hinv, hstore⟩ := St.callD st2 (c207D hidk (keyO_at k hk 0 1 0 (spW k) 1 v2).1) (vs := #[.pointer (some ⟨b, 16, none⟩), .bool true]) .returning rfl (fun j c hj => by
    match j, hj with
    | 0, hj => cases hj; exact .ptr kid b 16 hι2
    | 1, hj => cases hj; exact .bool true
    | j + 2, hj => simp at hj)
  show Leaves prog f206 _ _ _ .returning w'
  refine leaves_cons (f := 207) (args := #[.pointer (some ⟨b, 16, none⟩), .bool true]) (by simp) (by simp [invoke, hinv]) ?_
  refine hstore.mono ?_
  rintro e u' w3 ⟨rfl, v3, r3, H3, g3, rfl, ⟨rfl, rfl⟩, st3, kp3⟩
  rw [keyO_set16 k hk] at st3
  have hid3 := get_set (o' := ⟨(keyO k 0 1 0 (spW k) 1 v2).T, (keyO k 1 1 0 (spW k) 1 v2).cs, (keyO k 0 1 0 (spW k) 1 v2).ver + 1⟩) hidk
  have hι3 : g3.ι[kid]? = some (some b) := kp3.ι kid b hι2
  obtain ⟨b5, q5, hm3, fm3, hset3⟩ := cell_at st3.rel.h ((V.ptr kid b 17 hι3).vc) hid3 (keyO_at k hk 1 1 0 (spW k) 1 v2).2
  cases q5
  have st4 : St prog g w H g3 (w3.setCell ⟨b, 17, none⟩ (.int .i32 0)) _ := hset3 0 _ _ _ st3
  rw [show setCells 17 [PV.int .i32 0] (PObj.mk (keyO k 0 1 0 (spW k) 1 v2).T (keyO k 1 1 0 (spW k) 1 v2).cs ((keyO k 0 1 0 (spW k) 1 v2).ver + 1)).cs = (keyO k 1 0 0 (spW k) 1 v2).cs from keyO_set17 k hk 1 1 0 (spW k) 1 v2 0] at st4
  refine leaves_cons (f := 217) (args := #[.pointer (some ⟨b, 17, none⟩)]) (by simp [settle]) (by
    have := run_callFunc_body (P := prog) (vs := #[.pointer (some ⟨b, 17, none⟩)]) (w := w3) func217 (by kernel_rfl) (by kernel_rfl)
    simp [invoke, this]) ?_
  refine (unlock_deferred ⟨b, 17, none⟩ _ _ hm3 fm3).mono ?_
  rintro e u' w4 ⟨rfl, rfl, rfl⟩
  obtain ⟨f1, f2, f3, f4⟩ := st4.fin
  refine ⟨.tuple #[], results_none rfl _ _ _, .tuple #[], .tup [], _, g3, rfl, ⟨rfl, v2 + 1 + 1, ?_⟩, f1, f2, f3, f4⟩
  rw [List.set_set, List.set_set, List.set_set]
  rfl
end Go.Proofs.Tryz

set_option maxRecDepth 100000
set_option maxHeartbeats 1000000
set_option linter.unusedVariables false
set_option linter.unusedSimpArgs false
namespace Go.Proofs.Tryz
open Go Ps
theorem c215 {H : PH} {id off : Nat} {o : PObj} {n : Int} (ho : H[id]? = some o) (hc : o.cs[off]? = some (.int .u32 n)) :
    CallOk prog 215 [.ptr (some (id, off))] H fun r H' => r = .int .u32 n ∧ H' = H :=
  callOk_load func215 (by kernel_rfl) (by kernel_rfl) (by kernel_rfl) .u32 (by kernel_rfl) ho hc
theorem c205 {H : PH} {id off : Nat} {o : PObj} {n : Int} (ho : H[id]? = some o) (hc : o.cs[off]? = some (.int .u32 n)) :
    CallOk prog 205 [.ptr (some (id, off))] H fun r H' => r = .bool (!decide (n = 0)) ∧ H' = H := by
  (refine callOk_of_pFun2 (tt := ttO) (imm := imm205) follows ttO_ok depth6 func205 (by kernel_rfl) ?_; (conv => whnf))
  refine callK_of (c215 ho hc) ?_
  rintro _ _ ⟨rfl, rfl⟩
  (conv => whnf)
  refine ⟨fun h => ?_, fun h => ?_⟩
  · (conv => whnf)
    have h : n = 0 := h
    exact ⟨congrArg PV.bool (by rw [decide_eq_true h]; rfl), rfl⟩
  · (conv => whnf)
    have h : ¬ n = 0 := h
    exact ⟨congrArg PV.bool (by rw [decide_eq_false h]; rfl), rfl⟩
theorem c198a (k : List UInt8) (hk : k.length = 16) (kid v : Nat) (H : PH) (hid : H[kid]? = some (keyO k 0 0 0 (List.replicate 27 0) 0 v)) :
    CallOk prog 198 [.ptr (some (kid, 16)), .func 199 [.ptr (some (kid, 0))] []] H fun r H' => r = .tup [] ∧ ∃ v', H' = H.set kid (keyO k 1 0 0 (spW k) 1 v') := by
  (refine callOk_of_pFun2 (tt := ttO) (imm := imm198) follows ttO_ok depth6 func198 (by kernel_rfl) ?_; (conv => whnf))
  refine callK_of (c205 hid (keyO_at k hk 0 0 0 _ 0 v).1) ?_
  rintro _ _ ⟨rfl, rfl⟩
  (conv => whnf)
  refine callK_of (c206 k hk kid v _ hid) ?_
  rintro _ _ ⟨rfl, v', rfl⟩
  (conv => whnf)
  exact ⟨rfl, v', rfl⟩
theorem c198b (k : List UInt8) (hk : k.length = 16) (kid v : Nat) (H : PH) (hid : H[kid]? = some (keyO k 1 0 0 (spW k) 1 v)) :
    CallOk prog 198 [.ptr (some (kid, 16)), .func 199 [.ptr (some (kid, 0))] []] H fun r H' => r = .tup [] ∧ ∃ v', H' = H.set kid (keyO k 1 0 0 (spW k) 1 v') := by
  (refine callOk_of_pFun2 (tt := ttO) (imm := imm198) follows ttO_ok depth6 func198 (by kernel_rfl) ?_; (conv => whnf))
  refine callK_of (c205 hid (keyO_at k hk 1 0 0 _ 1 v).1) ?_
  rintro _ _ ⟨rfl, rfl⟩
  (conv => whnf)
  exact ⟨rfl, v, (set_self hid).symm⟩
theorem wordsOk : WordsOk := by
  intro k hk kid H h0
  have hlt : kid < H.length := by
    rcases h0 with ⟨v, h⟩ | ⟨v, h⟩ <;> exact (List.getElem?_eq_some_iff.1 h).1
  have hc : CallOk prog 198 [.ptr (some (kid, 16)), .func 199 [.ptr (some (kid, 0))] []] H fun r H' => r = .tup [] ∧ ∃ v', H' = H.set kid (keyO k 1 0 0 (spW k) 1 v') := by
    rcases h0 with ⟨v, h⟩ | ⟨v, h⟩
    · exact c198a k hk kid v H h
    · exact c198b k hk kid v H h
  (refine callOk_of_pFun2 (tt := ttO) (imm := imm184) follows ttO_ok depth6 func184 (by kernel_rfl) ?_; (conv => whnf))
  refine callK_of hc ?_
  rintro _ _ ⟨rfl, v', rfl⟩
  (conv => whnf)
  refine ⟨by decide, fun _ => ?_, fun h => absurd (show (0 : Int) < ((27 : Nat) : Int) by decide) h⟩
  (conv => whnf)
  exact ⟨rfl, v', rfl⟩
end Go.Proofs.Tryz

set_option maxRecDepth 100000
set_option maxHeartbeats 2000000
set_option linter.unusedVariables false
set_option linter.unusedSimpArgs false
namespace Go.Proofs.Tryz
open Go Ps
def imm108 : List Nat := []
theorem byte_int (a b : UInt8) : ((a.toNat : Int) = (b.toNat : Int)) ↔ a = b := by
  constructor
  · intro h
    have : a.toNat = b.toNat := by omega
    exact UInt8.toNat_inj.1 this
  · rintro rfl; rfl
theorem c108 (a b : List UInt8) (ha : a.length ≤ 1000000) : Pure prog 108 [sl a, sl b] (.bool (decide (a = b))) := by
  intro H
  (refine callOk_of_pFun2 (tt := ttS) (imm := imm108) follows ttS_ok depth6 func108 (by kernel_rfl) ?_; (conv => whnf))
  refine ⟨fun h => ?_, fun h => ?_⟩
  rotate_left
  · (conv => whnf)
    have h : ¬ (a.length : Int) = b.length := h
    exact ⟨congrArg PV.bool (decide_eq_false fun e => h (by rw [e])).symm, rfl⟩
  have h : (a.length : Int) = b.length := h
  have hl : a.length = b.length := by omega
  (conv => whnf)
  refine loopK_of Nat (fun i => [(0, sl a), (1, sl b), (12, .int .i64 a.length), (13, .int .i64 i)]) (fun _ => H) (fun i => i ≤ a.length ∧ a.take i = b.take i) (fun i => a.length - i) ⟨0, ⟨Nat.zero_le _, rfl⟩, ⟨rfl, rfl, rfl, rfl, trivial⟩, rfl⟩ ?_
  rintro i ⟨hi, he⟩
  (conv => whnf)
  refine ⟨fun h => ?_, fun h => ?_⟩
  · have h : (i : Int) < a.length := h
    have hia : i < a.length := by omega
    have hib : i < b.length := by omega
    (conv => whnf)
    refine drawK_pure2 (by kernel_rfl) ?_
    (conv => whnf)
    (apply Exists.intro; apply And.intro; (focus ((conv => whnf); first | exact ⟨rfl, rfl, trivial⟩ | (refine ⟨by omega, ?_⟩; (conv => whnf); exact ⟨rfl, rfl, trivial⟩))); (conv => whnf))
    (apply Exists.intro; apply And.intro; (focus ((conv => whnf); first | exact ⟨rfl, rfl, trivial⟩ | (refine ⟨by omega, ?_⟩; (conv => whnf); exact ⟨rfl, rfl, trivial⟩))); (conv => whnf))
    refine ⟨.elem [byteC a[i]], ⟨⟨by omega, h⟩, [byteC a[i]], at1' (k := (i : Int).toNat * 1) (by rw [Int.toNat_natCast, Nat.mul_one, List.getElem?_map, List.getElem?_eq_getElem hia]; rfl), rfl, rfl, trivial⟩, ?_⟩
    (conv => whnf)
    (apply Exists.intro; apply And.intro; (focus ((conv => whnf); first | exact ⟨rfl, rfl, trivial⟩ | (refine ⟨by omega, ?_⟩; (conv => whnf); exact ⟨rfl, rfl, trivial⟩))); (conv => whnf))
    (apply Exists.intro; apply And.intro; (focus ((conv => whnf); first | exact ⟨rfl, rfl, trivial⟩ | (refine ⟨by omega, ?_⟩; (conv => whnf); exact ⟨rfl, rfl, trivial⟩))); (conv => whnf))
    (apply Exists.intro; apply And.intro; (focus ((conv => whnf); first | exact ⟨rfl, rfl, trivial⟩ | (refine ⟨by omega, ?_⟩; (conv => whnf); exact ⟨rfl, rfl, trivial⟩))); (conv => whnf))
    refine ⟨.elem [byteC b[i]], ⟨⟨by omega, by omega⟩, [byteC b[i]], at1' (k := (i : Int).toNat * 1) (by rw [Int.toNat_natCast, Nat.mul_one, List.getElem?_map, List.getElem?_eq_getElem hib]; rfl), rfl, rfl, trivial⟩, ?_⟩
    (conv => whnf)
    (apply Exists.intro; apply And.intro; (focus ((conv => whnf); first | exact ⟨rfl, rfl, trivial⟩ | (refine ⟨by omega, ?_⟩; (conv => whnf); exact ⟨rfl, rfl, trivial⟩))); (conv => whnf))
    by_cases hq : a[i] = b[i]
    · refine ⟨.bool false, ?_, ?_⟩
      · (conv => whnf)
        exact ⟨fun _ => ⟨rfl, rfl, trivial⟩, fun h2 => absurd ((byte_int _ _).2 hq) h2⟩
      (conv => whnf)
      refine ⟨i + 1, ⟨by omega, ?_⟩, ⟨rfl, rfl, rfl, ?_, trivial⟩, rfl, by omega⟩
      · rw [List.take_succ_eq_append_getElem hia, List.take_succ_eq_append_getElem hib, he, hq]
      · show PV.int _ (IntKind.i64.wrap ((i : Int) + 1)) = PV.int _ _
        rw [wrap64 (by omega) (by omega)]; simp
    · refine ⟨.bool true, ?_, ?_⟩
      · (conv => whnf)
        exact ⟨fun h2 => absurd ((byte_int _ _).1 h2) hq, fun _ => ⟨rfl, rfl, trivial⟩⟩
      (conv => whnf)
      refine ⟨congrArg PV.bool (decide_eq_false fun e => hq ?_).symm, rfl⟩
      subst e; rfl
  · have h : ¬ (i : Int) < a.length := h
    (conv => whnf)
    refine ⟨congrArg PV.bool (decide_eq_true ?_).symm, rfl⟩
    rw [← List.take_of_length_le (l := a) (i := i) (by omega), he, List.take_of_length_le (by omega)]
/-- Is it sealed by this key? -/
def openB (sp : List UInt8) (u : Int) (b : List UInt8) : Bool := decide (16 ≤ b.length) && decide (b.length ≤ 800) && decide (beN (b.take 8) ≤ 1099511627776) && decide (tagV sp u (b.take (b.length - 8)) = b.drop (b.length - 8))
theorem c45o (k : List UInt8) (hk : k.length = 16) (so : PObj) (hso : KeySt k so) (sid : Nat) (u : Int) (hu : isUseB u = true) (b : List UInt8) (sp : List UInt8) (hsp : sp.length = 16) (s o r : Int) (v bid : Nat) (H : PH)
    (hb : H[bid]? = some (boxS sid sp s o r v)) (hs : H[sid]? = some so) (hne : bid ≠ sid) (h16 : 16 ≤ b.length) (h800 : b.length ≤ 800) :
    CallOk prog 45 [.ptr (some (bid, 0)), .int .i64 u, sl b] H fun x H' => match openB sp u b with
      | true => x = .tup [sl (xorL ((b.take (b.length - 8)).drop 8) (streamV k (mixN (beN (b.take 8) : Nat) u) (b.length - 16))), .int .i64 0] ∧ ∃ o', KeySt k o' ∧ H' = (H.set bid (boxS sid sp s (IntKind.i64.wrap (o + 1)) r (v + 1))).set sid o'
      | false => x = .tup [ow [], .int .i64 3] ∧ H' = H.set bid (boxS sid sp s o (IntKind.i64.wrap (r + 1)) (v + 1)) := by
  have hc93r : CallOk prog 93 [.ptr (some (bid, 0 + 19)), .int .i64 1] H fun x H' => H' = H.set bid (boxS sid sp s o (IntKind.i64.wrap (r + 1)) (v + 1)) := by
    obtain ⟨k0, k1, k2, k3, k4, k5, k6, k7, k8, k9, ka, kb, kc, kd, ke, kf, rfl⟩ := len16 hsp
    exact (c93 (off := 19) (n := r) 1 hb rfl).mono fun x H' hh => hh.2
  have hc93o : CallOk prog 93 [.ptr (some (bid, 0 + 18)), .int .i64 1] H fun x H' => H' = H.set bid (boxS sid sp s (IntKind.i64.wrap (o + 1)) r (v + 1)) := by
    obtain ⟨k0, k1, k2, k3, k4, k5, k6, k7, k8, k9, ka, kb, kc, kd, ke, kf, rfl⟩ := len16 hsp
    exact (c93 (off := 18) (n := o) 1 hb rfl).mono fun x H' hh => hh.2
  have hw8 : IntKind.i64.wrap ((b.length : Int) - 8) = ((b.length - 8 : Nat) : Int) := by rw [wrap64 (by omega) (by omega)]; omega
  have hfst : decide (16 ≤ b.length) = true := decide_eq_true h16
  have hsnd : decide (b.length ≤ 800) = true := decide_eq_true h800
  (refine callOk_of_pFun2 (tt := ttS) (imm := imm45) follows ttS_ok depth6 func45 (by kernel_rfl) ?_; (conv => whnf))
  refine callK_pure (c92 u) ?_
  rw [hu]
  (conv => whnf)
  refine ⟨fun _ => ?_, fun h => absurd (show (16 : Int) ≤ b.length by omega) h⟩
  (conv => whnf)
  refine ⟨fun _ => ?_, fun h => absurd (show (b.length : Int) ≤ 800 by omega) h⟩
  (conv => whnf)
  refine drawK_pure2 (by kernel_rfl) ?_
  (conv => whnf)
  (apply Exists.intro; apply And.intro; (focus ((conv => whnf); first | exact ⟨rfl, rfl, trivial⟩ | (refine ⟨by omega, ?_⟩; (conv => whnf); exact ⟨rfl, rfl, trivial⟩))); (conv => whnf))
  (apply Exists.intro; apply And.intro; (focus ((conv => whnf); first | exact ⟨rfl, rfl, trivial⟩ | (refine ⟨by omega, ?_⟩; (conv => whnf); exact ⟨rfl, rfl, trivial⟩))); (conv => whnf))
  (apply Exists.intro; apply And.intro; (focus ((conv => whnf); first | exact ⟨rfl, rfl, trivial⟩ | (refine ⟨by omega, ?_⟩; (conv => whnf); exact ⟨rfl, rfl, trivial⟩))); (conv => whnf))
  refine ⟨.int .i64 ((b.length - 8 : Nat) : Int), ⟨congrArg (PV.int _) hw8, rfl, trivial⟩, ?_⟩
  (conv => whnf)
  refine ⟨sl ((b.take (b.length - 8)).drop 0), ⟨⟨by omega, by omega, by omega⟩, sl_cut2 b 0 ((b.length - 8 : Nat) : Int) ⟨by omega, by omega, by omega⟩, rfl, trivial⟩, ?_⟩
  (conv => whnf)
  (apply Exists.intro; apply And.intro; (focus ((conv => whnf); first | exact ⟨rfl, rfl, trivial⟩ | (refine ⟨by omega, ?_⟩; (conv => whnf); exact ⟨rfl, rfl, trivial⟩))); (conv => whnf))
  refine ⟨sl ((b.take 8).drop 0), ⟨⟨by omega, by omega, by omega⟩, sl_cut2 b 0 8 ⟨by omega, by omega, by omega⟩, rfl, trivial⟩, ?_⟩
  (conv => whnf)
  refine ⟨_, callK_pure (c107 ((b.take 8).drop 0) (by rw [List.length_drop, List.length_take]; omega)) ⟨rfl, rfl, trivial⟩, ?_⟩
  (conv => whnf)
  (apply Exists.intro; apply And.intro; (focus ((conv => whnf); first | exact ⟨rfl, rfl, trivial⟩ | (refine ⟨by omega, ?_⟩; (conv => whnf); exact ⟨rfl, rfl, trivial⟩))); (conv => whnf))
  (apply Exists.intro; apply And.intro; (focus ((conv => whnf); first | exact ⟨rfl, rfl, trivial⟩ | (refine ⟨by omega, ?_⟩; (conv => whnf); exact ⟨rfl, rfl, trivial⟩))); (conv => whnf))
  refine drawK_pure2 (by kernel_rfl) ?_
  (conv => whnf)
  (apply Exists.intro; apply And.intro; (focus ((conv => whnf); first | exact ⟨rfl, rfl, trivial⟩ | (refine ⟨by omega, ?_⟩; (conv => whnf); exact ⟨rfl, rfl, trivial⟩))); (conv => whnf))
  have e0 : (b.take (b.length - 8)).drop 0 = b.take (b.length - 8) := rfl
  have hal : (b.take (b.length - 8)).length = b.length - 8 := by rw [List.length_take]; omega
  have hpl : ((b.take (b.length - 8)).drop 8).length = b.length - 16 := by rw [List.length_drop, hal]; omega
  by_cases hn : beN (b.take 8) ≤ 1099511627776
  · refine ⟨.bool true, ?_, ?_⟩
    · (conv => whnf)
      exact ⟨fun _ => ⟨rfl, rfl, trivial⟩, fun h => absurd (show ((beN (b.take 8) : Nat) : Int) ≤ 1099511627776 by omega) h⟩
    (conv => whnf)
    (apply Exists.intro; apply And.intro; (focus ((conv => whnf); first | exact ⟨rfl, rfl, trivial⟩ | (refine ⟨by omega, ?_⟩; (conv => whnf); exact ⟨rfl, rfl, trivial⟩))); (conv => whnf))
    (apply Exists.intro; apply And.intro; (focus ((conv => whnf); first | exact ⟨rfl, rfl, trivial⟩ | (refine ⟨by omega, ?_⟩; (conv => whnf); exact ⟨rfl, rfl, trivial⟩))); (conv => whnf))
    (apply Exists.intro; apply And.intro; (focus ((conv => whnf); first | exact ⟨rfl, rfl, trivial⟩ | (refine ⟨by omega, ?_⟩; (conv => whnf); exact ⟨rfl, rfl, trivial⟩))); (conv => whnf))
    (apply Exists.intro; apply And.intro; (focus ((conv => whnf); first | exact ⟨rfl, rfl, trivial⟩ | (refine ⟨by omega, ?_⟩; (conv => whnf); exact ⟨rfl, rfl, trivial⟩))); (conv => whnf))
    refine ⟨_, callK_of (c96 sid sp hsp s o r v u (b.take (b.length - 8)) (by omega) bid H hb) (by rintro _ _ ⟨rfl, rfl⟩; exact ⟨rfl, rfl, trivial⟩), ?_⟩
    (conv => whnf)
    (apply Exists.intro; apply And.intro; (focus ((conv => whnf); first | exact ⟨rfl, rfl, trivial⟩ | (refine ⟨by omega, ?_⟩; (conv => whnf); exact ⟨rfl, rfl, trivial⟩))); (conv => whnf))
    (apply Exists.intro; apply And.intro; (focus ((conv => whnf); first | exact ⟨rfl, rfl, trivial⟩ | (refine ⟨by omega, ?_⟩; (conv => whnf); exact ⟨rfl, rfl, trivial⟩))); (conv => whnf))
    (apply Exists.intro; apply And.intro; (focus ((conv => whnf); first | exact ⟨rfl, rfl, trivial⟩ | (refine ⟨by omega, ?_⟩; (conv => whnf); exact ⟨rfl, rfl, trivial⟩))); (conv => whnf))
    refine ⟨.int .i64 ((b.length - 8 : Nat) : Int), ⟨congrArg (PV.int _) hw8, rfl, trivial⟩, ?_⟩
    (conv => whnf)
    refine ⟨sl ((b.take b.length).drop (b.length - 8)), ⟨⟨by omega, by omega, by omega⟩, sl_cut2 b ((b.length - 8 : Nat) : Int) (b.length : Int) ⟨by omega, by omega, by omega⟩, rfl, trivial⟩, ?_⟩
    (conv => whnf)
    refine ⟨_, callK_pure (c108 (tagV sp u (b.take (b.length - 8))) ((b.take b.length).drop (b.length - 8)) (by show 8 ≤ _; omega)) ⟨rfl, rfl, trivial⟩, ?_⟩
    rw [List.take_length]
    by_cases hq : tagV sp u (b.take (b.length - 8)) = b.drop (b.length - 8)
    · have hop : openB sp u b = true := by unfold openB; rw [hfst, hsnd, decide_eq_true hn, decide_eq_true hq]; rfl
      rw [decide_eq_true hq, hop]
      (conv => whnf)
      (apply Exists.intro; apply And.intro; (focus ((conv => whnf); first | exact ⟨rfl, rfl, trivial⟩ | (refine ⟨by omega, ?_⟩; (conv => whnf); exact ⟨rfl, rfl, trivial⟩))); (conv => whnf))
      refine callK_of hc93o ?_
      rintro x _ rfl
      have hb' : (H.set bid (boxS sid sp s (IntKind.i64.wrap (o + 1)) r (v + 1)))[bid]? = some (boxS sid sp s (IntKind.i64.wrap (o + 1)) r (v + 1)) := get_set hb
      have hs' : (H.set bid (boxS sid sp s (IntKind.i64.wrap (o + 1)) r (v + 1)))[sid]? = some so := by rw [List.getElem?_set_ne hne]; exact hs
      (conv => whnf)
      refine ⟨⟨by decide, by show (8 : Int) ≤ ((b.take (b.length - 8)).length : Int); omega, by omega⟩, ?_⟩
      (conv => whnf)
      have ec := sl_cut2 (b.take (b.length - 8)) 8 ((b.take (b.length - 8)).length : Int) ⟨by omega, by omega, by omega⟩
      rw [Int.toNat_natCast, List.take_length] at ec
      refine callK_args (args' := [.ptr (some (bid, 0)), .int .i64 u, .int .u64 (beN (b.take 8) : Nat), sl ((b.take (b.length - 8)).drop 8)]) ?_ (callK_of (c95 (KeySt k) (fun o' h => h.flat) so sid (beN (b.take 8) : Nat) u ((b.take (b.length - 8)).drop 8) (streamV k (mixN (beN (b.take 8) : Nat) u) (b.length - 16)) (by rw [streamV_len, hpl]) (by omega) (fun H hs => by
        rw [hpl]
        exact c141 wordsOk k hk sid _ (b.length - 16) (by omega) so hso H hs) sp hsp s (IntKind.i64.wrap (o + 1)) r (v + 1) bid _ hb' hs') ?_)
      · exact congrArg (fun z => [PV.ptr (some (bid, 0)), PV.int .i64 u, PV.int .u64 (beN (b.take 8) : Nat), z]) ec
      rintro _ _ ⟨rfl, o', ho', rfl⟩
      (conv => whnf)
      exact ⟨rfl, o', ho', rfl⟩
    · have hop : openB sp u b = false := by unfold openB; rw [decide_eq_false hq, Bool.and_false]
      rw [decide_eq_false hq, hop]
      (conv => whnf)
      (apply Exists.intro; apply And.intro; (focus ((conv => whnf); first | exact ⟨rfl, rfl, trivial⟩ | (refine ⟨by omega, ?_⟩; (conv => whnf); exact ⟨rfl, rfl, trivial⟩))); (conv => whnf))
      refine callK_of hc93r ?_
      rintro x _ rfl
      (conv => whnf)
      exact ⟨rfl, rfl⟩
  · have hop : openB sp u b = false := by unfold openB; rw [decide_eq_false hn, Bool.and_false, Bool.false_and]
    rw [hop]
    refine ⟨.bool false, ?_, ?_⟩
    · (conv => whnf)
      exact ⟨fun h => absurd (show ((beN (b.take 8) : Nat) : Int) ≤ 1099511627776 from h) (by omega), fun _ => ⟨rfl, rfl, trivial⟩⟩
    (conv => whnf)
    (apply Exists.intro; apply And.intro; (focus ((conv => whnf); first | exact ⟨rfl, rfl, trivial⟩ | (refine ⟨by omega, ?_⟩; (conv => whnf); exact ⟨rfl, rfl, trivial⟩))); (conv => whnf))
    (apply Exists.intro; apply And.intro; (focus ((conv => whnf); first | exact ⟨rfl, rfl, trivial⟩ | (refine ⟨by omega, ?_⟩; (conv => whnf); exact ⟨rfl, rfl, trivial⟩))); (conv => whnf))
    (apply Exists.intro; apply And.intro; (focus ((conv => whnf); first | exact ⟨rfl, rfl, trivial⟩ | (refine ⟨by omega, ?_⟩; (conv => whnf); exact ⟨rfl, rfl, trivial⟩))); (conv => whnf))
    (apply Exists.intro; apply And.intro; (focus ((conv => whnf); first | exact ⟨rfl, rfl, trivial⟩ | (refine ⟨by omega, ?_⟩; (conv => whnf); exact ⟨rfl, rfl, trivial⟩))); (conv => whnf))
    (apply Exists.intro; apply And.intro; (focus ((conv => whnf); first | exact ⟨rfl, rfl, trivial⟩ | (refine ⟨by omega, ?_⟩; (conv => whnf); exact ⟨rfl, rfl, trivial⟩))); (conv => whnf))
    (apply Exists.intro; apply And.intro; (focus ((conv => whnf); first | exact ⟨rfl, rfl, trivial⟩ | (refine ⟨by omega, ?_⟩; (conv => whnf); exact ⟨rfl, rfl, trivial⟩))); (conv => whnf))
    (apply Exists.intro; apply And.intro; (focus ((conv => whnf); first | exact ⟨rfl, rfl, trivial⟩ | (refine ⟨by omega, ?_⟩; (conv => whnf); exact ⟨rfl, rfl, trivial⟩))); (conv => whnf))
    (apply Exists.intro; apply And.intro; (focus ((conv => whnf); first | exact ⟨rfl, rfl, trivial⟩ | (refine ⟨by omega, ?_⟩; (conv => whnf); exact ⟨rfl, rfl, trivial⟩))); (conv => whnf))
    (apply Exists.intro; apply And.intro; (focus ((conv => whnf); first | exact ⟨rfl, rfl, trivial⟩ | (refine ⟨by omega, ?_⟩; (conv => whnf); exact ⟨rfl, rfl, trivial⟩))); (conv => whnf))
    (apply Exists.intro; apply And.intro; (focus ((conv => whnf); first | exact ⟨rfl, rfl, trivial⟩ | (refine ⟨by omega, ?_⟩; (conv => whnf); exact ⟨rfl, rfl, trivial⟩))); (conv => whnf))
    (apply Exists.intro; apply And.intro; (focus ((conv => whnf); first | exact ⟨rfl, rfl, trivial⟩ | (refine ⟨by omega, ?_⟩; (conv => whnf); exact ⟨rfl, rfl, trivial⟩))); (conv => whnf))
    (apply Exists.intro; apply And.intro; (focus ((conv => whnf); first | exact ⟨rfl, rfl, trivial⟩ | (refine ⟨by omega, ?_⟩; (conv => whnf); exact ⟨rfl, rfl, trivial⟩))); (conv => whnf))
    refine callK_of hc93r ?_
    rintro x _ rfl
    (conv => whnf)
    exact ⟨rfl, rfl⟩
end Go.Proofs.Tryz

set_option maxRecDepth 100000
set_option maxHeartbeats 2000000
set_option linter.unusedVariables false
set_option linter.unusedSimpArgs false
namespace Go.Proofs.Tryz
open Go Ps
def ttQ3 : TT := [(3, ⟨.int .i64, 1, 8, [.int .i64 0]⟩), (5, ⟨.int .u8, 1, 1, [.int .u8 0]⟩), (22, ⟨.slice 5, 1, 24, [.slice 0 [] (some 5)]⟩), (166, ⟨.arr 16 5, 16, 16, List.replicate 16 (.int .u8 0)⟩), (176, ⟨.int .u64, 1, 8, [.int .u64 0]⟩), (191, ⟨.int .u64, 1, 8, [.int .u64 0]⟩), (255, ⟨.ptr, 1, 8, [.ptr none]⟩), (256, ⟨.arr 4 176, 4, 32, [.int .u64 0, .int .u64 0, .int .u64 0, .int .u64 0]⟩)]
theorem ttQ3_ok : ttOk prog ttQ3 = true := by kernel_rfl
def imm187 : List Nat := []
def imm172 : List Nat := []
def imm171 : List Nat := []
def imm170 : List Nat := []
def imm146 : List Nat := [2]
def rotR (x n : Int) : Int := ibits .or .u64 (ishl .u64 x n) (ishr .u64 x (IntKind.u64.wrap (64 - n)))
theorem c187 (x n : Int) (hn : 0 ≤ n) : Pure prog 187 [.int .u64 x, .int .u64 n] (.int .u64 (rotR x n)) := by
  intro H
  (refine callOk_of_pFun2 (tt := ttQ3) (imm := imm187) follows ttQ3_ok depth6 func187 (by kernel_rfl) ?_; (conv => whnf))
  refine ⟨hn, ?_⟩
  (conv => whnf)
  refine ⟨u64_nonneg _, ?_⟩
  (conv => whnf)
  exact ⟨rfl, rfl⟩
theorem rot13 (x : Int) : rotR x 13 = rotC x 13 := by unfold rotC; rw [show rotS 13 = 13 by decide]; rfl
theorem rot32' (x : Int) : rotR x 32 = rotC x 32 := by unfold rotC; rw [show rotS 32 = 32 by decide]; rfl
theorem rot16 (x : Int) : rotR x 16 = rotC x 16 := by unfold rotC; rw [show rotS 16 = 16 by decide]; rfl
theorem rot21 (x : Int) : rotR x 21 = rotC x 21 := by unfold rotC; rw [show rotS 21 = 21 by decide]; rfl
theorem rot17 (x : Int) : rotR x 17 = rotC x 17 := by unfold rotC; rw [show rotS 17 = 17 by decide]; rfl
def S4.Q (s : S4) (v : Nat) : PObj := ⟨256, [.int .u64 s.a, .int .u64 s.b, .int .u64 s.c, .int .u64 s.d], v⟩
theorem S4.lookQ (s : S4) (v : Nat) {id : Nat} {H : PH} {o : PObj} (h : H[id]? = some o) : (H.set id (s.Q v))[id]? = some ⟨256, [.int .u64 s.a, .int .u64 s.b, .int .u64 s.c, .int .u64 s.d], v⟩ := get_set h
def D172_0 : Draw := { imp := [12], win := [] }
def D172_1 : Draw := { imp := [13], win := [] }
def D172_2 : Draw := { imp := [8], win := [] }
def D172_3 : Draw := { imp := [12], win := [] }
def D172_4 : Draw := { imp := [13], win := [] }
def D172_5 : Draw := { imp := [12], win := [] }
def D172_6 : Draw := { imp := [13], win := [] }
def D172_7 : Draw := { imp := [12], win := [] }
def D172_8 : Draw := { imp := [13], win := [] }
def D172_9 : Draw := { imp := [8], win := [] }
theorem c172 (z0 : S4) (id w : Nat) (H : PH) (hid : H[id]? = some (z0.Q w)) :
    CallOk prog 172 [.ptr (some (id, 0))] H fun r H' => r = .tup [] ∧ ∃ v', H' = H.set id (z0.rnd.Q v') := by
  (refine callOk_of_pFun2 (tt := ttQ3) (imm := imm172) follows ttQ3_ok depth6 func172 (by kernel_rfl) ?_; (conv => whnf))
  refine drawK_of2 D172_0 [H, H.set id (z0.s0.Q (w + 1))] (by kernel_rfl) rfl trivial ?_
  (conv => whnf)
  (apply Exists.intro; apply And.intro; (focus ((conv => whnf); first | exact ⟨rfl, rfl, trivial⟩ | (refine ⟨by omega, ?_⟩; (conv => whnf); exact ⟨rfl, rfl, trivial⟩))); (conv => whnf))
  (apply Exists.intro; apply And.intro; (focus ((conv => whnf); first | exact ⟨rfl, rfl, trivial⟩ | (refine ⟨by omega, ?_⟩; (conv => whnf); exact ⟨rfl, rfl, trivial⟩))); (conv => whnf))
  (apply Exists.intro; apply And.intro; (focus ((conv => whnf); first | exact ⟨rfl, rfl, trivial⟩ | (refine ⟨by omega, ?_⟩; (conv => whnf); exact ⟨rfl, rfl, trivial⟩))); (conv => whnf))
  (apply Exists.intro; apply And.intro; (focus ((conv => whnf); first | exact ⟨rfl, rfl, trivial⟩ | (refine ⟨by omega, ?_⟩; (conv => whnf); exact ⟨rfl, rfl, trivial⟩))); (conv => whnf))
  apply Exists.intro
  apply And.intro
  · (conv => whnf)
    ((conv in (_[_]?) => tactic => exact (show H[id]? = some ⟨256, [.int .u64 z0.a, .int .u64 z0.b, .int .u64 z0.c, .int .u64 z0.d], w⟩ from hid)); (conv => whnf))
    exact ⟨rfl, rfl, trivial⟩
  (conv => whnf)
  (apply Exists.intro; apply And.intro; (focus ((conv => whnf); first | exact ⟨rfl, rfl, trivial⟩ | (refine ⟨by omega, ?_⟩; (conv => whnf); exact ⟨rfl, rfl, trivial⟩))); (conv => whnf))
  (apply Exists.intro; apply And.intro; (focus ((conv => whnf); first | exact ⟨rfl, rfl, trivial⟩ | (refine ⟨by omega, ?_⟩; (conv => whnf); exact ⟨rfl, rfl, trivial⟩))); (conv => whnf))
  (apply Exists.intro; apply And.intro; (focus ((conv => whnf); first | exact ⟨rfl, rfl, trivial⟩ | (refine ⟨by omega, ?_⟩; (conv => whnf); exact ⟨rfl, rfl, trivial⟩))); (conv => whnf))
  apply Exists.intro
  apply And.intro
  · (conv => whnf)
    ((conv in (_[_]?) => tactic => exact (show H[id]? = some ⟨256, [.int .u64 z0.a, .int .u64 z0.b, .int .u64 z0.c, .int .u64 z0.d], w⟩ from hid)); (conv => whnf))
    exact ⟨rfl, rfl, trivial⟩
  (conv => whnf)
  (apply Exists.intro; apply And.intro; (focus ((conv => whnf); first | exact ⟨rfl, rfl, trivial⟩ | (refine ⟨by omega, ?_⟩; (conv => whnf); exact ⟨rfl, rfl, trivial⟩))); (conv => whnf))
  (apply Exists.intro; apply And.intro; (focus ((conv => whnf); first | exact ⟨rfl, rfl, trivial⟩ | (refine ⟨by omega, ?_⟩; (conv => whnf); exact ⟨rfl, rfl, trivial⟩))); (conv => whnf))
  (apply Exists.intro; apply And.intro; (focus ((conv => whnf); first | exact ⟨rfl, rfl, trivial⟩ | (refine ⟨by omega, ?_⟩; (conv => whnf); exact ⟨rfl, rfl, trivial⟩))); (conv => whnf))
  apply Exists.intro
  apply And.intro
  · (conv => whnf)
    ((conv in (_[_]?) => tactic => exact (show H[id]? = some ⟨256, [.int .u64 z0.a, .int .u64 z0.b, .int .u64 z0.c, .int .u64 z0.d], w⟩ from hid)); (conv => whnf))
    exact ⟨rfl, rfl, trivial⟩
  (conv => whnf)
  generalize hs1 : S4.s0 z0 = z1
  refine drawK_of2 D172_1 [H.set id (z1.Q (w + 1)), H.set id (z1.s1.Q (w + 2))] (by kernel_rfl) rfl trivial ?_
  (conv => whnf)
  (apply Exists.intro; apply And.intro; (focus ((conv => whnf); first | exact ⟨rfl, rfl, trivial⟩ | (refine ⟨by omega, ?_⟩; (conv => whnf); exact ⟨rfl, rfl, trivial⟩))); (conv => whnf))
  (apply Exists.intro; apply And.intro; (focus ((conv => whnf); first | exact ⟨rfl, rfl, trivial⟩ | (refine ⟨by omega, ?_⟩; (conv => whnf); exact ⟨rfl, rfl, trivial⟩))); (conv => whnf))
  (apply Exists.intro; apply And.intro; (focus ((conv => whnf); first | exact ⟨rfl, rfl, trivial⟩ | (refine ⟨by omega, ?_⟩; (conv => whnf); exact ⟨rfl, rfl, trivial⟩))); (conv => whnf))
  (apply Exists.intro; apply And.intro; (focus ((conv => whnf); first | exact ⟨rfl, rfl, trivial⟩ | (refine ⟨by omega, ?_⟩; (conv => whnf); exact ⟨rfl, rfl, trivial⟩))); (conv => whnf))
  apply Exists.intro
  apply And.intro
  · (conv => whnf)
    ((conv in (_[_]?) => tactic => exact (z1.lookQ (w + 1) hid)); (conv => whnf))
    exact ⟨rfl, rfl, trivial⟩
  (conv => whnf)
  refine ⟨_, callK_pure ((c187 _ 13 (by decide)).of_eq (congrArg _ (rot13 _))) ⟨rfl, rfl, trivial⟩, ?_⟩
  (conv => whnf)
  (apply Exists.intro; apply And.intro; (focus ((conv => whnf); first | exact ⟨rfl, rfl, trivial⟩ | (refine ⟨by omega, ?_⟩; (conv => whnf); exact ⟨rfl, rfl, trivial⟩))); (conv => whnf))
  (apply Exists.intro; apply And.intro; (focus ((conv => whnf); first | exact ⟨rfl, rfl, trivial⟩ | (refine ⟨by omega, ?_⟩; (conv => whnf); exact ⟨rfl, rfl, trivial⟩))); (conv => whnf))
  (apply Exists.intro; apply And.intro; (focus ((conv => whnf); first | exact ⟨rfl, rfl, trivial⟩ | (refine ⟨by omega, ?_⟩; (conv => whnf); exact ⟨rfl, rfl, trivial⟩))); (conv => whnf))
  apply Exists.intro
  apply And.intro
  · (conv => whnf)
    ((conv in (_[_]?) => tactic => exact (z1.lookQ (w + 1) hid)); (conv => whnf))
    exact ⟨rfl, rfl, trivial⟩
  (conv => whnf)
  (apply Exists.intro; apply And.intro; (focus ((conv => whnf); first | exact ⟨rfl, rfl, trivial⟩ | (refine ⟨by omega, ?_⟩; (conv => whnf); exact ⟨rfl, rfl, trivial⟩))); (conv => whnf))
  (apply Exists.intro; apply And.intro; (focus ((conv => whnf); first | exact ⟨rfl, rfl, trivial⟩ | (refine ⟨by omega, ?_⟩; (conv => whnf); exact ⟨rfl, rfl, trivial⟩))); (conv => whnf))
  (apply Exists.intro; apply And.intro; (focus ((conv => whnf); first | exact ⟨rfl, rfl, trivial⟩ | (refine ⟨by omega, ?_⟩; (conv => whnf); exact ⟨rfl, rfl, trivial⟩))); (conv => whnf))
  apply Exists.intro
  apply And.intro
  · (conv => whnf)
    ((conv in (_[_]?) => tactic => exact (z1.lookQ (w + 1) hid)); (conv => whnf))
    exact ⟨rfl, List.set_set .., trivial⟩
  (conv => whnf)
  generalize hs2 : S4.s1 z1 = z2
  refine drawK_of2 D172_2 [H.set id (z2.Q (w + 2)), H.set id (z2.s2.Q (w + 3))] (by kernel_rfl) rfl trivial ?_
  (conv => whnf)
  (apply Exists.intro; apply And.intro; (focus ((conv => whnf); first | exact ⟨rfl, rfl, trivial⟩ | (refine ⟨by omega, ?_⟩; (conv => whnf); exact ⟨rfl, rfl, trivial⟩))); (conv => whnf))
  (apply Exists.intro; apply And.intro; (focus ((conv => whnf); first | exact ⟨rfl, rfl, trivial⟩ | (refine ⟨by omega, ?_⟩; (conv => whnf); exact ⟨rfl, rfl, trivial⟩))); (conv => whnf))
  (apply Exists.intro; apply And.intro; (focus ((conv => whnf); first | exact ⟨rfl, rfl, trivial⟩ | (refine ⟨by omega, ?_⟩; (conv => whnf); exact ⟨rfl, rfl, trivial⟩))); (conv => whnf))
  (apply Exists.intro; apply And.intro; (focus ((conv => whnf); first | exact ⟨rfl, rfl, trivial⟩ | (refine ⟨by omega, ?_⟩; (conv => whnf); exact ⟨rfl, rfl, trivial⟩))); (conv => whnf))
  apply Exists.intro
  apply And.intro
  · (conv => whnf)
    ((conv in (_[_]?) => tactic => exact (z2.lookQ (w + 2) hid)); (conv => whnf))
    exact ⟨rfl, rfl, trivial⟩
  (conv => whnf)
  refine ⟨_, callK_pure ((c187 _ 32 (by decide)).of_eq (congrArg _ (rot32' _))) ⟨rfl, rfl, trivial⟩, ?_⟩
  (conv => whnf)
  (apply Exists.intro; apply And.intro; (focus ((conv => whnf); first | exact ⟨rfl, rfl, trivial⟩ | (refine ⟨by omega, ?_⟩; (conv => whnf); exact ⟨rfl, rfl, trivial⟩))); (conv => whnf))
  (apply Exists.intro; apply And.intro; (focus ((conv => whnf); first | exact ⟨rfl, rfl, trivial⟩ | (refine ⟨by omega, ?_⟩; (conv => whnf); exact ⟨rfl, rfl, trivial⟩))); (conv => whnf))
  apply Exists.intro
  apply And.intro
  · (conv => whnf)
    ((conv in (_[_]?) => tactic => exact (z2.lookQ (w + 2) hid)); (conv => whnf))
    exact ⟨rfl, List.set_set .., trivial⟩
  (conv => whnf)
  generalize hs3 : S4.s2 z2 = z3
  refine drawK_of2 D172_3 [H.set id (z3.Q (w + 3)), H.set id (z3.s3.Q (w + 4))] (by kernel_rfl) rfl trivial ?_
  (conv => whnf)
  (apply Exists.intro; apply And.intro; (focus ((conv => whnf); first | exact ⟨rfl, rfl, trivial⟩ | (refine ⟨by omega, ?_⟩; (conv => whnf); exact ⟨rfl, rfl, trivial⟩))); (conv => whnf))
  (apply Exists.intro; apply And.intro; (focus ((conv => whnf); first | exact ⟨rfl, rfl, trivial⟩ | (refine ⟨by omega, ?_⟩; (conv => whnf); exact ⟨rfl, rfl, trivial⟩))); (conv => whnf))
  (apply Exists.intro; apply And.intro; (focus ((conv => whnf); first | exact ⟨rfl, rfl, trivial⟩ | (refine ⟨by omega, ?_⟩; (conv => whnf); exact ⟨rfl, rfl, trivial⟩))); (conv => whnf))
  (apply Exists.intro; apply And.intro; (focus ((conv => whnf); first | exact ⟨rfl, rfl, trivial⟩ | (refine ⟨by omega, ?_⟩; (conv => whnf); exact ⟨rfl, rfl, trivial⟩))); (conv => whnf))
  apply Exists.intro
  apply And.intro
  · (conv => whnf)
    ((conv in (_[_]?) => tactic => exact (z3.lookQ (w + 3) hid)); (conv => whnf))
    exact ⟨rfl, rfl, trivial⟩
  (conv => whnf)
  (apply Exists.intro; apply And.intro; (focus ((conv => whnf); first | exact ⟨rfl, rfl, trivial⟩ | (refine ⟨by omega, ?_⟩; (conv => whnf); exact ⟨rfl, rfl, trivial⟩))); (conv => whnf))
  (apply Exists.intro; apply And.intro; (focus ((conv => whnf); first | exact ⟨rfl, rfl, trivial⟩ | (refine ⟨by omega, ?_⟩; (conv => whnf); exact ⟨rfl, rfl, trivial⟩))); (conv => whnf))
  (apply Exists.intro; apply And.intro; (focus ((conv => whnf); first | exact ⟨rfl, rfl, trivial⟩ | (refine ⟨by omega, ?_⟩; (conv => whnf); exact ⟨rfl, rfl, trivial⟩))); (conv => whnf))
  apply Exists.intro
  apply And.intro
  · (conv => whnf)
    ((conv in (_[_]?) => tactic => exact (z3.lookQ (w + 3) hid)); (conv => whnf))
    exact ⟨rfl, rfl, trivial⟩
  (conv => whnf)
  (apply Exists.intro; apply And.intro; (focus ((conv => whnf); first | exact ⟨rfl, rfl, trivial⟩ | (refine ⟨by omega, ?_⟩; (conv => whnf); exact ⟨rfl, rfl, trivial⟩))); (conv => whnf))
  (apply Exists.intro; apply And.intro; (focus ((conv => whnf); first | exact ⟨rfl, rfl, trivial⟩ | (refine ⟨by omega, ?_⟩; (conv => whnf); exact ⟨rfl, rfl, trivial⟩))); (conv => whnf))
  (apply Exists.intro; apply And.intro; (focus ((conv => whnf); first | exact ⟨rfl, rfl, trivial⟩ | (refine ⟨by omega, ?_⟩; (conv => whnf); exact ⟨rfl, rfl, trivial⟩))); (conv => whnf))
  apply Exists.intro
  apply And.intro
  · (conv => whnf)
    ((conv in (_[_]?) => tactic => exact (z3.lookQ (w + 3) hid)); (conv => whnf))
    exact ⟨rfl, List.set_set .., trivial⟩
  (conv => whnf)
  generalize hs4 : S4.s3 z3 = z4
  refine drawK_of2 D172_4 [H.set id (z4.Q (w + 4)), H.set id (z4.s4.Q (w + 5))] (by kernel_rfl) rfl trivial ?_
  (conv => whnf)
  (apply Exists.intro; apply And.intro; (focus ((conv => whnf); first | exact ⟨rfl, rfl, trivial⟩ | (refine ⟨by omega, ?_⟩; (conv => whnf); exact ⟨rfl, rfl, trivial⟩))); (conv => whnf))
  (apply Exists.intro; apply And.intro; (focus ((conv => whnf); first | exact ⟨rfl, rfl, trivial⟩ | (refine ⟨by omega, ?_⟩; (conv => whnf); exact ⟨rfl, rfl, trivial⟩))); (conv => whnf))
  (apply Exists.intro; apply And.intro; (focus ((conv => whnf); first | exact ⟨rfl, rfl, trivial⟩ | (refine ⟨by omega, ?_⟩; (conv => whnf); exact ⟨rfl, rfl, trivial⟩))); (conv => whnf))
  (apply Exists.intro; apply And.intro; (focus ((conv => whnf); first | exact ⟨rfl, rfl, trivial⟩ | (refine ⟨by omega, ?_⟩; (conv => whnf); exact ⟨rfl, rfl, trivial⟩))); (conv => whnf))
  apply Exists.intro
  apply And.intro
  · (conv => whnf)
    ((conv in (_[_]?) => tactic => exact (z4.lookQ (w + 4) hid)); (conv => whnf))
    exact ⟨rfl, rfl, trivial⟩
  (conv => whnf)
  refine ⟨_, callK_pure ((c187 _ 16 (by decide)).of_eq (congrArg _ (rot16 _))) ⟨rfl, rfl, trivial⟩, ?_⟩
  (conv => whnf)
  (apply Exists.intro; apply And.intro; (focus ((conv => whnf); first | exact ⟨rfl, rfl, trivial⟩ | (refine ⟨by omega, ?_⟩; (conv => whnf); exact ⟨rfl, rfl, trivial⟩))); (conv => whnf))
  (apply Exists.intro; apply And.intro; (focus ((conv => whnf); first | exact ⟨rfl, rfl, trivial⟩ | (refine ⟨by omega, ?_⟩; (conv => whnf); exact ⟨rfl, rfl, trivial⟩))); (conv => whnf))
  (apply Exists.intro; apply And.intro; (focus ((conv => whnf); first | exact ⟨rfl, rfl, trivial⟩ | (refine ⟨by omega, ?_⟩; (conv => whnf); exact ⟨rfl, rfl, trivial⟩))); (conv => whnf))
  apply Exists.intro
  apply And.intro
  · (conv => whnf)
    ((conv in (_[_]?) => tactic => exact (z4.lookQ (w + 4) hid)); (conv => whnf))
    exact ⟨rfl, rfl, trivial⟩
  (conv => whnf)
  (apply Exists.intro; apply And.intro; (focus ((conv => whnf); first | exact ⟨rfl, rfl, trivial⟩ | (refine ⟨by omega, ?_⟩; (conv => whnf); exact ⟨rfl, rfl, trivial⟩))); (conv => whnf))
  (apply Exists.intro; apply And.intro; (focus ((conv => whnf); first | exact ⟨rfl, rfl, trivial⟩ | (refine ⟨by omega, ?_⟩; (conv => whnf); exact ⟨rfl, rfl, trivial⟩))); (conv => whnf))
  (apply Exists.intro; apply And.intro; (focus ((conv => whnf); first | exact ⟨rfl, rfl, trivial⟩ | (refine ⟨by omega, ?_⟩; (conv => whnf); exact ⟨rfl, rfl, trivial⟩))); (conv => whnf))
  apply Exists.intro
  apply And.intro
  · (conv => whnf)
    ((conv in (_[_]?) => tactic => exact (z4.lookQ (w + 4) hid)); (conv => whnf))
    exact ⟨rfl, List.set_set .., trivial⟩
  (conv => whnf)
  generalize hs5 : S4.s4 z4 = z5
  refine drawK_of2 D172_5 [H.set id (z5.Q (w + 5)), H.set id (z5.s5.Q (w + 6))] (by kernel_rfl) rfl trivial ?_
  (conv => whnf)
  (apply Exists.intro; apply And.intro; (focus ((conv => whnf); first | exact ⟨rfl, rfl, trivial⟩ | (refine ⟨by omega, ?_⟩; (conv => whnf); exact ⟨rfl, rfl, trivial⟩))); (conv => whnf))
  (apply Exists.intro; apply And.intro; (focus ((conv => whnf); first | exact ⟨rfl, rfl, trivial⟩ | (refine ⟨by omega, ?_⟩; (conv => whnf); exact ⟨rfl, rfl, trivial⟩))); (conv => whnf))
  (apply Exists.intro; apply And.intro; (focus ((conv => whnf); first | exact ⟨rfl, rfl, trivial⟩ | (refine ⟨by omega, ?_⟩; (conv => whnf); exact ⟨rfl, rfl, trivial⟩))); (conv => whnf))
  (apply Exists.intro; apply And.intro; (focus ((conv => whnf); first | exact ⟨rfl, rfl, trivial⟩ | (refine ⟨by omega, ?_⟩; (conv => whnf); exact ⟨rfl, rfl, trivial⟩))); (conv => whnf))
  apply Exists.intro
  apply And.intro
  · (conv => whnf)
    ((conv in (_[_]?) => tactic => exact (z5.lookQ (w + 5) hid)); (conv => whnf))
    exact ⟨rfl, rfl, trivial⟩
  (conv => whnf)
  (apply Exists.intro; apply And.intro; (focus ((conv => whnf); first | exact ⟨rfl, rfl, trivial⟩ | (refine ⟨by omega, ?_⟩; (conv => whnf); exact ⟨rfl, rfl, trivial⟩))); (conv => whnf))
  (apply Exists.intro; apply And.intro; (focus ((conv => whnf); first | exact ⟨rfl, rfl, trivial⟩ | (refine ⟨by omega, ?_⟩; (conv => whnf); exact ⟨rfl, rfl, trivial⟩))); (conv => whnf))
  (apply Exists.intro; apply And.intro; (focus ((conv => whnf); first | exact ⟨rfl, rfl, trivial⟩ | (refine ⟨by omega, ?_⟩; (conv => whnf); exact ⟨rfl, rfl, trivial⟩))); (conv => whnf))
  apply Exists.intro
  apply And.intro
  · (conv => whnf)
    ((conv in (_[_]?) => tactic => exact (z5.lookQ (w + 5) hid)); (conv => whnf))
    exact ⟨rfl, rfl, trivial⟩
  (conv => whnf)
  (apply Exists.intro; apply And.intro; (focus ((conv => whnf); first | exact ⟨rfl, rfl, trivial⟩ | (refine ⟨by omega, ?_⟩; (conv => whnf); exact ⟨rfl, rfl, trivial⟩))); (conv => whnf))
  (apply Exists.intro; apply And.intro; (focus ((conv => whnf); first | exact ⟨rfl, rfl, trivial⟩ | (refine ⟨by omega, ?_⟩; (conv => whnf); exact ⟨rfl, rfl, trivial⟩))); (conv => whnf))
  (apply Exists.intro; apply And.intro; (focus ((conv => whnf); first | exact ⟨rfl, rfl, trivial⟩ | (refine ⟨by omega, ?_⟩; (conv => whnf); exact ⟨rfl, rfl, trivial⟩))); (conv => whnf))
  apply Exists.intro
  apply And.intro
  · (conv => whnf)
    ((conv in (_[_]?) => tactic => exact (z5.lookQ (w + 5) hid)); (conv => whnf))
    exact ⟨rfl, List.set_set .., trivial⟩
  (conv => whnf)
  generalize hs6 : S4.s5 z5 = z6
  refine drawK_of2 D172_6 [H.set id (z6.Q (w + 6)), H.set id (z6.s6.Q (w + 7))] (by kernel_rfl) rfl trivial ?_
  (conv => whnf)
  (apply Exists.intro; apply And.intro; (focus ((conv => whnf); first | exact ⟨rfl, rfl, trivial⟩ | (refine ⟨by omega, ?_⟩; (conv => whnf); exact ⟨rfl, rfl, trivial⟩))); (conv => whnf))
  (apply Exists.intro; apply And.intro; (focus ((conv => whnf); first | exact ⟨rfl, rfl, trivial⟩ | (refine ⟨by omega, ?_⟩; (conv => whnf); exact ⟨rfl, rfl, trivial⟩))); (conv => whnf))
  (apply Exists.intro; apply And.intro; (focus ((conv => whnf); first | exact ⟨rfl, rfl, trivial⟩ | (refine ⟨by omega, ?_⟩; (conv => whnf); exact ⟨rfl, rfl, trivial⟩))); (conv => whnf))
  (apply Exists.intro; apply And.intro; (focus ((conv => whnf); first | exact ⟨rfl, rfl, trivial⟩ | (refine ⟨by omega, ?_⟩; (conv => whnf); exact ⟨rfl, rfl, trivial⟩))); (conv => whnf))
  apply Exists.intro
  apply And.intro
  · (conv => whnf)
    ((conv in (_[_]?) => tactic => exact (z6.lookQ (w + 6) hid)); (conv => whnf))
    exact ⟨rfl, rfl, trivial⟩
  (conv => whnf)
  refine ⟨_, callK_pure ((c187 _ 21 (by decide)).of_eq (congrArg _ (rot21 _))) ⟨rfl, rfl, trivial⟩, ?_⟩
  (conv => whnf)
  (apply Exists.intro; apply And.intro; (focus ((conv => whnf); first | exact ⟨rfl, rfl, trivial⟩ | (refine ⟨by omega, ?_⟩; (conv => whnf); exact ⟨rfl, rfl, trivial⟩))); (conv => whnf))
  (apply Exists.intro; apply And.intro; (focus ((conv => whnf); first | exact ⟨rfl, rfl, trivial⟩ | (refine ⟨by omega, ?_⟩; (conv => whnf); exact ⟨rfl, rfl, trivial⟩))); (conv => whnf))
  (apply Exists.intro; apply And.intro; (focus ((conv => whnf); first | exact ⟨rfl, rfl, trivial⟩ | (refine ⟨by omega, ?_⟩; (conv => whnf); exact ⟨rfl, rfl, trivial⟩))); (conv => whnf))
  apply Exists.intro
  apply And.intro
  · (conv => whnf)
    ((conv in (_[_]?) => tactic => exact (z6.lookQ (w + 6) hid)); (conv => whnf))
    exact ⟨rfl, rfl, trivial⟩
  (conv => whnf)
  (apply Exists.intro; apply And.intro; (focus ((conv => whnf); first | exact ⟨rfl, rfl, trivial⟩ | (refine ⟨by omega, ?_⟩; (conv => whnf); exact ⟨rfl, rfl, trivial⟩))); (conv => whnf))
  (apply Exists.intro; apply And.intro; (focus ((conv => whnf); first | exact ⟨rfl, rfl, trivial⟩ | (refine ⟨by omega, ?_⟩; (conv => whnf); exact ⟨rfl, rfl, trivial⟩))); (conv => whnf))
  (apply Exists.intro; apply And.intro; (focus ((conv => whnf); first | exact ⟨rfl, rfl, trivial⟩ | (refine ⟨by omega, ?_⟩; (conv => whnf); exact ⟨rfl, rfl, trivial⟩))); (conv => whnf))
  apply Exists.intro
  apply And.intro
  · (conv => whnf)
    ((conv in (_[_]?) => tactic => exact (z6.lookQ (w + 6) hid)); (conv => whnf))
    exact ⟨rfl, List.set_set .., trivial⟩
  (conv => whnf)
  generalize hs7 : S4.s6 z6 = z7
  refine drawK_of2 D172_7 [H.set id (z7.Q (w + 7)), H.set id (z7.s7.Q (w + 8))] (by kernel_rfl) rfl trivial ?_
  (conv => whnf)
  (apply Exists.intro; apply And.intro; (focus ((conv => whnf); first | exact ⟨rfl, rfl, trivial⟩ | (refine ⟨by omega, ?_⟩; (conv => whnf); exact ⟨rfl, rfl, trivial⟩))); (conv => whnf))
  (apply Exists.intro; apply And.intro; (focus ((conv => whnf); first | exact ⟨rfl, rfl, trivial⟩ | (refine ⟨by omega, ?_⟩; (conv => whnf); exact ⟨rfl, rfl, trivial⟩))); (conv => whnf))
  (apply Exists.intro; apply And.intro; (focus ((conv => whnf); first | exact ⟨rfl, rfl, trivial⟩ | (refine ⟨by omega, ?_⟩; (conv => whnf); exact ⟨rfl, rfl, trivial⟩))); (conv => whnf))
  (apply Exists.intro; apply And.intro; (focus ((conv => whnf); first | exact ⟨rfl, rfl, trivial⟩ | (refine ⟨by omega, ?_⟩; (conv => whnf); exact ⟨rfl, rfl, trivial⟩))); (conv => whnf))
  apply Exists.intro
  apply And.intro
  · (conv => whnf)
    ((conv in (_[_]?) => tactic => exact (z7.lookQ (w + 7) hid)); (conv => whnf))
    exact ⟨rfl, rfl, trivial⟩
  (conv => whnf)
  (apply Exists.intro; apply And.intro; (focus ((conv => whnf); first | exact ⟨rfl, rfl, trivial⟩ | (refine ⟨by omega, ?_⟩; (conv => whnf); exact ⟨rfl, rfl, trivial⟩))); (conv => whnf))
  (apply Exists.intro; apply And.intro; (focus ((conv => whnf); first | exact ⟨rfl, rfl, trivial⟩ | (refine ⟨by omega, ?_⟩; (conv => whnf); exact ⟨rfl, rfl, trivial⟩))); (conv => whnf))
  (apply Exists.intro; apply And.intro; (focus ((conv => whnf); first | exact ⟨rfl, rfl, trivial⟩ | (refine ⟨by omega, ?_⟩; (conv => whnf); exact ⟨rfl, rfl, trivial⟩))); (conv => whnf))
  apply Exists.intro
  apply And.intro
  · (conv => whnf)
    ((conv in (_[_]?) => tactic => exact (z7.lookQ (w + 7) hid)); (conv => whnf))
    exact ⟨rfl, rfl, trivial⟩
  (conv => whnf)
  (apply Exists.intro; apply And.intro; (focus ((conv => whnf); first | exact ⟨rfl, rfl, trivial⟩ | (refine ⟨by omega, ?_⟩; (conv => whnf); exact ⟨rfl, rfl, trivial⟩))); (conv => whnf))
  (apply Exists.intro; apply And.intro; (focus ((conv => whnf); first | exact ⟨rfl, rfl, trivial⟩ | (refine ⟨by omega, ?_⟩; (conv => whnf); exact ⟨rfl, rfl, trivial⟩))); (conv => whnf))
  (apply Exists.intro; apply And.intro; (focus ((conv => whnf); first | exact ⟨rfl, rfl, trivial⟩ | (refine ⟨by omega, ?_⟩; (conv => whnf); exact ⟨rfl, rfl, trivial⟩))); (conv => whnf))
  apply Exists.intro
  apply And.intro
  · (conv => whnf)
    ((conv in (_[_]?) => tactic => exact (z7.lookQ (w + 7) hid)); (conv => whnf))
    exact ⟨rfl, List.set_set .., trivial⟩
  (conv => whnf)
  generalize hs8 : S4.s7 z7 = z8
  refine drawK_of2 D172_8 [H.set id (z8.Q (w + 8)), H.set id (z8.s8.Q (w + 9))] (by kernel_rfl) rfl trivial ?_
  (conv => whnf)
  (apply Exists.intro; apply And.intro; (focus ((conv => whnf); first | exact ⟨rfl, rfl, trivial⟩ | (refine ⟨by omega, ?_⟩; (conv => whnf); exact ⟨rfl, rfl, trivial⟩))); (conv => whnf))
  (apply Exists.intro; apply And.intro; (focus ((conv => whnf); first | exact ⟨rfl, rfl, trivial⟩ | (refine ⟨by omega, ?_⟩; (conv => whnf); exact ⟨rfl, rfl, trivial⟩))); (conv => whnf))
  (apply Exists.intro; apply And.intro; (focus ((conv => whnf); first | exact ⟨rfl, rfl, trivial⟩ | (refine ⟨by omega, ?_⟩; (conv => whnf); exact ⟨rfl, rfl, trivial⟩))); (conv => whnf))
  (apply Exists.intro; apply And.intro; (focus ((conv => whnf); first | exact ⟨rfl, rfl, trivial⟩ | (refine ⟨by omega, ?_⟩; (conv => whnf); exact ⟨rfl, rfl, trivial⟩))); (conv => whnf))
  apply Exists.intro
  apply And.intro
  · (conv => whnf)
    ((conv in (_[_]?) => tactic => exact (z8.lookQ (w + 8) hid)); (conv => whnf))
    exact ⟨rfl, rfl, trivial⟩
  (conv => whnf)
  refine ⟨_, callK_pure ((c187 _ 17 (by decide)).of_eq (congrArg _ (rot17 _))) ⟨rfl, rfl, trivial⟩, ?_⟩
  (conv => whnf)
  (apply Exists.intro; apply And.intro; (focus ((conv => whnf); first | exact ⟨rfl, rfl, trivial⟩ | (refine ⟨by omega, ?_⟩; (conv => whnf); exact ⟨rfl, rfl, trivial⟩))); (conv => whnf))
  (apply Exists.intro; apply And.intro; (focus ((conv => whnf); first | exact ⟨rfl, rfl, trivial⟩ | (refine ⟨by omega, ?_⟩; (conv => whnf); exact ⟨rfl, rfl, trivial⟩))); (conv => whnf))
  (apply Exists.intro; apply And.intro; (focus ((conv => whnf); first | exact ⟨rfl, rfl, trivial⟩ | (refine ⟨by omega, ?_⟩; (conv => whnf); exact ⟨rfl, rfl, trivial⟩))); (conv => whnf))
  apply Exists.intro
  apply And.intro
  · (conv => whnf)
    ((conv in (_[_]?) => tactic => exact (z8.lookQ (w + 8) hid)); (conv => whnf))
    exact ⟨rfl, rfl, trivial⟩
  (conv => whnf)
  (apply Exists.intro; apply And.intro; (focus ((conv => whnf); first | exact ⟨rfl, rfl, trivial⟩ | (refine ⟨by omega, ?_⟩; (conv => whnf); exact ⟨rfl, rfl, trivial⟩))); (conv => whnf))
  (apply Exists.intro; apply And.intro; (focus ((conv => whnf); first | exact ⟨rfl, rfl, trivial⟩ | (refine ⟨by omega, ?_⟩; (conv => whnf); exact ⟨rfl, rfl, trivial⟩))); (conv => whnf))
  (apply Exists.intro; apply And.intro; (focus ((conv => whnf); first | exact ⟨rfl, rfl, trivial⟩ | (refine ⟨by omega, ?_⟩; (conv => whnf); exact ⟨rfl, rfl, trivial⟩))); (conv => whnf))
  apply Exists.intro
  apply And.intro
  · (conv => whnf)
    ((conv in (_[_]?) => tactic => exact (z8.lookQ (w + 8) hid)); (conv => whnf))
    exact ⟨rfl, List.set_set .., trivial⟩
  (conv => whnf)
  generalize hs9 : S4.s8 z8 = z9
  refine drawK_of2 D172_9 [H.set id (z9.Q (w + 9)), H.set id (z9.s9.Q (w + 10))] (by kernel_rfl) rfl trivial ?_
  (conv => whnf)
  (apply Exists.intro; apply And.intro; (focus ((conv => whnf); first | exact ⟨rfl, rfl, trivial⟩ | (refine ⟨by omega, ?_⟩; (conv => whnf); exact ⟨rfl, rfl, trivial⟩))); (conv => whnf))
  (apply Exists.intro; apply And.intro; (focus ((conv => whnf); first | exact ⟨rfl, rfl, trivial⟩ | (refine ⟨by omega, ?_⟩; (conv => whnf); exact ⟨rfl, rfl, trivial⟩))); (conv => whnf))
  (apply Exists.intro; apply And.intro; (focus ((conv => whnf); first | exact ⟨rfl, rfl, trivial⟩ | (refine ⟨by omega, ?_⟩; (conv => whnf); exact ⟨rfl, rfl, trivial⟩))); (conv => whnf))
  (apply Exists.intro; apply And.intro; (focus ((conv => whnf); first | exact ⟨rfl, rfl, trivial⟩ | (refine ⟨by omega, ?_⟩; (conv => whnf); exact ⟨rfl, rfl, trivial⟩))); (conv => whnf))
  apply Exists.intro
  apply And.intro
  · (conv => whnf)
    ((conv in (_[_]?) => tactic => exact (z9.lookQ (w + 9) hid)); (conv => whnf))
    exact ⟨rfl, rfl, trivial⟩
  (conv => whnf)
  refine ⟨_, callK_pure ((c187 _ 32 (by decide)).of_eq (congrArg _ (rot32' _))) ⟨rfl, rfl, trivial⟩, ?_⟩
  (conv => whnf)
  (apply Exists.intro; apply And.intro; (focus ((conv => whnf); first | exact ⟨rfl, rfl, trivial⟩ | (refine ⟨by omega, ?_⟩; (conv => whnf); exact ⟨rfl, rfl, trivial⟩))); (conv => whnf))
  (apply Exists.intro; apply And.intro; (focus ((conv => whnf); first | exact ⟨rfl, rfl, trivial⟩ | (refine ⟨by omega, ?_⟩; (conv => whnf); exact ⟨rfl, rfl, trivial⟩))); (conv => whnf))
  apply Exists.intro
  apply And.intro
  · (conv => whnf)
    ((conv in (_[_]?) => tactic => exact (z9.lookQ (w + 9) hid)); (conv => whnf))
    exact ⟨rfl, List.set_set .., trivial⟩
  (conv => whnf)
  refine ⟨rfl, w + 10, ?_⟩
  subst hs1 hs2 hs3 hs4 hs5 hs6 hs7 hs8 hs9
  rfl
def D171 : Draw := { imp := [9], win := [] }
theorem c171 (s : S4) (m : Int) (id v : Nat) (H : PH) (hid : H[id]? = some (s.Q v)) :
    CallOk prog 171 [.ptr (some (id, 0)), .int .u64 m] H fun r H' => r = .tup [] ∧ ∃ v', H' = H.set id ((s.takes m).Q v') := by
  (refine callOk_of_pFun2 (tt := ttQ3) (imm := imm171) follows ttQ3_ok depth6 func171 (by kernel_rfl) ?_; (conv => whnf))
  refine drawK_of2 D171 [H, H.set id (S4.Q { s with d := xorW s.d m } (v + 1))] (by kernel_rfl) rfl trivial ?_
  have g0 : H[id]? = some ⟨256, [.int .u64 s.a, .int .u64 s.b, .int .u64 s.c, .int .u64 s.d], v⟩ := hid
  (conv => whnf)
  (apply Exists.intro; apply And.intro; (focus ((conv => whnf); first | exact ⟨rfl, rfl, trivial⟩ | (refine ⟨by omega, ?_⟩; (conv => whnf); exact ⟨rfl, rfl, trivial⟩))); (conv => whnf))
  (apply Exists.intro; apply And.intro; (focus ((conv => whnf); first | exact ⟨rfl, rfl, trivial⟩ | (refine ⟨by omega, ?_⟩; (conv => whnf); exact ⟨rfl, rfl, trivial⟩))); (conv => whnf))
  (apply Exists.intro; apply And.intro; (focus ((conv => whnf); first | exact ⟨rfl, rfl, trivial⟩ | (refine ⟨by omega, ?_⟩; (conv => whnf); exact ⟨rfl, rfl, trivial⟩))); (conv => whnf))
  (apply Exists.intro; apply And.intro; (focus ((conv => whnf); first | exact ⟨rfl, rfl, trivial⟩ | (refine ⟨by omega, ?_⟩; (conv => whnf); exact ⟨rfl, rfl, trivial⟩))); (conv => whnf))
  apply Exists.intro
  apply And.intro
  · (conv => whnf)
    ((conv in (_[_]?) => tactic => exact g0); (conv => whnf))
    exact ⟨rfl, rfl, trivial⟩
  (conv => whnf)
  (apply Exists.intro; apply And.intro; (focus ((conv => whnf); first | exact ⟨rfl, rfl, trivial⟩ | (refine ⟨by omega, ?_⟩; (conv => whnf); exact ⟨rfl, rfl, trivial⟩))); (conv => whnf))
  (apply Exists.intro; apply And.intro; (focus ((conv => whnf); first | exact ⟨rfl, rfl, trivial⟩ | (refine ⟨by omega, ?_⟩; (conv => whnf); exact ⟨rfl, rfl, trivial⟩))); (conv => whnf))
  (apply Exists.intro; apply And.intro; (focus ((conv => whnf); first | exact ⟨rfl, rfl, trivial⟩ | (refine ⟨by omega, ?_⟩; (conv => whnf); exact ⟨rfl, rfl, trivial⟩))); (conv => whnf))
  (apply Exists.intro; apply And.intro; (focus ((conv => whnf); first | exact ⟨rfl, rfl, trivial⟩ | (refine ⟨by omega, ?_⟩; (conv => whnf); exact ⟨rfl, rfl, trivial⟩))); (conv => whnf))
  apply Exists.intro
  apply And.intro
  · (conv => whnf)
    ((conv in (_[_]?) => tactic => exact g0); (conv => whnf))
    exact ⟨rfl, rfl, trivial⟩
  (conv => whnf)
  refine callK_of (Q := fun r H' => r = .tup [] ∧ ∃ v', H' = H.set id ((S4.rnds 1 { s with d := xorW s.d m }).Q v')) ((c172 { s with d := xorW s.d m } id (v + 1) (H.set id _) (get_set hid)).mono fun r H' hh => ?_) ?_
  · obtain ⟨h1, v', h2⟩ := hh
    exact ⟨h1, v', by rw [h2, List.set_set]; rfl⟩
  rintro _ _ ⟨rfl, v1, rfl⟩
  (conv => whnf)
  refine callK_of (Q := fun r H' => r = .tup [] ∧ ∃ v', H' = H.set id ((S4.rnds 2 { s with d := xorW s.d m }).Q v')) ((c172 (S4.rnds 1 { s with d := xorW s.d m }) id v1 (H.set id _) (get_set hid)).mono fun r H' hh => ?_) ?_
  · obtain ⟨h1, v', h2⟩ := hh
    exact ⟨h1, v', by rw [h2, List.set_set]; rfl⟩
  rintro _ _ ⟨rfl, v', rfl⟩
  (conv => whnf)
  generalize hs : S4.rnds 2 { s with d := xorW s.d m } = z
  refine drawK_of2 D171 [H.set id (z.Q v'), H.set id (S4.Q { z with a := xorW z.a m } (v' + 1))] (by kernel_rfl) rfl trivial ?_
  (conv => whnf)
  (apply Exists.intro; apply And.intro; (focus ((conv => whnf); first | exact ⟨rfl, rfl, trivial⟩ | (refine ⟨by omega, ?_⟩; (conv => whnf); exact ⟨rfl, rfl, trivial⟩))); (conv => whnf))
  (apply Exists.intro; apply And.intro; (focus ((conv => whnf); first | exact ⟨rfl, rfl, trivial⟩ | (refine ⟨by omega, ?_⟩; (conv => whnf); exact ⟨rfl, rfl, trivial⟩))); (conv => whnf))
  (apply Exists.intro; apply And.intro; (focus ((conv => whnf); first | exact ⟨rfl, rfl, trivial⟩ | (refine ⟨by omega, ?_⟩; (conv => whnf); exact ⟨rfl, rfl, trivial⟩))); (conv => whnf))
  (apply Exists.intro; apply And.intro; (focus ((conv => whnf); first | exact ⟨rfl, rfl, trivial⟩ | (refine ⟨by omega, ?_⟩; (conv => whnf); exact ⟨rfl, rfl, trivial⟩))); (conv => whnf))
  apply Exists.intro
  apply And.intro
  · (conv => whnf)
    ((conv in (_[_]?) => tactic => exact (z.lookQ v' hid)); (conv => whnf))
    exact ⟨rfl, rfl, trivial⟩
  (conv => whnf)
  (apply Exists.intro; apply And.intro; (focus ((conv => whnf); first | exact ⟨rfl, rfl, trivial⟩ | (refine ⟨by omega, ?_⟩; (conv => whnf); exact ⟨rfl, rfl, trivial⟩))); (conv => whnf))
  (apply Exists.intro; apply And.intro; (focus ((conv => whnf); first | exact ⟨rfl, rfl, trivial⟩ | (refine ⟨by omega, ?_⟩; (conv => whnf); exact ⟨rfl, rfl, trivial⟩))); (conv => whnf))
  (apply Exists.intro; apply And.intro; (focus ((conv => whnf); first | exact ⟨rfl, rfl, trivial⟩ | (refine ⟨by omega, ?_⟩; (conv => whnf); exact ⟨rfl, rfl, trivial⟩))); (conv => whnf))
  (apply Exists.intro; apply And.intro; (focus ((conv => whnf); first | exact ⟨rfl, rfl, trivial⟩ | (refine ⟨by omega, ?_⟩; (conv => whnf); exact ⟨rfl, rfl, trivial⟩))); (conv => whnf))
  apply Exists.intro
  apply And.intro
  · (conv => whnf)
    ((conv in (_[_]?) => tactic => exact (z.lookQ v' hid)); (conv => whnf))
    exact ⟨rfl, List.set_set .., trivial⟩
  (conv => whnf)
  refine ⟨rfl, v' + 1, ?_⟩
  subst hs
  rfl
theorem le_step2 (l : List UInt8) (c : UInt8) (h : l.length < 8) : ibits .or .u64 (ishl .u64 (leN l : Nat) 8) (IntKind.u64.wrap c.toNat) = ((leN (c :: l) : Nat) : Int) := by
  have hc := c.toNat_lt
  have h1 := leN_lt l
  rw [pow8] at h1
  have h3 : 2 ^ (8 * (l.length + 1)) ≤ 18446744073709551616 := pow_le8 (by omega)
  have h4 : 2 ^ (8 * (l.length + 1)) = 256 * 2 ^ (8 * l.length) := by rw [Nat.mul_add, Nat.pow_add]; omega
  have h5 : leN l * 256 < 18446744073709551616 := by omega
  have e : ishl .u64 (leN l : Nat) 8 = ((leN l * 256 : Nat) : Int) := by
    show IntKind.u64.wrap ((leN l : Int) * 2 ^ (min (8 : Int).toNat 64)) = _
    have : ((leN l : Int) * 2 ^ (min (8 : Int).toNat 64)) = ((leN l * 256 : Nat) : Int) := by push_cast; rfl
    rw [this]
    exact wrapU64 h5
  rw [e, wrapU64 (by omega), or_u64 h5 (by omega), show leN l * 256 = 2 ^ 8 * leN l by omega, ← Nat.two_pow_add_eq_or_of_lt (by omega : c.toNat < 2 ^ 8)]
  congr 1
  show _ = c.toNat + 256 * leN l
  omega
theorem c170 (b : List UInt8) (hb : b.length ≤ 8) : Pure prog 170 [sl b] (.int .u64 (leN b)) := by
  intro H
  (refine callOk_of_pFun2 (tt := ttQ3) (imm := imm170) follows ttQ3_ok depth6 func170 (by kernel_rfl) ?_; (conv => whnf))
  refine loopK_of Nat (fun k => [(0, sl b), (4, .int .i64 ((k : Int) - 1)), (3, .int .u64 (leN (b.drop k)))]) (fun _ => H) (fun k => k ≤ b.length) (fun k => k) ⟨b.length, Nat.le_refl _, ⟨rfl, ?_, ?_, trivial⟩, rfl⟩ ?_
  · show PV.int _ (IntKind.i64.wrap ((b.length : Int) - 1)) = _
    rw [wrap64 (by omega) (by omega)]
  · rw [List.drop_length]; rfl
  intro k hk
  (conv => whnf)
  refine ⟨fun h => ?_, fun h => ?_⟩
  · have h : (0 : Int) ≤ (k : Int) - 1 := h
    have hi : k - 1 < b.length := by omega
    (conv => whnf)
    refine ⟨by decide, ?_⟩
    (conv => whnf)
    refine ⟨⟨h, by show (k : Int) - 1 < (b.length : Int); omega⟩, [byteC b[k - 1]], at1' (k := ((k : Int) - 1).toNat * 1) (by rw [show ((k : Int) - 1).toNat * 1 = k - 1 by omega, List.getElem?_map, List.getElem?_eq_getElem hi]; rfl), ?_⟩
    (conv => whnf)
    refine ⟨k - 1, by omega, ⟨rfl, ?_, ?_, trivial⟩, rfl, by omega⟩
    · show PV.int _ (IntKind.i64.wrap ((k : Int) - 1 - 1)) = PV.int _ _
      rw [wrap64 (by omega) (by omega)]
      congr 1; omega
    · show PV.int _ (ibits .or .u64 (ishl .u64 (leN (b.drop k) : Nat) 8) (IntKind.u64.wrap (b[k - 1].toNat : Int))) = PV.int _ _
      have e : b.drop (k - 1) = b[k - 1] :: b.drop k := by
        rw [List.drop_eq_getElem_cons hi, show k - 1 + 1 = k by omega]
      rw [e, le_step2 _ _ (by rw [List.length_drop]; omega)]
  · have h : ¬ (0 : Int) ≤ (k : Int) - 1 := h
    have e : k = 0 := by omega
    subst e
    (conv => whnf)
    exact ⟨rfl, rfl⟩
theorem or_comm64 (x y : Int) : ibits .or .u64 x y = ibits .or .u64 y x := by
  show IntKind.u64.wrap _ = IntKind.u64.wrap _
  rw [BitVec.or_comm]
theorem and255 (n : Nat) (h : n ≤ 1099511627776) : ibits .and .i64 (n : Int) 255 = IntKind.u8.wrap (n : Int) := by
  show IntKind.i64.wrap ((BitVec.ofInt 64 (n : Int) &&& BitVec.ofInt 64 255).toNat : Int) = (n : Int) % (2 ^ IntKind.u8.bits : Int)
  have e : (2 ^ IntKind.u8.bits : Int) = 256 := by decide
  have h1 : (BitVec.ofInt 64 (n : Int)).toNat = n := by rw [BitVec.toNat_ofInt]; omega
  have h2 : (BitVec.ofInt 64 255).toNat = 2 ^ 8 - 1 := by decide
  rw [e, BitVec.toNat_and, h1, h2, Nat.and_two_pow_sub_one_eq_mod, wrap64 (by omega) (by omega)]
  omega
end Go.Proofs.Tryz

set_option maxRecDepth 100000
set_option maxHeartbeats 2000000
set_option linter.unusedVariables false
set_option linter.unusedSimpArgs false
namespace Go.Proofs.Tryz
open Go Ps
def D146_8 : Draw := { imp := [8], win := [] }
theorem c146x (k : List UInt8) (hk : k.length = 16) (p : List UInt8) (hp : p.length ≤ 1000000) (H : PH) :
    CallOk prog 146 [.agg (k.map byteC), sl p] H fun r H' => r = .int .u64 (sipV k p) ∧ ∃ ext, H' = H ++ ext := by
  obtain ⟨k0, k1, k2, k3, k4, k5, k6, k7, k8, k9, ka, kb, kc, kd, ke, kf, rfl⟩ := len16 hk
  have hk2 : sipI [k0, k1, k2, k3, k4, k5, k6, k7, k8, k9, ka, kb, kc, kd, ke, kf] = ⟨xorW 8317987319222330741 (leN [k0, k1, k2, k3, k4, k5, k6, k7] : Nat), xorW 7237128888997146477 (leN [k8, k9, ka, kb, kc, kd, ke, kf] : Nat), xorW 7816392313619706465 (leN [k0, k1, k2, k3, k4, k5, k6, k7] : Nat), xorW 8387220255154660723 (leN [k8, k9, ka, kb, kc, kd, ke, kf] : Nat)⟩ := rfl
  unfold sipV
  generalize hs0 : sipI [k0, k1, k2, k3, k4, k5, k6, k7, k8, k9, ka, kb, kc, kd, ke, kf] = s0
  rw [hk2] at hs0
  (refine callOk_of_pFun2 (tt := ttQ3) (imm := imm146) follows ttQ3_ok depth6 func146 (by kernel_rfl) ?_; (conv => whnf))
  refine drawK_pure2 (by kernel_rfl) ?_
  (conv => whnf)
  (apply Exists.intro; apply And.intro; (focus ((conv => whnf); first | exact ⟨rfl, rfl, trivial⟩ | (refine ⟨by omega, ?_⟩; (conv => whnf); exact ⟨rfl, rfl, trivial⟩))); (conv => whnf))
  refine ⟨_, callK_args rfl (callK_pure (c170 [k0, k1, k2, k3, k4, k5, k6, k7] (by simp)) ⟨rfl, rfl, trivial⟩), ?_⟩
  (conv => whnf)
  (apply Exists.intro; apply And.intro; (focus ((conv => whnf); first | exact ⟨rfl, rfl, trivial⟩ | (refine ⟨by omega, ?_⟩; (conv => whnf); exact ⟨rfl, rfl, trivial⟩))); (conv => whnf))
  refine ⟨_, callK_args rfl (callK_pure (c170 [k8, k9, ka, kb, kc, kd, ke, kf] (by simp)) ⟨rfl, rfl, trivial⟩), ?_⟩
  (conv => whnf)
  (apply Exists.intro; apply And.intro; (focus ((conv => whnf); first | exact ⟨rfl, rfl, trivial⟩ | (refine ⟨by omega, ?_⟩; (conv => whnf); exact ⟨rfl, rfl, trivial⟩))); (conv => whnf))
  (apply Exists.intro; apply And.intro; (focus ((conv => whnf); first | exact ⟨rfl, rfl, trivial⟩ | (refine ⟨by omega, ?_⟩; (conv => whnf); exact ⟨rfl, rfl, trivial⟩))); (conv => whnf))
  have hO : (PObj.mk 256 [.int .u64 (ibits .xor .u64 8317987319222330741 (leN [k0, k1, k2, k3, k4, k5, k6, k7] : Nat)), .int .u64 (ibits .xor .u64 7237128888997146477 (leN [k8, k9, ka, kb, kc, kd, ke, kf] : Nat)), .int .u64 (ibits .xor .u64 7816392313619706465 (leN [k0, k1, k2, k3, k4, k5, k6, k7] : Nat)), .int .u64 (ibits .xor .u64 8387220255154660723 (leN [k8, k9, ka, kb, kc, kd, ke, kf] : Nat))] 0) = s0.Q 0 := by subst hs0; rfl
  refine loopK_of SipS (fun x => [(1, sl p), (7, .ptr (some (H.length, 0))), (8, .int .i64 ((8 * x.i : Nat) : Int))]) (fun x => H ++ [(sipN s0 p x.i).Q x.v]) (fun x => x.i ≤ p.length / 8) (fun x => p.length / 8 - x.i) ⟨⟨0, 0⟩, Nat.zero_le _, ⟨rfl, rfl, rfl, trivial⟩, congrArg (fun o => H ++ [o]) hO⟩ ?_
  rintro ⟨i, v⟩ hi
  replace hi : i ≤ p.length / 8 := hi
  have hl : (p.drop (8 * i)).length = p.length - 8 * i := List.length_drop
  have hsub : IntKind.i64.wrap ((p.length : Int) - ((8 * i : Nat) : Int)) = (p.length : Int) - ((8 * i : Nat) : Int) := wrap64 (by omega) (by omega)
  have hadd : IntKind.i64.wrap (((8 * i : Nat) : Int) + 8) = ((8 * i + 8 : Nat) : Int) := by rw [wrap64 (by omega) (by omega)]; omega
  (conv => whnf)
  refine ⟨fun h => ?_, fun h => ?_⟩
  · have h : (8 : Int) ≤ IntKind.i64.wrap ((p.length : Int) - ((8 * i : Nat) : Int)) := h
    rw [hsub] at h
    (conv => whnf)
    refine ⟨⟨by show (0 : Int) ≤ ((8 * i : Nat) : Int); omega, by show ((8 * i : Nat) : Int) ≤ IntKind.i64.wrap (((8 * i : Nat) : Int) + 8); rw [hadd]; omega, by show IntKind.i64.wrap (((8 * i : Nat) : Int) + 8) ≤ (p.length : Int); rw [hadd]; omega⟩, ?_⟩
    (conv => whnf)
    have ecut : (p.take (8 * i + 8)).drop (8 * i) = (p.drop (8 * i)).take 8 := by
      rw [List.drop_take, show 8 * i + 8 - 8 * i = 8 by omega]
    refine callK_args (args' := [sl ((p.drop (8 * i)).take 8)]) ?_ (callK_pure (c170 ((p.drop (8 * i)).take 8) (by rw [List.length_take]; omega)) ?_)
    · refine congrArg (fun z => [z]) ?_
      have e := sl_cut2 p ((8 * i : Nat) : Int) ((8 * i + 8 : Nat) : Int) ⟨by omega, by omega, by omega⟩
      rw [Int.toNat_natCast, Int.toNat_natCast, ecut] at e
      show PV.slice ((IntKind.i64.wrap (((8 * i : Nat) : Int) + 8)).toNat - ((8 * i : Nat) : Int).toNat) (((p.map byteC).take ((IntKind.i64.wrap (((8 * i : Nat) : Int) + 8)).toNat * 1)).drop (((8 * i : Nat) : Int).toNat * 1)) none = _
      rw [hadd, Int.toNat_natCast, Int.toNat_natCast]
      exact e
    (conv => whnf)
    refine callK_of (Q := fun r H' => r = .tup [] ∧ ∃ v', H' = H ++ [(sipN s0 p (i + 1)).Q v']) ((c171 (sipN s0 p i) (leN ((p.drop (8 * i)).take 8) : Nat) H.length v _ (get_last H _)).mono fun r H' hh => ?_) ?_
    · obtain ⟨h1, v', h2⟩ := hh
      exact ⟨h1, v', by rw [h2, set_last]; rfl⟩
    rintro _ _ ⟨rfl, v', rfl⟩
    (conv => whnf)
    refine ⟨⟨i + 1, v'⟩, by show i + 1 ≤ p.length / 8; omega, ⟨rfl, rfl, ?_, trivial⟩, rfl, by show p.length / 8 - (i + 1) < p.length / 8 - i; omega⟩
    show PV.int _ (IntKind.i64.wrap (((8 * i : Nat) : Int) + 8)) = PV.int _ ((8 * (i + 1) : Nat) : Int)
    rw [hadd]; rfl
  · have h : ¬ (8 : Int) ≤ IntKind.i64.wrap ((p.length : Int) - ((8 * i : Nat) : Int)) := h
    rw [hsub] at h
    have hi2 : i = p.length / 8 := by omega
    rw [← hi2]
    (conv => whnf)
    refine ⟨⟨by show (0 : Int) ≤ ((8 * i : Nat) : Int); omega, by show ((8 * i : Nat) : Int) ≤ (p.length : Int); omega, by omega⟩, ?_⟩
    (conv => whnf)
    have hcut := sl_cut2 p ((8 * i : Nat) : Int) (p.length : Int) ⟨by omega, by omega, by omega⟩
    rw [Int.toNat_natCast, Int.toNat_natCast, List.take_length] at hcut
    refine callK_args (args' := [sl (p.drop (8 * i))]) (congrArg (fun z => [z]) hcut) (callK_pure (c170 (p.drop (8 * i)) (by omega)) ?_)
    (conv => whnf)
    refine ⟨by decide, ?_⟩
    (conv => whnf)
    have hm : ibits .or .u64 (leN (p.drop (8 * i)) : Nat) (ishl .u64 (IntKind.u64.wrap (ibits .and .i64 (p.length : Int) 255)) 56) = ibits .or .u64 (lastW p.length) (leN (p.drop (8 * i)) : Nat) := by
      rw [or_comm64, and255 _ (by omega)]; rfl
    generalize hm2 : ibits .or .u64 (lastW p.length) (leN (p.drop (8 * i)) : Nat) = m at hm
    generalize hs1 : sipN s0 p i = s1
    refine callK_args (args' := [.ptr (some (H.length, 0)), .int .u64 m]) (congrArg (fun z => [PV.ptr (some (H.length, 0)), PV.int .u64 z]) hm) (callK_of (Q := fun r H' => r = .tup [] ∧ ∃ v', H' = H ++ [(s1.takes m).Q v']) ?_ ?_)
    · refine (c171 s1 m H.length v _ (get_last H _)).mono fun r H' hh => ?_
      obtain ⟨h1, v', h2⟩ := hh
      exact ⟨h1, v', by rw [h2, set_last]⟩
    rintro _ _ ⟨rfl, v1, rfl⟩
    (conv => whnf)
    generalize hs2 : s1.takes m = s2
    refine drawK_of2 D146_8 [H ++ [s2.Q v1], H ++ [S4.Q { s2 with c := xorW s2.c 255 } (v1 + 1)]] (by kernel_rfl) rfl trivial ?_
    have g0 : (H ++ [s2.Q v1])[H.length]? = some ⟨256, [.int .u64 s2.a, .int .u64 s2.b, .int .u64 s2.c, .int .u64 s2.d], v1⟩ := get_last H _
    (conv => whnf)
    (apply Exists.intro; apply And.intro; (focus ((conv => whnf); first | exact ⟨rfl, rfl, trivial⟩ | (refine ⟨by omega, ?_⟩; (conv => whnf); exact ⟨rfl, rfl, trivial⟩))); (conv => whnf))
    (apply Exists.intro; apply And.intro; (focus ((conv => whnf); first | exact ⟨rfl, rfl, trivial⟩ | (refine ⟨by omega, ?_⟩; (conv => whnf); exact ⟨rfl, rfl, trivial⟩))); (conv => whnf))
    (apply Exists.intro; apply And.intro; (focus ((conv => whnf); first | exact ⟨rfl, rfl, trivial⟩ | (refine ⟨by omega, ?_⟩; (conv => whnf); exact ⟨rfl, rfl, trivial⟩))); (conv => whnf))
    (apply Exists.intro; apply And.intro; (focus ((conv => whnf); first | exact ⟨rfl, rfl, trivial⟩ | (refine ⟨by omega, ?_⟩; (conv => whnf); exact ⟨rfl, rfl, trivial⟩))); (conv => whnf))
    apply Exists.intro
    apply And.intro
    · (conv => whnf)
      ((conv in (_[_]?) => tactic => exact g0); (conv => whnf))
      exact ⟨rfl, rfl, trivial⟩
    (conv => whnf)
    (apply Exists.intro; apply And.intro; (focus ((conv => whnf); first | exact ⟨rfl, rfl, trivial⟩ | (refine ⟨by omega, ?_⟩; (conv => whnf); exact ⟨rfl, rfl, trivial⟩))); (conv => whnf))
    (apply Exists.intro; apply And.intro; (focus ((conv => whnf); first | exact ⟨rfl, rfl, trivial⟩ | (refine ⟨by omega, ?_⟩; (conv => whnf); exact ⟨rfl, rfl, trivial⟩))); (conv => whnf))
    (apply Exists.intro; apply And.intro; (focus ((conv => whnf); first | exact ⟨rfl, rfl, trivial⟩ | (refine ⟨by omega, ?_⟩; (conv => whnf); exact ⟨rfl, rfl, trivial⟩))); (conv => whnf))
    apply Exists.intro
    apply And.intro
    · (conv => whnf)
      ((conv in (_[_]?) => tactic => exact g0); (conv => whnf))
      exact ⟨rfl, set_last H _ _, trivial⟩
    (conv => whnf)
    refine loopK_of SipS (fun x => [(7, .ptr (some (H.length, 0))), (9, .int .i64 x.i)]) (fun x => H ++ [(S4.rnds x.i { s2 with c := xorW s2.c 255 }).Q x.v]) (fun x => x.i ≤ 4) (fun x => 4 - x.i) ⟨⟨0, v1 + 1⟩, Nat.zero_le _, ⟨rfl, rfl, trivial⟩, rfl⟩ ?_
    rintro ⟨j, w⟩ hj
    replace hj : j ≤ 4 := hj
    (conv => whnf)
    refine ⟨fun h => ?_, fun h => ?_⟩
    · have h : (j : Int) < 4 := h
      (conv => whnf)
      refine callK_of (Q := fun r H' => r = .tup [] ∧ ∃ v', H' = H ++ [(S4.rnds (j + 1) { s2 with c := xorW s2.c 255 }).Q v']) ((c172 (S4.rnds j { s2 with c := xorW s2.c 255 }) H.length w _ (get_last H _)).mono fun r H' hh => ?_) ?_
      · obtain ⟨h1, v', h2⟩ := hh
        exact ⟨h1, v', by rw [h2, set_last]; rfl⟩
      rintro _ _ ⟨rfl, v', rfl⟩
      (conv => whnf)
      refine ⟨⟨j + 1, v'⟩, by show j + 1 ≤ 4; omega, ⟨rfl, ?_, trivial⟩, rfl, by show 4 - (j + 1) < 4 - j; omega⟩
      show PV.int _ (IntKind.i64.wrap ((j : Int) + 1)) = PV.int _ _
      rw [wrap64 (by omega) (by omega)]; simp
    have h : ¬ (j : Int) < 4 := h
    have e4 : j = 4 := by omega
    subst e4
    (conv => whnf)
    have hf : S4.rnds 4 { s2 with c := xorW s2.c 255 } = s2.fin := rfl
    rw [hf]
    generalize hs3 : s2.fin = s3
    have g1 : (H ++ [s3.Q w])[H.length]? = some ⟨256, [.int .u64 s3.a, .int .u64 s3.b, .int .u64 s3.c, .int .u64 s3.d], w⟩ := get_last H _
    refine drawK_pure2 (by kernel_rfl) ?_
    (conv => whnf)
    (apply Exists.intro; apply And.intro; (focus ((conv => whnf); first | exact ⟨rfl, rfl, trivial⟩ | (refine ⟨by omega, ?_⟩; (conv => whnf); exact ⟨rfl, rfl, trivial⟩))); (conv => whnf))
    (apply Exists.intro; apply And.intro; (focus ((conv => whnf); first | exact ⟨rfl, rfl, trivial⟩ | (refine ⟨by omega, ?_⟩; (conv => whnf); exact ⟨rfl, rfl, trivial⟩))); (conv => whnf))
    (apply Exists.intro; apply And.intro; (focus ((conv => whnf); first | exact ⟨rfl, rfl, trivial⟩ | (refine ⟨by omega, ?_⟩; (conv => whnf); exact ⟨rfl, rfl, trivial⟩))); (conv => whnf))
    apply Exists.intro
    apply And.intro
    · (conv => whnf)
      ((conv in (_[_]?) => tactic => exact g1); (conv => whnf))
      exact ⟨rfl, rfl, trivial⟩
    (conv => whnf)
    (apply Exists.intro; apply And.intro; (focus ((conv => whnf); first | exact ⟨rfl, rfl, trivial⟩ | (refine ⟨by omega, ?_⟩; (conv => whnf); exact ⟨rfl, rfl, trivial⟩))); (conv => whnf))
    (apply Exists.intro; apply And.intro; (focus ((conv => whnf); first | exact ⟨rfl, rfl, trivial⟩ | (refine ⟨by omega, ?_⟩; (conv => whnf); exact ⟨rfl, rfl, trivial⟩))); (conv => whnf))
    (apply Exists.intro; apply And.intro; (focus ((conv => whnf); first | exact ⟨rfl, rfl, trivial⟩ | (refine ⟨by omega, ?_⟩; (conv => whnf); exact ⟨rfl, rfl, trivial⟩))); (conv => whnf))
    apply Exists.intro
    apply And.intro
    · (conv => whnf)
      ((conv in (_[_]?) => tactic => exact g1); (conv => whnf))
      exact ⟨rfl, rfl, trivial⟩
    (conv => whnf)
    (apply Exists.intro; apply And.intro; (focus ((conv => whnf); first | exact ⟨rfl, rfl, trivial⟩ | (refine ⟨by omega, ?_⟩; (conv => whnf); exact ⟨rfl, rfl, trivial⟩))); (conv => whnf))
    (apply Exists.intro; apply And.intro; (focus ((conv => whnf); first | exact ⟨rfl, rfl, trivial⟩ | (refine ⟨by omega, ?_⟩; (conv => whnf); exact ⟨rfl, rfl, trivial⟩))); (conv => whnf))
    (apply Exists.intro; apply And.intro; (focus ((conv => whnf); first | exact ⟨rfl, rfl, trivial⟩ | (refine ⟨by omega, ?_⟩; (conv => whnf); exact ⟨rfl, rfl, trivial⟩))); (conv => whnf))
    (apply Exists.intro; apply And.intro; (focus ((conv => whnf); first | exact ⟨rfl, rfl, trivial⟩ | (refine ⟨by omega, ?_⟩; (conv => whnf); exact ⟨rfl, rfl, trivial⟩))); (conv => whnf))
    apply Exists.intro
    apply And.intro
    · (conv => whnf)
      ((conv in (_[_]?) => tactic => exact g1); (conv => whnf))
      exact ⟨rfl, rfl, trivial⟩
    (conv => whnf)
    (apply Exists.intro; apply And.intro; (focus ((conv => whnf); first | exact ⟨rfl, rfl, trivial⟩ | (refine ⟨by omega, ?_⟩; (conv => whnf); exact ⟨rfl, rfl, trivial⟩))); (conv => whnf))
    (apply Exists.intro; apply And.intro; (focus ((conv => whnf); first | exact ⟨rfl, rfl, trivial⟩ | (refine ⟨by omega, ?_⟩; (conv => whnf); exact ⟨rfl, rfl, trivial⟩))); (conv => whnf))
    (apply Exists.intro; apply And.intro; (focus ((conv => whnf); first | exact ⟨rfl, rfl, trivial⟩ | (refine ⟨by omega, ?_⟩; (conv => whnf); exact ⟨rfl, rfl, trivial⟩))); (conv => whnf))
    (apply Exists.intro; apply And.intro; (focus ((conv => whnf); first | exact ⟨rfl, rfl, trivial⟩ | (refine ⟨by omega, ?_⟩; (conv => whnf); exact ⟨rfl, rfl, trivial⟩))); (conv => whnf))
    apply Exists.intro
    apply And.intro
    · (conv => whnf)
      ((conv in (_[_]?) => tactic => exact g1); (conv => whnf))
      exact ⟨rfl, rfl, trivial⟩
    (conv => whnf)
    (apply Exists.intro; apply And.intro; (focus ((conv => whnf); first | exact ⟨rfl, rfl, trivial⟩ | (refine ⟨by omega, ?_⟩; (conv => whnf); exact ⟨rfl, rfl, trivial⟩))); (conv => whnf))
    (apply Exists.intro; apply And.intro; (focus ((conv => whnf); first | exact ⟨rfl, rfl, trivial⟩ | (refine ⟨by omega, ?_⟩; (conv => whnf); exact ⟨rfl, rfl, trivial⟩))); (conv => whnf))
    exact ⟨rfl, _, rfl⟩
theorem c146 (k : List UInt8) (hk : k.length = 16) (p : List UInt8) (hp : p.length ≤ 1000000) : Pure prog 146 [.agg (k.map byteC), sl p] (.int .u64 (sipV k p)) :=
  Pure.of_gc rfl fun H => c146x k hk p hp H
end Go.Proofs.Tryz

set_option maxRecDepth 100000
set_option maxHeartbeats 2000000
set_option linter.unusedVariables false
set_option linter.unusedSimpArgs false
namespace Go.Proofs.Tryz
open Go Ps
def ttQ2 : TT := [(3, ⟨.int .i64, 1, 8, [.int .i64 0]⟩), (5, ⟨.int .u8, 1, 1, [.int .u8 0]⟩), (22, ⟨.slice 5, 1, 24, [.slice 0 [] (some 5)]⟩), (166, ⟨.arr 16 5, 16, 16, List.replicate 16 (.int .u8 0)⟩), (176, ⟨.int .u64, 1, 8, [.int .u64 0]⟩), (191, ⟨.int .u64, 1, 8, [.int .u64 0]⟩), (217, ⟨.int .u32, 1, 4, [.int .u32 0]⟩), (218, ⟨.arr 27 217, 27, 108, List.replicate 27 (.int .u32 0)⟩), (246, ⟨.slice 217, 1, 24, [.slice 0 [] (some 217)]⟩), (253, ⟨.arr 4 217, 4, 16, [.int .u32 0, .int .u32 0, .int .u32 0, .int .u32 0]⟩)]
theorem ttQ2_ok : ttOk prog ttQ2 = true := by kernel_rfl
def imm168 : List Nat := []
def imm169 : List Nat := []
def imm145 : List Nat := [1]
def imm167 : List Nat := [3]
def imm144 : List Nat := [3]
def right32 (x n : Int) : Int := ibits .or .u32 (ishr .u32 x n) (ishl .u32 x (IntKind.u64.wrap (32 - n)))
def left32 (x n : Int) : Int := ibits .or .u32 (ishl .u32 x n) (ishr .u32 x (IntKind.u64.wrap (32 - n)))
theorem c168' (x n : Int) (hn : 0 ≤ n) : Pure prog 168 [.int .u32 x, .int .u64 n] (.int .u32 (right32 x n)) := by
  intro H
  (refine callOk_of_pFun2 (tt := ttQ2) (imm := imm168) follows ttQ2_ok depth6 func168 (by kernel_rfl) ?_; (conv => whnf))
  refine ⟨hn, ?_⟩
  (conv => whnf)
  refine ⟨u64_nonneg _, ?_⟩
  (conv => whnf)
  exact ⟨rfl, rfl⟩
theorem c169' (x n : Int) (hn : 0 ≤ n) : Pure prog 169 [.int .u32 x, .int .u64 n] (.int .u32 (left32 x n)) := by
  intro H
  (refine callOk_of_pFun2 (tt := ttQ2) (imm := imm169) follows ttQ2_ok depth6 func169 (by kernel_rfl) ?_; (conv => whnf))
  refine ⟨hn, ?_⟩
  (conv => whnf)
  refine ⟨u64_nonneg _, ?_⟩
  (conv => whnf)
  exact ⟨rfl, rfl⟩
theorem or_comm32 (x y : Int) : ibits .or .u32 x y = ibits .or .u32 y x := by
  show IntKind.u32.wrap _ = IntKind.u32.wrap _
  rw [BitVec.or_comm]
theorem c168 (x : Int) : Pure prog 168 [.int .u32 x, .int .u64 8] (.int .u32 (rot32 x (-8))) :=
  (c168' x 8 (by decide)).of_eq (congrArg _ (by
    unfold rot32 right32
    rw [show rot32S (-8) = 24 by decide, or_comm32]
    rfl))
theorem c169 (x : Int) : Pure prog 169 [.int .u32 x, .int .u64 3] (.int .u32 (rot32 x 3)) :=
  (c169' x 3 (by decide)).of_eq (congrArg _ (by
    unfold rot32 left32
    rw [show rot32S 3 = 3 by decide]))
theorem c167 (ws : List Int) (hws : ws.length = 27) (x y : Int) : Pure prog 167 [.agg (ws.map u32C), .int .u32 x, .int .u32 y] (.tup [.int .u32 (spB ws (x, y)).1, .int .u32 (spB ws (x, y)).2]) := by
  intro H
  (refine callOk_of_pFun2 (tt := ttQ2) (imm := imm167) follows ttQ2_ok depth6 func167 (by kernel_rfl) ?_; (conv => whnf))
  refine loopK_of Nat (fun i => [(3, .elem (ws.map u32C)), (1, .int .u32 (spB (ws.take i) (x, y)).1), (2, .int .u32 (spB (ws.take i) (x, y)).2), (8, .int .i64 i)]) (fun _ => H) (fun i => i ≤ 27) (fun i => 27 - i) ⟨0, Nat.zero_le _, ⟨rfl, rfl, rfl, rfl, trivial⟩, rfl⟩ ?_
  intro i hi
  (conv => whnf)
  refine ⟨fun h => ?_, fun h => ?_⟩
  · have h : (i : Int) < 27 := h
    have hi' : i < ws.length := by omega
    (conv => whnf)
    refine drawK_pure2 (by kernel_rfl) ?_
    (conv => whnf)
    (apply Exists.intro; apply And.intro; (focus ((conv => whnf); first | exact ⟨rfl, rfl, trivial⟩ | (refine ⟨by omega, ?_⟩; (conv => whnf); exact ⟨rfl, rfl, trivial⟩))); (conv => whnf))
    refine ⟨_, callK_pure (c168 _) ⟨rfl, rfl, trivial⟩, ?_⟩
    (conv => whnf)
    (apply Exists.intro; apply And.intro; (focus ((conv => whnf); first | exact ⟨rfl, rfl, trivial⟩ | (refine ⟨by omega, ?_⟩; (conv => whnf); exact ⟨rfl, rfl, trivial⟩))); (conv => whnf))
    (apply Exists.intro; apply And.intro; (focus ((conv => whnf); first | exact ⟨rfl, rfl, trivial⟩ | (refine ⟨by omega, ?_⟩; (conv => whnf); exact ⟨rfl, rfl, trivial⟩))); (conv => whnf))
    (apply Exists.intro; apply And.intro; (focus ((conv => whnf); first | exact ⟨rfl, rfl, trivial⟩ | (refine ⟨by omega, ?_⟩; (conv => whnf); exact ⟨rfl, rfl, trivial⟩))); (conv => whnf))
    refine ⟨.elem [u32C ws[i]], ⟨⟨by omega, by show (i : Int) < ((27 : Nat) : Int); exact h⟩, [u32C ws[i]], at1' (k := (i : Int).toNat * 1) (by rw [Int.toNat_natCast, Nat.mul_one, List.getElem?_map, List.getElem?_eq_getElem hi']; rfl), rfl, rfl, trivial⟩, ?_⟩
    (conv => whnf)
    (apply Exists.intro; apply And.intro; (focus ((conv => whnf); first | exact ⟨rfl, rfl, trivial⟩ | (refine ⟨by omega, ?_⟩; (conv => whnf); exact ⟨rfl, rfl, trivial⟩))); (conv => whnf))
    (apply Exists.intro; apply And.intro; (focus ((conv => whnf); first | exact ⟨rfl, rfl, trivial⟩ | (refine ⟨by omega, ?_⟩; (conv => whnf); exact ⟨rfl, rfl, trivial⟩))); (conv => whnf))
    (apply Exists.intro; apply And.intro; (focus ((conv => whnf); first | exact ⟨rfl, rfl, trivial⟩ | (refine ⟨by omega, ?_⟩; (conv => whnf); exact ⟨rfl, rfl, trivial⟩))); (conv => whnf))
    refine callK_pure (c169 _) ?_
    (conv => whnf)
    have et : spB (ws.take (i + 1)) (x, y) = spR ws[i] (spB (ws.take i) (x, y)) := by rw [List.take_succ_eq_append_getElem hi', spB_snoc]
    refine ⟨i + 1, by omega, ⟨rfl, ?_, ?_, ?_, trivial⟩, rfl, by omega⟩
    · rw [et]; rfl
    · rw [et]; rfl
    · show PV.int _ (IntKind.i64.wrap ((i : Int) + 1)) = PV.int _ _
      rw [wrap64 (by omega) (by omega)]; simp
  · have h : ¬ (i : Int) < 27 := h
    have e : ws.take i = ws := List.take_of_length_le (by omega)
    rw [e]
    (conv => whnf)
    exact ⟨rfl, rfl⟩
theorem agg27 (ws : List Int) (hws : ws.length = 27) : ((dropN 0 (ws.map u32C)).take 27).map dem = ws.map u32C := by
  rw [dropN_eq, List.drop_zero, List.take_of_length_le (by rw [List.length_map]; omega), List.map_map]
  rfl
theorem c144 (k : List UInt8) (nn : Int) (n : Nat) (hn : n ≤ 1000000) : Pure prog 144 [.agg ((spW k).map u32C), .int .u64 nn, .int .i64 n] (sl (streamV k nn n)) := by
  intro H
  (refine callOk_of_pFun2 (tt := ttQ2) (imm := imm144) follows ttQ2_ok depth6 func144 (by kernel_rfl) ?_; (conv => whnf))
  refine loopK_of Nat (fun i => [(1, .int .u64 nn), (2, .int .i64 n), (3, .elem ((spW k).map u32C)), (7, ow (strN k nn i)), (8, .int .i64 i)]) (fun _ => H) (fun i => i ≤ (n + 7) / 8) (fun i => (n + 7) / 8 - i) ⟨0, Nat.zero_le _, ⟨rfl, rfl, rfl, rfl, rfl, trivial⟩, rfl⟩ ?_
  intro i hi
  have hsl := strN_len k nn i
  (conv => whnf)
  refine ⟨fun h => ?_, fun h => ?_⟩
  · have h : ((strN k nn i).length : Int) < n := h
    rw [hsl] at h
    (conv => whnf)
    refine ⟨by decide, ?_⟩
    (conv => whnf)
    have eargs : [PV.agg (((dropN 0 ((spW k).map u32C)).take 27).map dem), PV.int .u32 (IntKind.u32.wrap (ishr .u64 nn 32)), PV.int .u32 (IntKind.u32.wrap (IntKind.u32.wrap nn + IntKind.u32.wrap (i : Int)))] = [.agg ((spW k).map u32C), .int .u32 (IntKind.u32.wrap (ishr .u64 nn 32)), .int .u32 (add32 (IntKind.u32.wrap nn) i)] := by
      rw [agg27 _ (spW_len k), wrap32 (n := i) (by omega)]; rfl
    refine callK_args eargs (callK_pure ((c167 (spW k) (spW_len k) _ _).of_eq (show _ = PV.tup [.int .u32 (blkP k nn i).1, .int .u32 (blkP k nn i).2] from rfl)) ?_)
    (conv => whnf)
    generalize hx : (blkP k nn i).1 = x
    generalize hy : (blkP k nn i).2 = y
    refine ⟨by decide, ?_⟩
    (conv => whnf)
    refine ⟨by decide, ?_⟩
    (conv => whnf)
    refine ⟨by decide, ?_⟩
    (conv => whnf)
    refine ⟨by decide, ?_⟩
    (conv => whnf)
    refine ⟨by decide, ?_⟩
    (conv => whnf)
    refine ⟨by decide, ?_⟩
    (conv => whnf)
    refine ⟨⟨by show ((strN k nn i).length + 8) * 1 ≤ _; omega, rfl, rfl⟩, ?_⟩
    (conv => whnf)
    refine ⟨i + 1, by omega, ⟨rfl, rfl, rfl, ?_, ?_, trivial⟩, rfl, by omega⟩
    · have e8 : [PV.int .u8 (IntKind.u8.wrap x), .int .u8 (IntKind.u8.wrap (ishr .u32 x 8)), .int .u8 (IntKind.u8.wrap (ishr .u32 x 16)), .int .u8 (IntKind.u8.wrap (ishr .u32 x 24)), .int .u8 (IntKind.u8.wrap y), .int .u8 (IntKind.u8.wrap (ishr .u32 y 8)), .int .u8 (IntKind.u8.wrap (ishr .u32 y 16)), .int .u8 (IntKind.u8.wrap (ishr .u32 y 24))] = (le4 x ++ le4 y).map byteC := by
        rw [List.map_append, ← le4_cells, ← le4_cells]; rfl
      show PV.slice ((strN k nn i).length + 8) ((strN k nn i).map byteC ++ [PV.int .u8 (IntKind.u8.wrap x), .int .u8 (IntKind.u8.wrap (ishr .u32 x 8)), .int .u8 (IntKind.u8.wrap (ishr .u32 x 16)), .int .u8 (IntKind.u8.wrap (ishr .u32 x 24)), .int .u8 (IntKind.u8.wrap y), .int .u8 (IntKind.u8.wrap (ishr .u32 y 8)), .int .u8 (IntKind.u8.wrap (ishr .u32 y 16)), .int .u8 (IntKind.u8.wrap (ishr .u32 y 24))]) (some 5) = _
      rw [e8, ow_app' _ (le4 x ++ le4 y) (n := 8) rfl]
      subst hx hy
      rfl
    · show PV.int _ (IntKind.i64.wrap ((i : Int) + 1)) = PV.int _ _
      rw [wrap64 (by omega) (by omega)]; simp
  · have h : ¬ ((strN k nn i).length : Int) < n := h
    rw [hsl] at h
    have e : i = (n + 7) / 8 := by omega
    (conv => whnf)
    have hmax : max (n : Int) 0 = (n : Int) := by omega
    refine ⟨⟨by decide, by rw [hmax]; omega, by rw [hmax]; omega⟩, ?_⟩
    (conv => whnf)
    refine ⟨?_, rfl⟩
    have ec := sl_cut2 (strN k nn i) 0 n ⟨by omega, by omega, by omega⟩
    show PV.slice ((max (n : Int) 0).toNat - (0 : Int).toNat) ((((strN k nn i).map byteC).take ((max (n : Int) 0).toNat * 1)).drop ((0 : Int).toNat * 1)) none = _
    rw [hmax]
    refine ec.trans ?_
    rw [Int.toNat_natCast, e]
    rfl
end Go.Proofs.Tryz
