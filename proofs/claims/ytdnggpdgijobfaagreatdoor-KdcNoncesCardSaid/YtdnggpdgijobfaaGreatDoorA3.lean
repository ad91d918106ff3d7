import Derived.Test.YtdnggpdgijobfaaGreatDoorA2
import Derived.Shelf.GgClosure.StringsRunes
import Derived.WalkKit
import Derived.Test.YtdnggpdgijobfaaGreatDoorA1
set_option linter.all false
set_option maxRecDepth 100000
set_option linter.unusedVariables false
set_option linter.unusedSimpArgs false
namespace Go.Proofs.Tryz
open Go Ps
structure Msg where
  kind : Int
  a1 : List UInt8
  a2 : List UInt8
  a3 : List UInt8
  a4 : List UInt8
  aTill : Int
  aNonce : Int
  t1 : List UInt8
  t2 : List UInt8
  tKv : Int
  tB : List UInt8
  tBo : Option Nat
  tAu : List UInt8
  tAuo : Option Nat
  t3 : List UInt8
  t4 : List UInt8
  tTill : Int
  tNonce : Int
  r1 : List UInt8
  r2 : List UInt8
  r3 : List UInt8
  r4 : List UInt8
  rKv : Int
  rB : List UInt8
  rBo : Option Nat
  rBl : List UInt8
  rBlo : Option Nat
  p1 : List UInt8
  p2 : List UInt8
  pKv : Int
  pB : List UInt8
  pBo : Option Nat
  pAu : List UInt8
  pAuo : Option Nat
  fErr : Int
  fNonce : Int
def Msg.as (m : Msg) : List PV := [.str m.a1, .str m.a2, .str m.a3, .str m.a4, .int .i64 m.aTill, .int .i64 m.aNonce]
def Msg.tgs (m : Msg) : List PV := [.str m.t1, .str m.t2, .int .i64 m.tKv, slo m.tB m.tBo, slo m.tAu m.tAuo, .str m.t3, .str m.t4, .int .i64 m.tTill, .int .i64 m.tNonce]
def Msg.rep (m : Msg) : List PV := [.str m.r1, .str m.r2, .str m.r3, .str m.r4, .int .i64 m.rKv, slo m.rB m.rBo, slo m.rBl m.rBlo]
def Msg.ap (m : Msg) : List PV := [.str m.p1, .str m.p2, .int .i64 m.pKv, slo m.pB m.pBo, slo m.pAu m.pAuo]
def Msg.fail (m : Msg) : List PV := [.int .i64 m.fErr, .int .i64 m.fNonce]
def Msg.cells (m : Msg) : List PV := [.int .i64 m.kind] ++ m.as ++ m.tgs ++ m.rep ++ m.ap ++ m.fail
def noAs (m : Msg) : Bool := decide (m.a1 = [] ∧ m.a2 = [] ∧ m.a3 = [] ∧ m.a4 = [] ∧ m.aTill = 0 ∧ m.aNonce = 0)
def noTgs (m : Msg) : Bool := noTk m.t1 m.t2 m.tKv m.tB.length && decide (m.tAu.length = 0) && decide (m.t3 = [] ∧ m.t4 = []) && decide (m.tTill = 0) && decide (m.tNonce = 0)
def noRep (m : Msg) : Bool := decide (m.r1 = [] ∧ m.r2 = []) && noTk m.r3 m.r4 m.rKv m.rB.length && decide (m.rBl.length = 0)
def noAp (m : Msg) : Bool := noTk m.p1 m.p2 m.pKv m.pB.length && decide (m.pAu.length = 0)
def noFail (m : Msg) : Bool := decide (m.fErr = 0 ∧ m.fNonce = 0)
def othersB (m : Msg) : Bool := (decide (m.kind = 1) || noAs m) && (decide (m.kind = 2) || noTgs m) && (decide (m.kind = 3) || noRep m) && (decide (m.kind = 4) || noAp m) && (decide (m.kind = 5) || noFail m)
theorem app_get (H l : PH) (i : Nat) : (H ++ l)[H.length + i]? = l[i]? := by rw [List.getElem?_append_right (by omega)]; congr 1; omega
theorem app_set (H l : PH) (i : Nat) (o : PObj) : (H ++ l).set (H.length + i) o = H ++ l.set i o := by rw [List.set_append_right _ _ (by omega)]; congr 2; omega
def z55 : PObj := ⟨64, [.str [], .str [], .int .i64 0, .slice 0 [] (some 5), .slice 0 [] (some 5), .str [], .str [], .int .i64 0, .int .i64 0], 0⟩
def z57 : PObj := ⟨30, [.str [], .str [], .str [], .str [], .int .i64 0, .slice 0 [] (some 5), .slice 0 [] (some 5)], 0⟩
def z59 : PObj := ⟨98, [.str [], .str [], .int .i64 0, .slice 0 [] (some 5), .slice 0 [] (some 5)], 0⟩
def D163 (n : Nat) : Draw := { imp := [9, 10, 11], robs := [z55, z57, z59], res := [(6, 0), (7, 1), (8, 2)], base := n, win := [(2, 0, 1), (3, 0, 1), (4, 0, 2), (5, 0, 2), (10, 1, 1), (11, 2, 2)] }
theorem fitA (a b c d : List UInt8) (x y : Int) : FitP ttG 6 41 [.str a, .str b, .str c, .str d, .int .i64 x, .int .i64 y] :=
  ⟨rfl, ⟨by show 2 ≤ 6; omega, ⟨rfl, ⟨by show 1 ≤ 2; omega, a, rfl⟩, rfl, ⟨by show 1 ≤ 1; omega, b, rfl⟩, rfl⟩⟩, rfl, ⟨by show 2 ≤ 4; omega, ⟨rfl, ⟨by show 1 ≤ 2; omega, c, rfl⟩, rfl, ⟨by show 1 ≤ 1; omega, d, rfl⟩, rfl⟩⟩, rfl, ⟨by show 1 ≤ 2; omega, x, rfl⟩, rfl, ⟨by show 1 ≤ 1; omega, y, rfl⟩, rfl⟩
theorem fitF (x y : Int) : FitP ttG 6 100 [.int .i64 x, .int .i64 y] := ⟨rfl, ⟨by show 1 ≤ 2; omega, x, rfl⟩, rfl, ⟨by show 1 ≤ 1; omega, y, rfl⟩, rfl⟩
theorem as_eq {a b c d : List UInt8} {x y : Int} : ([PV.str a, PV.str b, PV.str c, PV.str d, PV.int .i64 x, PV.int .i64 y] = [PV.str [], PV.str [], PV.str [], PV.str [], PV.int .i64 0, PV.int .i64 0]) ↔ (a = [] ∧ b = [] ∧ c = [] ∧ d = [] ∧ x = 0 ∧ y = 0) := by simp
theorem fl_eq {x y : Int} : ([PV.int .i64 x, PV.int .i64 y] = [PV.int .i64 0, PV.int .i64 0]) ↔ (x = 0 ∧ y = 0) := by simp
theorem nat0 {n : Nat} : ((n : Int) = 0) ↔ n = 0 := by omega
theorem c163x (m : Msg) (H : PH) : CallOk prog 163 [.agg m.cells] H fun r H' => r = .bool (othersB m) ∧ ∃ ext, H' = H ++ ext := by
  (refine callOk_of_pFun2 (tt := ttG) (imm := imm163) follows ttG_ok depth6 func163 (by kernel_rfl) ?_; (conv => whnf))
  refine drawK_of2 (D163 H.length) [H ++ [z55, z57, z59], H ++ [PObj.mk 64 (m.tgs.map dem) 1, z57, z59], H ++ [PObj.mk 64 (m.tgs.map dem) 1, PObj.mk 30 (m.rep.map dem) 1, z59], H ++ [PObj.mk 64 (m.tgs.map dem) 1, PObj.mk 30 (m.rep.map dem) 1, PObj.mk 98 (m.ap.map dem) 1]] (by kernel_rfl) ⟨rfl, rfl⟩ trivial ?_
  (conv => whnf)
  iterate 2 (apply Exists.intro; apply And.intro; (focus ((conv => whnf); first | exact ⟨rfl, rfl, trivial⟩ | (refine ⟨by omega, ?_⟩; (conv => whnf); exact ⟨rfl, rfl, trivial⟩))); (conv => whnf))
  iterate 2 (apply Exists.intro; apply And.intro; (focus ((conv => whnf); apply And.intro; (focus ((conv => whnf); first | exact ⟨rfl, rfl, trivial⟩ | (refine ⟨by omega, ?_⟩; (conv => whnf); exact ⟨rfl, rfl, trivial⟩))); ((conv => whnf); first | exact ⟨rfl, rfl, trivial⟩ | (refine ⟨by omega, ?_⟩; (conv => whnf); exact ⟨rfl, rfl, trivial⟩)))); (conv => whnf))
  iterate 2 (apply Exists.intro; apply And.intro; (focus ((conv => whnf); apply And.intro; (focus ((conv => whnf); first | exact ⟨rfl, rfl, trivial⟩ | (refine ⟨by omega, ?_⟩; (conv => whnf); exact ⟨rfl, rfl, trivial⟩))); (conv => whnf); apply And.intro; (focus ((conv => whnf); first | exact ⟨rfl, rfl, trivial⟩ | (refine ⟨by omega, ?_⟩; (conv => whnf); exact ⟨rfl, rfl, trivial⟩))); ((conv => whnf); first | exact ⟨rfl, rfl, trivial⟩ | (refine ⟨by omega, ?_⟩; (conv => whnf); exact ⟨rfl, rfl, trivial⟩)))); (conv => whnf))
  refine ⟨_, ⟨⟨rfl, rfl, trivial⟩, app_get H [z55, z57, z59] 0⟩, ?_⟩
  (conv => whnf)
  refine ⟨_, ⟨⟨rfl, rfl, trivial⟩, app_get H [z55, z57, z59] 1⟩, ?_⟩
  (conv => whnf)
  refine ⟨_, ⟨⟨rfl, rfl, trivial⟩, app_get H [z55, z57, z59] 2⟩, ?_⟩
  (conv => whnf)
  apply Exists.intro
  apply And.intro
  focus
    (conv => whnf)
    ((conv in (_[_]?) => tactic => exact app_get H [z55, z57, z59] 0); (conv => whnf))
    (conv => whnf)
    exact ⟨rfl, app_set H [z55, z57, z59] 0 (PObj.mk 64 (m.tgs.map dem) 1), trivial⟩
  (conv => whnf)
  apply Exists.intro
  apply And.intro
  focus
    (conv => whnf)
    ((conv in (_[_]?) => tactic => exact app_get H [PObj.mk 64 (m.tgs.map dem) 1, z57, z59] 1); (conv => whnf))
    (conv => whnf)
    exact ⟨rfl, app_set H [PObj.mk 64 (m.tgs.map dem) 1, z57, z59] 1 (PObj.mk 30 (m.rep.map dem) 1), trivial⟩
  (conv => whnf)
  apply Exists.intro
  apply And.intro
  focus
    (conv => whnf)
    ((conv in (_[_]?) => tactic => exact app_get H [PObj.mk 64 (m.tgs.map dem) 1, PObj.mk 30 (m.rep.map dem) 1, z59] 2); (conv => whnf))
    (conv => whnf)
    exact ⟨rfl, app_set H [PObj.mk 64 (m.tgs.map dem) 1, PObj.mk 30 (m.rep.map dem) 1, z59] 2 (PObj.mk 98 (m.ap.map dem) 1), trivial⟩
  (conv => whnf)
  by_cases h1 : m.kind = 1
  · have hk := h1
    have n2 : ¬ m.kind = 2 := by omega
    have n3 : ¬ m.kind = 3 := by omega
    have n4 : ¬ m.kind = 4 := by omega
    have n5 : ¬ m.kind = 5 := by omega
    have e1 : decide (m.kind = 1) = true := decide_eq_true hk
    have e2 : decide (m.kind = 2) = false := decide_eq_false n2
    have e3 : decide (m.kind = 3) = false := decide_eq_false n3
    have e4 : decide (m.kind = 4) = false := decide_eq_false n4
    have e5 : decide (m.kind = 5) = false := decide_eq_false n5
    refine ⟨fun h => ?_, fun h => ?_⟩
    rotate_left
    · exact (h hk).elim
    (conv => whnf)
    refine ⟨fun h => ?_, fun h => ?_⟩
    · exact (n2 h).elim
    (conv => whnf)
    ((conv in (_[_]?) => tactic => exact app_get H [PObj.mk 64 (m.tgs.map dem) 1, PObj.mk 30 (m.rep.map dem) 1, PObj.mk 98 (m.ap.map dem) 1] 0); (conv => whnf))
    refine callK_pure (c218 m.t1 m.t2 m.tKv m.tB none) ?_
    cases f1 : noTk m.t1 m.t2 m.tKv m.tB.length
    · (conv => whnf)
      exact ⟨congrArg PV.bool (by unfold othersB noTgs noRep noAp noFail; simp only [e1, e2, e3, e4, e5, f1, Bool.and_true, Bool.true_and, Bool.or_false, Bool.false_or, Bool.true_or, Bool.or_true, Bool.and_false, Bool.false_and]), _, rfl⟩
    (conv => whnf)
    ((conv in (_[_]?) => tactic => exact app_get H [PObj.mk 64 (m.tgs.map dem) 1, PObj.mk 30 (m.rep.map dem) 1, PObj.mk 98 (m.ap.map dem) 1] 0); (conv => whnf))
    refine ⟨fun h => ?_, fun h => ?_⟩
    rotate_left
    · have f2 : decide (m.tAu.length = 0) = false := decide_eq_false fun hh => h (Iff.mpr nat0 hh)
      (conv => whnf)
      exact ⟨congrArg PV.bool (by unfold othersB noTgs noRep noAp noFail; simp only [e1, e2, e3, e4, e5, f1, f2, Bool.and_true, Bool.true_and, Bool.or_false, Bool.false_or, Bool.true_or, Bool.or_true, Bool.and_false, Bool.false_and]), _, rfl⟩
    have f2 : decide (m.tAu.length = 0) = true := decide_eq_true (Iff.mp nat0 h)
    (conv => whnf)
    ((conv in (_[_]?) => tactic => exact app_get H [PObj.mk 64 (m.tgs.map dem) 1, PObj.mk 30 (m.rep.map dem) 1, PObj.mk 98 (m.ap.map dem) 1] 0); (conv => whnf))
    refine ⟨⟨fitG _ _, fitG [] []⟩, ?_⟩
    (conv => whnf)
    refine ⟨fun h => ?_, fun h => ?_⟩
    rotate_left
    · have f3 : decide (m.t3 = [] ∧ m.t4 = []) = false := decide_eq_false fun hh => h (Iff.mpr pr_eq hh)
      (conv => whnf)
      exact ⟨congrArg PV.bool (by unfold othersB noTgs noRep noAp noFail; simp only [e1, e2, e3, e4, e5, f1, f2, f3, Bool.and_true, Bool.true_and, Bool.or_false, Bool.false_or, Bool.true_or, Bool.or_true, Bool.and_false, Bool.false_and]), _, rfl⟩
    have f3 : decide (m.t3 = [] ∧ m.t4 = []) = true := decide_eq_true (Iff.mp pr_eq h)
    (conv => whnf)
    ((conv in (_[_]?) => tactic => exact app_get H [PObj.mk 64 (m.tgs.map dem) 1, PObj.mk 30 (m.rep.map dem) 1, PObj.mk 98 (m.ap.map dem) 1] 0); (conv => whnf))
    refine ⟨fun h => ?_, fun h => ?_⟩
    rotate_left
    · have f4 : decide (m.tTill = 0) = false := decide_eq_false fun hh => h (Iff.mpr Iff.rfl hh)
      (conv => whnf)
      exact ⟨congrArg PV.bool (by unfold othersB noTgs noRep noAp noFail; simp only [e1, e2, e3, e4, e5, f1, f2, f3, f4, Bool.and_true, Bool.true_and, Bool.or_false, Bool.false_or, Bool.true_or, Bool.or_true, Bool.and_false, Bool.false_and]), _, rfl⟩
    have f4 : decide (m.tTill = 0) = true := decide_eq_true (Iff.mp Iff.rfl h)
    (conv => whnf)
    ((conv in (_[_]?) => tactic => exact app_get H [PObj.mk 64 (m.tgs.map dem) 1, PObj.mk 30 (m.rep.map dem) 1, PObj.mk 98 (m.ap.map dem) 1] 0); (conv => whnf))
    refine ⟨fun h => ?_, fun h => ?_⟩
    rotate_left
    · have f5 : decide (m.tNonce = 0) = false := decide_eq_false fun hh => h (Iff.mpr Iff.rfl hh)
      (conv => whnf)
      exact ⟨congrArg PV.bool (by unfold othersB noTgs noRep noAp noFail; simp only [e1, e2, e3, e4, e5, f1, f2, f3, f4, f5, Bool.and_true, Bool.true_and, Bool.or_false, Bool.false_or, Bool.true_or, Bool.or_true, Bool.and_false, Bool.false_and]), _, rfl⟩
    have f5 : decide (m.tNonce = 0) = true := decide_eq_true (Iff.mp Iff.rfl h)
    (conv => whnf)
    refine ⟨fun h => ?_, fun h => ?_⟩
    · exact (n3 h).elim
    (conv => whnf)
    ((conv in (_[_]?) => tactic => exact app_get H [PObj.mk 64 (m.tgs.map dem) 1, PObj.mk 30 (m.rep.map dem) 1, PObj.mk 98 (m.ap.map dem) 1] 1); (conv => whnf))
    refine ⟨⟨fitG _ _, fitG [] []⟩, ?_⟩
    (conv => whnf)
    refine ⟨fun h => ?_, fun h => ?_⟩
    rotate_left
    · have f6 : decide (m.r1 = [] ∧ m.r2 = []) = false := decide_eq_false fun hh => h (Iff.mpr pr_eq hh)
      (conv => whnf)
      exact ⟨congrArg PV.bool (by unfold othersB noTgs noRep noAp noFail; simp only [e1, e2, e3, e4, e5, f1, f2, f3, f4, f5, f6, Bool.and_true, Bool.true_and, Bool.or_false, Bool.false_or, Bool.true_or, Bool.or_true, Bool.and_false, Bool.false_and]), _, rfl⟩
    have f6 : decide (m.r1 = [] ∧ m.r2 = []) = true := decide_eq_true (Iff.mp pr_eq h)
    (conv => whnf)
    ((conv in (_[_]?) => tactic => exact app_get H [PObj.mk 64 (m.tgs.map dem) 1, PObj.mk 30 (m.rep.map dem) 1, PObj.mk 98 (m.ap.map dem) 1] 1); (conv => whnf))
    refine callK_pure (c218 m.r3 m.r4 m.rKv m.rB none) ?_
    cases f7 : noTk m.r3 m.r4 m.rKv m.rB.length
    · (conv => whnf)
      exact ⟨congrArg PV.bool (by unfold othersB noTgs noRep noAp noFail; simp only [e1, e2, e3, e4, e5, f1, f2, f3, f4, f5, f6, f7, Bool.and_true, Bool.true_and, Bool.or_false, Bool.false_or, Bool.true_or, Bool.or_true, Bool.and_false, Bool.false_and]), _, rfl⟩
    (conv => whnf)
    ((conv in (_[_]?) => tactic => exact app_get H [PObj.mk 64 (m.tgs.map dem) 1, PObj.mk 30 (m.rep.map dem) 1, PObj.mk 98 (m.ap.map dem) 1] 1); (conv => whnf))
    refine ⟨fun h => ?_, fun h => ?_⟩
    rotate_left
    · have f8 : decide (m.rBl.length = 0) = false := decide_eq_false fun hh => h (Iff.mpr nat0 hh)
      (conv => whnf)
      exact ⟨congrArg PV.bool (by unfold othersB noTgs noRep noAp noFail; simp only [e1, e2, e3, e4, e5, f1, f2, f3, f4, f5, f6, f7, f8, Bool.and_true, Bool.true_and, Bool.or_false, Bool.false_or, Bool.true_or, Bool.or_true, Bool.and_false, Bool.false_and]), _, rfl⟩
    have f8 : decide (m.rBl.length = 0) = true := decide_eq_true (Iff.mp nat0 h)
    (conv => whnf)
    refine ⟨fun h => ?_, fun h => ?_⟩
    · exact (n4 h).elim
    (conv => whnf)
    ((conv in (_[_]?) => tactic => exact app_get H [PObj.mk 64 (m.tgs.map dem) 1, PObj.mk 30 (m.rep.map dem) 1, PObj.mk 98 (m.ap.map dem) 1] 2); (conv => whnf))
    refine callK_pure (c218 m.p1 m.p2 m.pKv m.pB none) ?_
    cases f9 : noTk m.p1 m.p2 m.pKv m.pB.length
    · (conv => whnf)
      exact ⟨congrArg PV.bool (by unfold othersB noTgs noRep noAp noFail; simp only [e1, e2, e3, e4, e5, f1, f2, f3, f4, f5, f6, f7, f8, f9, Bool.and_true, Bool.true_and, Bool.or_false, Bool.false_or, Bool.true_or, Bool.or_true, Bool.and_false, Bool.false_and]), _, rfl⟩
    (conv => whnf)
    ((conv in (_[_]?) => tactic => exact app_get H [PObj.mk 64 (m.tgs.map dem) 1, PObj.mk 30 (m.rep.map dem) 1, PObj.mk 98 (m.ap.map dem) 1] 2); (conv => whnf))
    refine ⟨fun h => ?_, fun h => ?_⟩
    rotate_left
    · have f10 : decide (m.pAu.length = 0) = false := decide_eq_false fun hh => h (Iff.mpr nat0 hh)
      (conv => whnf)
      exact ⟨congrArg PV.bool (by unfold othersB noTgs noRep noAp noFail; simp only [e1, e2, e3, e4, e5, f1, f2, f3, f4, f5, f6, f7, f8, f9, f10, Bool.and_true, Bool.true_and, Bool.or_false, Bool.false_or, Bool.true_or, Bool.or_true, Bool.and_false, Bool.false_and]), _, rfl⟩
    have f10 : decide (m.pAu.length = 0) = true := decide_eq_true (Iff.mp nat0 h)
    (conv => whnf)
    refine ⟨fun h => ?_, fun h => ?_⟩
    · exact (n5 h).elim
    (conv => whnf)
    refine ⟨⟨fitF _ _, fitF 0 0⟩, ?_⟩
    (conv => whnf)
    refine ⟨fun h => ?_, fun h => ?_⟩
    rotate_left
    · have f11 : decide (m.fErr = 0 ∧ m.fNonce = 0) = false := decide_eq_false fun hh => h (Iff.mpr fl_eq hh)
      (conv => whnf)
      exact ⟨congrArg PV.bool (by unfold othersB noTgs noRep noAp noFail; simp only [e1, e2, e3, e4, e5, f1, f2, f3, f4, f5, f6, f7, f8, f9, f10, f11, Bool.and_true, Bool.true_and, Bool.or_false, Bool.false_or, Bool.true_or, Bool.or_true, Bool.and_false, Bool.false_and]), _, rfl⟩
    have f11 : decide (m.fErr = 0 ∧ m.fNonce = 0) = true := decide_eq_true (Iff.mp fl_eq h)
    (conv => whnf)
    exact ⟨congrArg PV.bool (by unfold othersB noTgs noRep noAp noFail; simp only [e1, e2, e3, e4, e5, f1, f2, f3, f4, f5, f6, f7, f8, f9, f10, f11, Bool.and_true, Bool.true_and, Bool.or_false, Bool.false_or, Bool.true_or, Bool.or_true, Bool.and_false, Bool.false_and]), _, rfl⟩
  by_cases h2 : m.kind = 2
  · have hk := h2
    have n1 : ¬ m.kind = 1 := by omega
    have n3 : ¬ m.kind = 3 := by omega
    have n4 : ¬ m.kind = 4 := by omega
    have n5 : ¬ m.kind = 5 := by omega
    have e1 : decide (m.kind = 1) = false := decide_eq_false n1
    have e2 : decide (m.kind = 2) = true := decide_eq_true hk
    have e3 : decide (m.kind = 3) = false := decide_eq_false n3
    have e4 : decide (m.kind = 4) = false := decide_eq_false n4
    have e5 : decide (m.kind = 5) = false := decide_eq_false n5
    refine ⟨fun h => ?_, fun h => ?_⟩
    · exact (n1 h).elim
    (conv => whnf)
    refine ⟨⟨fitA _ _ _ _ _ _, fitA [] [] [] [] 0 0⟩, ?_⟩
    (conv => whnf)
    refine ⟨fun h => ?_, fun h => ?_⟩
    rotate_left
    · have f12 : noAs m = false := decide_eq_false fun hh => h (Iff.mpr as_eq hh)
      (conv => whnf)
      exact ⟨congrArg PV.bool (by unfold othersB noTgs noRep noAp noFail; simp only [e1, e2, e3, e4, e5, f12, Bool.and_true, Bool.true_and, Bool.or_false, Bool.false_or, Bool.true_or, Bool.or_true, Bool.and_false, Bool.false_and]), _, rfl⟩
    have f12 : noAs m = true := decide_eq_true (Iff.mp as_eq h)
    (conv => whnf)
    refine ⟨fun h => ?_, fun h => ?_⟩
    rotate_left
    · exact (h hk).elim
    (conv => whnf)
    refine ⟨fun h => ?_, fun h => ?_⟩
    · exact (n3 h).elim
    (conv => whnf)
    ((conv in (_[_]?) => tactic => exact app_get H [PObj.mk 64 (m.tgs.map dem) 1, PObj.mk 30 (m.rep.map dem) 1, PObj.mk 98 (m.ap.map dem) 1] 1); (conv => whnf))
    refine ⟨⟨fitG _ _, fitG [] []⟩, ?_⟩
    (conv => whnf)
    refine ⟨fun h => ?_, fun h => ?_⟩
    rotate_left
    · have f13 : decide (m.r1 = [] ∧ m.r2 = []) = false := decide_eq_false fun hh => h (Iff.mpr pr_eq hh)
      (conv => whnf)
      exact ⟨congrArg PV.bool (by unfold othersB noTgs noRep noAp noFail; simp only [e1, e2, e3, e4, e5, f12, f13, Bool.and_true, Bool.true_and, Bool.or_false, Bool.false_or, Bool.true_or, Bool.or_true, Bool.and_false, Bool.false_and]), _, rfl⟩
    have f13 : decide (m.r1 = [] ∧ m.r2 = []) = true := decide_eq_true (Iff.mp pr_eq h)
    (conv => whnf)
    ((conv in (_[_]?) => tactic => exact app_get H [PObj.mk 64 (m.tgs.map dem) 1, PObj.mk 30 (m.rep.map dem) 1, PObj.mk 98 (m.ap.map dem) 1] 1); (conv => whnf))
    refine callK_pure (c218 m.r3 m.r4 m.rKv m.rB none) ?_
    cases f14 : noTk m.r3 m.r4 m.rKv m.rB.length
    · (conv => whnf)
      exact ⟨congrArg PV.bool (by unfold othersB noTgs noRep noAp noFail; simp only [e1, e2, e3, e4, e5, f12, f13, f14, Bool.and_true, Bool.true_and, Bool.or_false, Bool.false_or, Bool.true_or, Bool.or_true, Bool.and_false, Bool.false_and]), _, rfl⟩
    (conv => whnf)
    ((conv in (_[_]?) => tactic => exact app_get H [PObj.mk 64 (m.tgs.map dem) 1, PObj.mk 30 (m.rep.map dem) 1, PObj.mk 98 (m.ap.map dem) 1] 1); (conv => whnf))
    refine ⟨fun h => ?_, fun h => ?_⟩
    rotate_left
    · have f15 : decide (m.rBl.length = 0) = false := decide_eq_false fun hh => h (Iff.mpr nat0 hh)
      (conv => whnf)
      exact ⟨congrArg PV.bool (by unfold othersB noTgs noRep noAp noFail; simp only [e1, e2, e3, e4, e5, f12, f13, f14, f15, Bool.and_true, Bool.true_and, Bool.or_false, Bool.false_or, Bool.true_or, Bool.or_true, Bool.and_false, Bool.false_and]), _, rfl⟩
    have f15 : decide (m.rBl.length = 0) = true := decide_eq_true (Iff.mp nat0 h)
    (conv => whnf)
    refine ⟨fun h => ?_, fun h => ?_⟩
    · exact (n4 h).elim
    (conv => whnf)
    ((conv in (_[_]?) => tactic => exact app_get H [PObj.mk 64 (m.tgs.map dem) 1, PObj.mk 30 (m.rep.map dem) 1, PObj.mk 98 (m.ap.map dem) 1] 2); (conv => whnf))
    refine callK_pure (c218 m.p1 m.p2 m.pKv m.pB none) ?_
    cases f16 : noTk m.p1 m.p2 m.pKv m.pB.length
    · (conv => whnf)
      exact ⟨congrArg PV.bool (by unfold othersB noTgs noRep noAp noFail; simp only [e1, e2, e3, e4, e5, f12, f13, f14, f15, f16, Bool.and_true, Bool.true_and, Bool.or_false, Bool.false_or, Bool.true_or, Bool.or_true, Bool.and_false, Bool.false_and]), _, rfl⟩
    (conv => whnf)
    ((conv in (_[_]?) => tactic => exact app_get H [PObj.mk 64 (m.tgs.map dem) 1, PObj.mk 30 (m.rep.map dem) 1, PObj.mk 98 (m.ap.map dem) 1] 2); (conv => whnf))
    refine ⟨fun h => ?_, fun h => ?_⟩
    rotate_left
    · have f17 : decide (m.pAu.length = 0) = false := decide_eq_false fun hh => h (Iff.mpr nat0 hh)
      (conv => whnf)
      exact ⟨congrArg PV.bool (by unfold othersB noTgs noRep noAp noFail; simp only [e1, e2, e3, e4, e5, f12, f13, f14, f15, f16, f17, Bool.and_true, Bool.true_and, Bool.or_false, Bool.false_or, Bool.true_or, Bool.or_true, Bool.and_false, Bool.false_and]), _, rfl⟩
    have f17 : decide (m.pAu.length = 0) = true := decide_eq_true (Iff.mp nat0 h)
    (conv => whnf)
    refine ⟨fun h => ?_, fun h => ?_⟩
    · exact (n5 h).elim
    (conv => whnf)
    refine ⟨⟨fitF _ _, fitF 0 0⟩, ?_⟩
    (conv => whnf)
    refine ⟨fun h => ?_, fun h => ?_⟩
    rotate_left
    · have f18 : decide (m.fErr = 0 ∧ m.fNonce = 0) = false := decide_eq_false fun hh => h (Iff.mpr fl_eq hh)
      (conv => whnf)
      exact ⟨congrArg PV.bool (by unfold othersB noTgs noRep noAp noFail; simp only [e1, e2, e3, e4, e5, f12, f13, f14, f15, f16, f17, f18, Bool.and_true, Bool.true_and, Bool.or_false, Bool.false_or, Bool.true_or, Bool.or_true, Bool.and_false, Bool.false_and]), _, rfl⟩
    have f18 : decide (m.fErr = 0 ∧ m.fNonce = 0) = true := decide_eq_true (Iff.mp fl_eq h)
    (conv => whnf)
    exact ⟨congrArg PV.bool (by unfold othersB noTgs noRep noAp noFail; simp only [e1, e2, e3, e4, e5, f12, f13, f14, f15, f16, f17, f18, Bool.and_true, Bool.true_and, Bool.or_false, Bool.false_or, Bool.true_or, Bool.or_true, Bool.and_false, Bool.false_and]), _, rfl⟩
  by_cases h3 : m.kind = 3
  · have hk := h3
    have n1 : ¬ m.kind = 1 := by omega
    have n2 : ¬ m.kind = 2 := by omega
    have n4 : ¬ m.kind = 4 := by omega
    have n5 : ¬ m.kind = 5 := by omega
    have e1 : decide (m.kind = 1) = false := decide_eq_false n1
    have e2 : decide (m.kind = 2) = false := decide_eq_false n2
    have e3 : decide (m.kind = 3) = true := decide_eq_true hk
    have e4 : decide (m.kind = 4) = false := decide_eq_false n4
    have e5 : decide (m.kind = 5) = false := decide_eq_false n5
    refine ⟨fun h => ?_, fun h => ?_⟩
    · exact (n1 h).elim
    (conv => whnf)
    refine ⟨⟨fitA _ _ _ _ _ _, fitA [] [] [] [] 0 0⟩, ?_⟩
    (conv => whnf)
    refine ⟨fun h => ?_, fun h => ?_⟩
    rotate_left
    · have f19 : noAs m = false := decide_eq_false fun hh => h (Iff.mpr as_eq hh)
      (conv => whnf)
      exact ⟨congrArg PV.bool (by unfold othersB noTgs noRep noAp noFail; simp only [e1, e2, e3, e4, e5, f19, Bool.and_true, Bool.true_and, Bool.or_false, Bool.false_or, Bool.true_or, Bool.or_true, Bool.and_false, Bool.false_and]), _, rfl⟩
    have f19 : noAs m = true := decide_eq_true (Iff.mp as_eq h)
    (conv => whnf)
    refine ⟨fun h => ?_, fun h => ?_⟩
    · exact (n2 h).elim
    (conv => whnf)
    ((conv in (_[_]?) => tactic => exact app_get H [PObj.mk 64 (m.tgs.map dem) 1, PObj.mk 30 (m.rep.map dem) 1, PObj.mk 98 (m.ap.map dem) 1] 0); (conv => whnf))
    refine callK_pure (c218 m.t1 m.t2 m.tKv m.tB none) ?_
    cases f20 : noTk m.t1 m.t2 m.tKv m.tB.length
    · (conv => whnf)
      exact ⟨congrArg PV.bool (by unfold othersB noTgs noRep noAp noFail; simp only [e1, e2, e3, e4, e5, f19, f20, Bool.and_true, Bool.true_and, Bool.or_false, Bool.false_or, Bool.true_or, Bool.or_true, Bool.and_false, Bool.false_and]), _, rfl⟩
    (conv => whnf)
    ((conv in (_[_]?) => tactic => exact app_get H [PObj.mk 64 (m.tgs.map dem) 1, PObj.mk 30 (m.rep.map dem) 1, PObj.mk 98 (m.ap.map dem) 1] 0); (conv => whnf))
    refine ⟨fun h => ?_, fun h => ?_⟩
    rotate_left
    · have f21 : decide (m.tAu.length = 0) = false := decide_eq_false fun hh => h (Iff.mpr nat0 hh)
      (conv => whnf)
      exact ⟨congrArg PV.bool (by unfold othersB noTgs noRep noAp noFail; simp only [e1, e2, e3, e4, e5, f19, f20, f21, Bool.and_true, Bool.true_and, Bool.or_false, Bool.false_or, Bool.true_or, Bool.or_true, Bool.and_false, Bool.false_and]), _, rfl⟩
    have f21 : decide (m.tAu.length = 0) = true := decide_eq_true (Iff.mp nat0 h)
    (conv => whnf)
    ((conv in (_[_]?) => tactic => exact app_get H [PObj.mk 64 (m.tgs.map dem) 1, PObj.mk 30 (m.rep.map dem) 1, PObj.mk 98 (m.ap.map dem) 1] 0); (conv => whnf))
    refine ⟨⟨fitG _ _, fitG [] []⟩, ?_⟩
    (conv => whnf)
    refine ⟨fun h => ?_, fun h => ?_⟩
    rotate_left
    · have f22 : decide (m.t3 = [] ∧ m.t4 = []) = false := decide_eq_false fun hh => h (Iff.mpr pr_eq hh)
      (conv => whnf)
      exact ⟨congrArg PV.bool (by unfold othersB noTgs noRep noAp noFail; simp only [e1, e2, e3, e4, e5, f19, f20, f21, f22, Bool.and_true, Bool.true_and, Bool.or_false, Bool.false_or, Bool.true_or, Bool.or_true, Bool.and_false, Bool.false_and]), _, rfl⟩
    have f22 : decide (m.t3 = [] ∧ m.t4 = []) = true := decide_eq_true (Iff.mp pr_eq h)
    (conv => whnf)
    ((conv in (_[_]?) => tactic => exact app_get H [PObj.mk 64 (m.tgs.map dem) 1, PObj.mk 30 (m.rep.map dem) 1, PObj.mk 98 (m.ap.map dem) 1] 0); (conv => whnf))
    refine ⟨fun h => ?_, fun h => ?_⟩
    rotate_left
    · have f23 : decide (m.tTill = 0) = false := decide_eq_false fun hh => h (Iff.mpr Iff.rfl hh)
      (conv => whnf)
      exact ⟨congrArg PV.bool (by unfold othersB noTgs noRep noAp noFail; simp only [e1, e2, e3, e4, e5, f19, f20, f21, f22, f23, Bool.and_true, Bool.true_and, Bool.or_false, Bool.false_or, Bool.true_or, Bool.or_true, Bool.and_false, Bool.false_and]), _, rfl⟩
    have f23 : decide (m.tTill = 0) = true := decide_eq_true (Iff.mp Iff.rfl h)
    (conv => whnf)
    ((conv in (_[_]?) => tactic => exact app_get H [PObj.mk 64 (m.tgs.map dem) 1, PObj.mk 30 (m.rep.map dem) 1, PObj.mk 98 (m.ap.map dem) 1] 0); (conv => whnf))
    refine ⟨fun h => ?_, fun h => ?_⟩
    rotate_left
    · have f24 : decide (m.tNonce = 0) = false := decide_eq_false fun hh => h (Iff.mpr Iff.rfl hh)
      (conv => whnf)
      exact ⟨congrArg PV.bool (by unfold othersB noTgs noRep noAp noFail; simp only [e1, e2, e3, e4, e5, f19, f20, f21, f22, f23, f24, Bool.and_true, Bool.true_and, Bool.or_false, Bool.false_or, Bool.true_or, Bool.or_true, Bool.and_false, Bool.false_and]), _, rfl⟩
    have f24 : decide (m.tNonce = 0) = true := decide_eq_true (Iff.mp Iff.rfl h)
    (conv => whnf)
    refine ⟨fun h => ?_, fun h => ?_⟩
    rotate_left
    · exact (h hk).elim
    (conv => whnf)
    refine ⟨fun h => ?_, fun h => ?_⟩
    · exact (n4 h).elim
    (conv => whnf)
    ((conv in (_[_]?) => tactic => exact app_get H [PObj.mk 64 (m.tgs.map dem) 1, PObj.mk 30 (m.rep.map dem) 1, PObj.mk 98 (m.ap.map dem) 1] 2); (conv => whnf))
    refine callK_pure (c218 m.p1 m.p2 m.pKv m.pB none) ?_
    cases f25 : noTk m.p1 m.p2 m.pKv m.pB.length
    · (conv => whnf)
      exact ⟨congrArg PV.bool (by unfold othersB noTgs noRep noAp noFail; simp only [e1, e2, e3, e4, e5, f19, f20, f21, f22, f23, f24, f25, Bool.and_true, Bool.true_and, Bool.or_false, Bool.false_or, Bool.true_or, Bool.or_true, Bool.and_false, Bool.false_and]), _, rfl⟩
    (conv => whnf)
    ((conv in (_[_]?) => tactic => exact app_get H [PObj.mk 64 (m.tgs.map dem) 1, PObj.mk 30 (m.rep.map dem) 1, PObj.mk 98 (m.ap.map dem) 1] 2); (conv => whnf))
    refine ⟨fun h => ?_, fun h => ?_⟩
    rotate_left
    · have f26 : decide (m.pAu.length = 0) = false := decide_eq_false fun hh => h (Iff.mpr nat0 hh)
      (conv => whnf)
      exact ⟨congrArg PV.bool (by unfold othersB noTgs noRep noAp noFail; simp only [e1, e2, e3, e4, e5, f19, f20, f21, f22, f23, f24, f25, f26, Bool.and_true, Bool.true_and, Bool.or_false, Bool.false_or, Bool.true_or, Bool.or_true, Bool.and_false, Bool.false_and]), _, rfl⟩
    have f26 : decide (m.pAu.length = 0) = true := decide_eq_true (Iff.mp nat0 h)
    (conv => whnf)
    refine ⟨fun h => ?_, fun h => ?_⟩
    · exact (n5 h).elim
    (conv => whnf)
    refine ⟨⟨fitF _ _, fitF 0 0⟩, ?_⟩
    (conv => whnf)
    refine ⟨fun h => ?_, fun h => ?_⟩
    rotate_left
    · have f27 : decide (m.fErr = 0 ∧ m.fNonce = 0) = false := decide_eq_false fun hh => h (Iff.mpr fl_eq hh)
      (conv => whnf)
      exact ⟨congrArg PV.bool (by unfold othersB noTgs noRep noAp noFail; simp only [e1, e2, e3, e4, e5, f19, f20, f21, f22, f23, f24, f25, f26, f27, Bool.and_true, Bool.true_and, Bool.or_false, Bool.false_or, Bool.true_or, Bool.or_true, Bool.and_false, Bool.false_and]), _, rfl⟩
    have f27 : decide (m.fErr = 0 ∧ m.fNonce = 0) = true := decide_eq_true (Iff.mp fl_eq h)
    (conv => whnf)
    exact ⟨congrArg PV.bool (by unfold othersB noTgs noRep noAp noFail; simp only [e1, e2, e3, e4, e5, f19, f20, f21, f22, f23, f24, f25, f26, f27, Bool.and_true, Bool.true_and, Bool.or_false, Bool.false_or, Bool.true_or, Bool.or_true, Bool.and_false, Bool.false_and]), _, rfl⟩
  by_cases h4 : m.kind = 4
  · have hk := h4
    have n1 : ¬ m.kind = 1 := by omega
    have n2 : ¬ m.kind = 2 := by omega
    have n3 : ¬ m.kind = 3 := by omega
    have n5 : ¬ m.kind = 5 := by omega
    have e1 : decide (m.kind = 1) = false := decide_eq_false n1
    have e2 : decide (m.kind = 2) = false := decide_eq_false n2
    have e3 : decide (m.kind = 3) = false := decide_eq_false n3
    have e4 : decide (m.kind = 4) = true := decide_eq_true hk
    have e5 : decide (m.kind = 5) = false := decide_eq_false n5
    refine ⟨fun h => ?_, fun h => ?_⟩
    · exact (n1 h).elim
    (conv => whnf)
    refine ⟨⟨fitA _ _ _ _ _ _, fitA [] [] [] [] 0 0⟩, ?_⟩
    (conv => whnf)
    refine ⟨fun h => ?_, fun h => ?_⟩
    rotate_left
    · have f28 : noAs m = false := decide_eq_false fun hh => h (Iff.mpr as_eq hh)
      (conv => whnf)
      exact ⟨congrArg PV.bool (by unfold othersB noTgs noRep noAp noFail; simp only [e1, e2, e3, e4, e5, f28, Bool.and_true, Bool.true_and, Bool.or_false, Bool.false_or, Bool.true_or, Bool.or_true, Bool.and_false, Bool.false_and]), _, rfl⟩
    have f28 : noAs m = true := decide_eq_true (Iff.mp as_eq h)
    (conv => whnf)
    refine ⟨fun h => ?_, fun h => ?_⟩
    · exact (n2 h).elim
    (conv => whnf)
    ((conv in (_[_]?) => tactic => exact app_get H [PObj.mk 64 (m.tgs.map dem) 1, PObj.mk 30 (m.rep.map dem) 1, PObj.mk 98 (m.ap.map dem) 1] 0); (conv => whnf))
    refine callK_pure (c218 m.t1 m.t2 m.tKv m.tB none) ?_
    cases f29 : noTk m.t1 m.t2 m.tKv m.tB.length
    · (conv => whnf)
      exact ⟨congrArg PV.bool (by unfold othersB noTgs noRep noAp noFail; simp only [e1, e2, e3, e4, e5, f28, f29, Bool.and_true, Bool.true_and, Bool.or_false, Bool.false_or, Bool.true_or, Bool.or_true, Bool.and_false, Bool.false_and]), _, rfl⟩
    (conv => whnf)
    ((conv in (_[_]?) => tactic => exact app_get H [PObj.mk 64 (m.tgs.map dem) 1, PObj.mk 30 (m.rep.map dem) 1, PObj.mk 98 (m.ap.map dem) 1] 0); (conv => whnf))
    refine ⟨fun h => ?_, fun h => ?_⟩
    rotate_left
    · have f30 : decide (m.tAu.length = 0) = false := decide_eq_false fun hh => h (Iff.mpr nat0 hh)
      (conv => whnf)
      exact ⟨congrArg PV.bool (by unfold othersB noTgs noRep noAp noFail; simp only [e1, e2, e3, e4, e5, f28, f29, f30, Bool.and_true, Bool.true_and, Bool.or_false, Bool.false_or, Bool.true_or, Bool.or_true, Bool.and_false, Bool.false_and]), _, rfl⟩
    have f30 : decide (m.tAu.length = 0) = true := decide_eq_true (Iff.mp nat0 h)
    (conv => whnf)
    ((conv in (_[_]?) => tactic => exact app_get H [PObj.mk 64 (m.tgs.map dem) 1, PObj.mk 30 (m.rep.map dem) 1, PObj.mk 98 (m.ap.map dem) 1] 0); (conv => whnf))
    refine ⟨⟨fitG _ _, fitG [] []⟩, ?_⟩
    (conv => whnf)
    refine ⟨fun h => ?_, fun h => ?_⟩
    rotate_left
    · have f31 : decide (m.t3 = [] ∧ m.t4 = []) = false := decide_eq_false fun hh => h (Iff.mpr pr_eq hh)
      (conv => whnf)
      exact ⟨congrArg PV.bool (by unfold othersB noTgs noRep noAp noFail; simp only [e1, e2, e3, e4, e5, f28, f29, f30, f31, Bool.and_true, Bool.true_and, Bool.or_false, Bool.false_or, Bool.true_or, Bool.or_true, Bool.and_false, Bool.false_and]), _, rfl⟩
    have f31 : decide (m.t3 = [] ∧ m.t4 = []) = true := decide_eq_true (Iff.mp pr_eq h)
    (conv => whnf)
    ((conv in (_[_]?) => tactic => exact app_get H [PObj.mk 64 (m.tgs.map dem) 1, PObj.mk 30 (m.rep.map dem) 1, PObj.mk 98 (m.ap.map dem) 1] 0); (conv => whnf))
    refine ⟨fun h => ?_, fun h => ?_⟩
    rotate_left
    · have f32 : decide (m.tTill = 0) = false := decide_eq_false fun hh => h (Iff.mpr Iff.rfl hh)
      (conv => whnf)
      exact ⟨congrArg PV.bool (by unfold othersB noTgs noRep noAp noFail; simp only [e1, e2, e3, e4, e5, f28, f29, f30, f31, f32, Bool.and_true, Bool.true_and, Bool.or_false, Bool.false_or, Bool.true_or, Bool.or_true, Bool.and_false, Bool.false_and]), _, rfl⟩
    have f32 : decide (m.tTill = 0) = true := decide_eq_true (Iff.mp Iff.rfl h)
    (conv => whnf)
    ((conv in (_[_]?) => tactic => exact app_get H [PObj.mk 64 (m.tgs.map dem) 1, PObj.mk 30 (m.rep.map dem) 1, PObj.mk 98 (m.ap.map dem) 1] 0); (conv => whnf))
    refine ⟨fun h => ?_, fun h => ?_⟩
    rotate_left
    · have f33 : decide (m.tNonce = 0) = false := decide_eq_false fun hh => h (Iff.mpr Iff.rfl hh)
      (conv => whnf)
      exact ⟨congrArg PV.bool (by unfold othersB noTgs noRep noAp noFail; simp only [e1, e2, e3, e4, e5, f28, f29, f30, f31, f32, f33, Bool.and_true, Bool.true_and, Bool.or_false, Bool.false_or, Bool.true_or, Bool.or_true, Bool.and_false, Bool.false_and]), _, rfl⟩
    have f33 : decide (m.tNonce = 0) = true := decide_eq_true (Iff.mp Iff.rfl h)
    (conv => whnf)
    refine ⟨fun h => ?_, fun h => ?_⟩
    · exact (n3 h).elim
    (conv => whnf)
    ((conv in (_[_]?) => tactic => exact app_get H [PObj.mk 64 (m.tgs.map dem) 1, PObj.mk 30 (m.rep.map dem) 1, PObj.mk 98 (m.ap.map dem) 1] 1); (conv => whnf))
    refine ⟨⟨fitG _ _, fitG [] []⟩, ?_⟩
    (conv => whnf)
    refine ⟨fun h => ?_, fun h => ?_⟩
    rotate_left
    · have f34 : decide (m.r1 = [] ∧ m.r2 = []) = false := decide_eq_false fun hh => h (Iff.mpr pr_eq hh)
      (conv => whnf)
      exact ⟨congrArg PV.bool (by unfold othersB noTgs noRep noAp noFail; simp only [e1, e2, e3, e4, e5, f28, f29, f30, f31, f32, f33, f34, Bool.and_true, Bool.true_and, Bool.or_false, Bool.false_or, Bool.true_or, Bool.or_true, Bool.and_false, Bool.false_and]), _, rfl⟩
    have f34 : decide (m.r1 = [] ∧ m.r2 = []) = true := decide_eq_true (Iff.mp pr_eq h)
    (conv => whnf)
    ((conv in (_[_]?) => tactic => exact app_get H [PObj.mk 64 (m.tgs.map dem) 1, PObj.mk 30 (m.rep.map dem) 1, PObj.mk 98 (m.ap.map dem) 1] 1); (conv => whnf))
    refine callK_pure (c218 m.r3 m.r4 m.rKv m.rB none) ?_
    cases f35 : noTk m.r3 m.r4 m.rKv m.rB.length
    · (conv => whnf)
      exact ⟨congrArg PV.bool (by unfold othersB noTgs noRep noAp noFail; simp only [e1, e2, e3, e4, e5, f28, f29, f30, f31, f32, f33, f34, f35, Bool.and_true, Bool.true_and, Bool.or_false, Bool.false_or, Bool.true_or, Bool.or_true, Bool.and_false, Bool.false_and]), _, rfl⟩
    (conv => whnf)
    ((conv in (_[_]?) => tactic => exact app_get H [PObj.mk 64 (m.tgs.map dem) 1, PObj.mk 30 (m.rep.map dem) 1, PObj.mk 98 (m.ap.map dem) 1] 1); (conv => whnf))
    refine ⟨fun h => ?_, fun h => ?_⟩
    rotate_left
    · have f36 : decide (m.rBl.length = 0) = false := decide_eq_false fun hh => h (Iff.mpr nat0 hh)
      (conv => whnf)
      exact ⟨congrArg PV.bool (by unfold othersB noTgs noRep noAp noFail; simp only [e1, e2, e3, e4, e5, f28, f29, f30, f31, f32, f33, f34, f35, f36, Bool.and_true, Bool.true_and, Bool.or_false, Bool.false_or, Bool.true_or, Bool.or_true, Bool.and_false, Bool.false_and]), _, rfl⟩
    have f36 : decide (m.rBl.length = 0) = true := decide_eq_true (Iff.mp nat0 h)
    (conv => whnf)
    refine ⟨fun h => ?_, fun h => ?_⟩
    rotate_left
    · exact (h hk).elim
    (conv => whnf)
    refine ⟨fun h => ?_, fun h => ?_⟩
    · exact (n5 h).elim
    (conv => whnf)
    refine ⟨⟨fitF _ _, fitF 0 0⟩, ?_⟩
    (conv => whnf)
    refine ⟨fun h => ?_, fun h => ?_⟩
    rotate_left
    · have f37 : decide (m.fErr = 0 ∧ m.fNonce = 0) = false := decide_eq_false fun hh => h (Iff.mpr fl_eq hh)
      (conv => whnf)
      exact ⟨congrArg PV.bool (by unfold othersB noTgs noRep noAp noFail; simp only [e1, e2, e3, e4, e5, f28, f29, f30, f31, f32, f33, f34, f35, f36, f37, Bool.and_true, Bool.true_and, Bool.or_false, Bool.false_or, Bool.true_or, Bool.or_true, Bool.and_false, Bool.false_and]), _, rfl⟩
    have f37 : decide (m.fErr = 0 ∧ m.fNonce = 0) = true := decide_eq_true (Iff.mp fl_eq h)
    (conv => whnf)
    exact ⟨congrArg PV.bool (by unfold othersB noTgs noRep noAp noFail; simp only [e1, e2, e3, e4, e5, f28, f29, f30, f31, f32, f33, f34, f35, f36, f37, Bool.and_true, Bool.true_and, Bool.or_false, Bool.false_or, Bool.true_or, Bool.or_true, Bool.and_false, Bool.false_and]), _, rfl⟩
  by_cases h5 : m.kind = 5
  · have hk := h5
    have n1 : ¬ m.kind = 1 := by omega
    have n2 : ¬ m.kind = 2 := by omega
    have n3 : ¬ m.kind = 3 := by omega
    have n4 : ¬ m.kind = 4 := by omega
    have e1 : decide (m.kind = 1) = false := decide_eq_false n1
    have e2 : decide (m.kind = 2) = false := decide_eq_false n2
    have e3 : decide (m.kind = 3) = false := decide_eq_false n3
    have e4 : decide (m.kind = 4) = false := decide_eq_false n4
    have e5 : decide (m.kind = 5) = true := decide_eq_true hk
    refine ⟨fun h => ?_, fun h => ?_⟩
    · exact (n1 h).elim
    (conv => whnf)
    refine ⟨⟨fitA _ _ _ _ _ _, fitA [] [] [] [] 0 0⟩, ?_⟩
    (conv => whnf)
    refine ⟨fun h => ?_, fun h => ?_⟩
    rotate_left
    · have f38 : noAs m = false := decide_eq_false fun hh => h (Iff.mpr as_eq hh)
      (conv => whnf)
      exact ⟨congrArg PV.bool (by unfold othersB noTgs noRep noAp noFail; simp only [e1, e2, e3, e4, e5, f38, Bool.and_true, Bool.true_and, Bool.or_false, Bool.false_or, Bool.true_or, Bool.or_true, Bool.and_false, Bool.false_and]), _, rfl⟩
    have f38 : noAs m = true := decide_eq_true (Iff.mp as_eq h)
    (conv => whnf)
    refine ⟨fun h => ?_, fun h => ?_⟩
    · exact (n2 h).elim
    (conv => whnf)
    ((conv in (_[_]?) => tactic => exact app_get H [PObj.mk 64 (m.tgs.map dem) 1, PObj.mk 30 (m.rep.map dem) 1, PObj.mk 98 (m.ap.map dem) 1] 0); (conv => whnf))
    refine callK_pure (c218 m.t1 m.t2 m.tKv m.tB none) ?_
    cases f39 : noTk m.t1 m.t2 m.tKv m.tB.length
    · (conv => whnf)
      exact ⟨congrArg PV.bool (by unfold othersB noTgs noRep noAp noFail; simp only [e1, e2, e3, e4, e5, f38, f39, Bool.and_true, Bool.true_and, Bool.or_false, Bool.false_or, Bool.true_or, Bool.or_true, Bool.and_false, Bool.false_and]), _, rfl⟩
    (conv => whnf)
    ((conv in (_[_]?) => tactic => exact app_get H [PObj.mk 64 (m.tgs.map dem) 1, PObj.mk 30 (m.rep.map dem) 1, PObj.mk 98 (m.ap.map dem) 1] 0); (conv => whnf))
    refine ⟨fun h => ?_, fun h => ?_⟩
    rotate_left
    · have f40 : decide (m.tAu.length = 0) = false := decide_eq_false fun hh => h (Iff.mpr nat0 hh)
      (conv => whnf)
      exact ⟨congrArg PV.bool (by unfold othersB noTgs noRep noAp noFail; simp only [e1, e2, e3, e4, e5, f38, f39, f40, Bool.and_true, Bool.true_and, Bool.or_false, Bool.false_or, Bool.true_or, Bool.or_true, Bool.and_false, Bool.false_and]), _, rfl⟩
    have f40 : decide (m.tAu.length = 0) = true := decide_eq_true (Iff.mp nat0 h)
    (conv => whnf)
    ((conv in (_[_]?) => tactic => exact app_get H [PObj.mk 64 (m.tgs.map dem) 1, PObj.mk 30 (m.rep.map dem) 1, PObj.mk 98 (m.ap.map dem) 1] 0); (conv => whnf))
    refine ⟨⟨fitG _ _, fitG [] []⟩, ?_⟩
    (conv => whnf)
    refine ⟨fun h => ?_, fun h => ?_⟩
    rotate_left
    · have f41 : decide (m.t3 = [] ∧ m.t4 = []) = false := decide_eq_false fun hh => h (Iff.mpr pr_eq hh)
      (conv => whnf)
      exact ⟨congrArg PV.bool (by unfold othersB noTgs noRep noAp noFail; simp only [e1, e2, e3, e4, e5, f38, f39, f40, f41, Bool.and_true, Bool.true_and, Bool.or_false, Bool.false_or, Bool.true_or, Bool.or_true, Bool.and_false, Bool.false_and]), _, rfl⟩
    have f41 : decide (m.t3 = [] ∧ m.t4 = []) = true := decide_eq_true (Iff.mp pr_eq h)
    (conv => whnf)
    ((conv in (_[_]?) => tactic => exact app_get H [PObj.mk 64 (m.tgs.map dem) 1, PObj.mk 30 (m.rep.map dem) 1, PObj.mk 98 (m.ap.map dem) 1] 0); (conv => whnf))
    refine ⟨fun h => ?_, fun h => ?_⟩
    rotate_left
    · have f42 : decide (m.tTill = 0) = false := decide_eq_false fun hh => h (Iff.mpr Iff.rfl hh)
      (conv => whnf)
      exact ⟨congrArg PV.bool (by unfold othersB noTgs noRep noAp noFail; simp only [e1, e2, e3, e4, e5, f38, f39, f40, f41, f42, Bool.and_true, Bool.true_and, Bool.or_false, Bool.false_or, Bool.true_or, Bool.or_true, Bool.and_false, Bool.false_and]), _, rfl⟩
    have f42 : decide (m.tTill = 0) = true := decide_eq_true (Iff.mp Iff.rfl h)
    (conv => whnf)
    ((conv in (_[_]?) => tactic => exact app_get H [PObj.mk 64 (m.tgs.map dem) 1, PObj.mk 30 (m.rep.map dem) 1, PObj.mk 98 (m.ap.map dem) 1] 0); (conv => whnf))
    refine ⟨fun h => ?_, fun h => ?_⟩
    rotate_left
    · have f43 : decide (m.tNonce = 0) = false := decide_eq_false fun hh => h (Iff.mpr Iff.rfl hh)
      (conv => whnf)
      exact ⟨congrArg PV.bool (by unfold othersB noTgs noRep noAp noFail; simp only [e1, e2, e3, e4, e5, f38, f39, f40, f41, f42, f43, Bool.and_true, Bool.true_and, Bool.or_false, Bool.false_or, Bool.true_or, Bool.or_true, Bool.and_false, Bool.false_and]), _, rfl⟩
    have f43 : decide (m.tNonce = 0) = true := decide_eq_true (Iff.mp Iff.rfl h)
    (conv => whnf)
    refine ⟨fun h => ?_, fun h => ?_⟩
    · exact (n3 h).elim
    (conv => whnf)
    ((conv in (_[_]?) => tactic => exact app_get H [PObj.mk 64 (m.tgs.map dem) 1, PObj.mk 30 (m.rep.map dem) 1, PObj.mk 98 (m.ap.map dem) 1] 1); (conv => whnf))
    refine ⟨⟨fitG _ _, fitG [] []⟩, ?_⟩
    (conv => whnf)
    refine ⟨fun h => ?_, fun h => ?_⟩
    rotate_left
    · have f44 : decide (m.r1 = [] ∧ m.r2 = []) = false := decide_eq_false fun hh => h (Iff.mpr pr_eq hh)
      (conv => whnf)
      exact ⟨congrArg PV.bool (by unfold othersB noTgs noRep noAp noFail; simp only [e1, e2, e3, e4, e5, f38, f39, f40, f41, f42, f43, f44, Bool.and_true, Bool.true_and, Bool.or_false, Bool.false_or, Bool.true_or, Bool.or_true, Bool.and_false, Bool.false_and]), _, rfl⟩
    have f44 : decide (m.r1 = [] ∧ m.r2 = []) = true := decide_eq_true (Iff.mp pr_eq h)
    (conv => whnf)
    ((conv in (_[_]?) => tactic => exact app_get H [PObj.mk 64 (m.tgs.map dem) 1, PObj.mk 30 (m.rep.map dem) 1, PObj.mk 98 (m.ap.map dem) 1] 1); (conv => whnf))
    refine callK_pure (c218 m.r3 m.r4 m.rKv m.rB none) ?_
    cases f45 : noTk m.r3 m.r4 m.rKv m.rB.length
    · (conv => whnf)
      exact ⟨congrArg PV.bool (by unfold othersB noTgs noRep noAp noFail; simp only [e1, e2, e3, e4, e5, f38, f39, f40, f41, f42, f43, f44, f45, Bool.and_true, Bool.true_and, Bool.or_false, Bool.false_or, Bool.true_or, Bool.or_true, Bool.and_false, Bool.false_and]), _, rfl⟩
    (conv => whnf)
    ((conv in (_[_]?) => tactic => exact app_get H [PObj.mk 64 (m.tgs.map dem) 1, PObj.mk 30 (m.rep.map dem) 1, PObj.mk 98 (m.ap.map dem) 1] 1); (conv => whnf))
    refine ⟨fun h => ?_, fun h => ?_⟩
    rotate_left
    · have f46 : decide (m.rBl.length = 0) = false := decide_eq_false fun hh => h (Iff.mpr nat0 hh)
      (conv => whnf)
      exact ⟨congrArg PV.bool (by unfold othersB noTgs noRep noAp noFail; simp only [e1, e2, e3, e4, e5, f38, f39, f40, f41, f42, f43, f44, f45, f46, Bool.and_true, Bool.true_and, Bool.or_false, Bool.false_or, Bool.true_or, Bool.or_true, Bool.and_false, Bool.false_and]), _, rfl⟩
    have f46 : decide (m.rBl.length = 0) = true := decide_eq_true (Iff.mp nat0 h)
    (conv => whnf)
    refine ⟨fun h => ?_, fun h => ?_⟩
    · exact (n4 h).elim
    (conv => whnf)
    ((conv in (_[_]?) => tactic => exact app_get H [PObj.mk 64 (m.tgs.map dem) 1, PObj.mk 30 (m.rep.map dem) 1, PObj.mk 98 (m.ap.map dem) 1] 2); (conv => whnf))
    refine callK_pure (c218 m.p1 m.p2 m.pKv m.pB none) ?_
    cases f47 : noTk m.p1 m.p2 m.pKv m.pB.length
    · (conv => whnf)
      exact ⟨congrArg PV.bool (by unfold othersB noTgs noRep noAp noFail; simp only [e1, e2, e3, e4, e5, f38, f39, f40, f41, f42, f43, f44, f45, f46, f47, Bool.and_true, Bool.true_and, Bool.or_false, Bool.false_or, Bool.true_or, Bool.or_true, Bool.and_false, Bool.false_and]), _, rfl⟩
    (conv => whnf)
    ((conv in (_[_]?) => tactic => exact app_get H [PObj.mk 64 (m.tgs.map dem) 1, PObj.mk 30 (m.rep.map dem) 1, PObj.mk 98 (m.ap.map dem) 1] 2); (conv => whnf))
    refine ⟨fun h => ?_, fun h => ?_⟩
    rotate_left
    · have f48 : decide (m.pAu.length = 0) = false := decide_eq_false fun hh => h (Iff.mpr nat0 hh)
      (conv => whnf)
      exact ⟨congrArg PV.bool (by unfold othersB noTgs noRep noAp noFail; simp only [e1, e2, e3, e4, e5, f38, f39, f40, f41, f42, f43, f44, f45, f46, f47, f48, Bool.and_true, Bool.true_and, Bool.or_false, Bool.false_or, Bool.true_or, Bool.or_true, Bool.and_false, Bool.false_and]), _, rfl⟩
    have f48 : decide (m.pAu.length = 0) = true := decide_eq_true (Iff.mp nat0 h)
    (conv => whnf)
    refine ⟨fun h => ?_, fun h => ?_⟩
    rotate_left
    · exact (h hk).elim
    (conv => whnf)
    exact ⟨congrArg PV.bool (by unfold othersB noTgs noRep noAp noFail; simp only [e1, e2, e3, e4, e5, f38, f39, f40, f41, f42, f43, f44, f45, f46, f47, f48, Bool.and_true, Bool.true_and, Bool.or_false, Bool.false_or, Bool.true_or, Bool.or_true, Bool.and_false, Bool.false_and]), _, rfl⟩
  have n1 : ¬ m.kind = 1 := h1
  have n2 : ¬ m.kind = 2 := h2
  have n3 : ¬ m.kind = 3 := h3
  have n4 : ¬ m.kind = 4 := h4
  have n5 : ¬ m.kind = 5 := h5
  have e1 : decide (m.kind = 1) = false := decide_eq_false n1
  have e2 : decide (m.kind = 2) = false := decide_eq_false n2
  have e3 : decide (m.kind = 3) = false := decide_eq_false n3
  have e4 : decide (m.kind = 4) = false := decide_eq_false n4
  have e5 : decide (m.kind = 5) = false := decide_eq_false n5
  refine ⟨fun h => ?_, fun h => ?_⟩
  · exact (n1 h).elim
  (conv => whnf)
  refine ⟨⟨fitA _ _ _ _ _ _, fitA [] [] [] [] 0 0⟩, ?_⟩
  (conv => whnf)
  refine ⟨fun h => ?_, fun h => ?_⟩
  rotate_left
  · have f49 : noAs m = false := decide_eq_false fun hh => h (Iff.mpr as_eq hh)
    (conv => whnf)
    exact ⟨congrArg PV.bool (by unfold othersB noTgs noRep noAp noFail; simp only [e1, e2, e3, e4, e5, f49, Bool.and_true, Bool.true_and, Bool.or_false, Bool.false_or, Bool.true_or, Bool.or_true, Bool.and_false, Bool.false_and]), _, rfl⟩
  have f49 : noAs m = true := decide_eq_true (Iff.mp as_eq h)
  (conv => whnf)
  refine ⟨fun h => ?_, fun h => ?_⟩
  · exact (n2 h).elim
  (conv => whnf)
  ((conv in (_[_]?) => tactic => exact app_get H [PObj.mk 64 (m.tgs.map dem) 1, PObj.mk 30 (m.rep.map dem) 1, PObj.mk 98 (m.ap.map dem) 1] 0); (conv => whnf))
  refine callK_pure (c218 m.t1 m.t2 m.tKv m.tB none) ?_
  cases f50 : noTk m.t1 m.t2 m.tKv m.tB.length
  · (conv => whnf)
    exact ⟨congrArg PV.bool (by unfold othersB noTgs noRep noAp noFail; simp only [e1, e2, e3, e4, e5, f49, f50, Bool.and_true, Bool.true_and, Bool.or_false, Bool.false_or, Bool.true_or, Bool.or_true, Bool.and_false, Bool.false_and]), _, rfl⟩
  (conv => whnf)
  ((conv in (_[_]?) => tactic => exact app_get H [PObj.mk 64 (m.tgs.map dem) 1, PObj.mk 30 (m.rep.map dem) 1, PObj.mk 98 (m.ap.map dem) 1] 0); (conv => whnf))
  refine ⟨fun h => ?_, fun h => ?_⟩
  rotate_left
  · have f51 : decide (m.tAu.length = 0) = false := decide_eq_false fun hh => h (Iff.mpr nat0 hh)
    (conv => whnf)
    exact ⟨congrArg PV.bool (by unfold othersB noTgs noRep noAp noFail; simp only [e1, e2, e3, e4, e5, f49, f50, f51, Bool.and_true, Bool.true_and, Bool.or_false, Bool.false_or, Bool.true_or, Bool.or_true, Bool.and_false, Bool.false_and]), _, rfl⟩
  have f51 : decide (m.tAu.length = 0) = true := decide_eq_true (Iff.mp nat0 h)
  (conv => whnf)
  ((conv in (_[_]?) => tactic => exact app_get H [PObj.mk 64 (m.tgs.map dem) 1, PObj.mk 30 (m.rep.map dem) 1, PObj.mk 98 (m.ap.map dem) 1] 0); (conv => whnf))
  refine ⟨⟨fitG _ _, fitG [] []⟩, ?_⟩
  (conv => whnf)
  refine ⟨fun h => ?_, fun h => ?_⟩
  rotate_left
  · have f52 : decide (m.t3 = [] ∧ m.t4 = []) = false := decide_eq_false fun hh => h (Iff.mpr pr_eq hh)
    (conv => whnf)
    exact ⟨congrArg PV.bool (by unfold othersB noTgs noRep noAp noFail; simp only [e1, e2, e3, e4, e5, f49, f50, f51, f52, Bool.and_true, Bool.true_and, Bool.or_false, Bool.false_or, Bool.true_or, Bool.or_true, Bool.and_false, Bool.false_and]), _, rfl⟩
  have f52 : decide (m.t3 = [] ∧ m.t4 = []) = true := decide_eq_true (Iff.mp pr_eq h)
  (conv => whnf)
  ((conv in (_[_]?) => tactic => exact app_get H [PObj.mk 64 (m.tgs.map dem) 1, PObj.mk 30 (m.rep.map dem) 1, PObj.mk 98 (m.ap.map dem) 1] 0); (conv => whnf))
  refine ⟨fun h => ?_, fun h => ?_⟩
  rotate_left
  · have f53 : decide (m.tTill = 0) = false := decide_eq_false fun hh => h (Iff.mpr Iff.rfl hh)
    (conv => whnf)
    exact ⟨congrArg PV.bool (by unfold othersB noTgs noRep noAp noFail; simp only [e1, e2, e3, e4, e5, f49, f50, f51, f52, f53, Bool.and_true, Bool.true_and, Bool.or_false, Bool.false_or, Bool.true_or, Bool.or_true, Bool.and_false, Bool.false_and]), _, rfl⟩
  have f53 : decide (m.tTill = 0) = true := decide_eq_true (Iff.mp Iff.rfl h)
  (conv => whnf)
  ((conv in (_[_]?) => tactic => exact app_get H [PObj.mk 64 (m.tgs.map dem) 1, PObj.mk 30 (m.rep.map dem) 1, PObj.mk 98 (m.ap.map dem) 1] 0); (conv => whnf))
  refine ⟨fun h => ?_, fun h => ?_⟩
  rotate_left
  · have f54 : decide (m.tNonce = 0) = false := decide_eq_false fun hh => h (Iff.mpr Iff.rfl hh)
    (conv => whnf)
    exact ⟨congrArg PV.bool (by unfold othersB noTgs noRep noAp noFail; simp only [e1, e2, e3, e4, e5, f49, f50, f51, f52, f53, f54, Bool.and_true, Bool.true_and, Bool.or_false, Bool.false_or, Bool.true_or, Bool.or_true, Bool.and_false, Bool.false_and]), _, rfl⟩
  have f54 : decide (m.tNonce = 0) = true := decide_eq_true (Iff.mp Iff.rfl h)
  (conv => whnf)
  refine ⟨fun h => ?_, fun h => ?_⟩
  · exact (n3 h).elim
  (conv => whnf)
  ((conv in (_[_]?) => tactic => exact app_get H [PObj.mk 64 (m.tgs.map dem) 1, PObj.mk 30 (m.rep.map dem) 1, PObj.mk 98 (m.ap.map dem) 1] 1); (conv => whnf))
  refine ⟨⟨fitG _ _, fitG [] []⟩, ?_⟩
  (conv => whnf)
  refine ⟨fun h => ?_, fun h => ?_⟩
  rotate_left
  · have f55 : decide (m.r1 = [] ∧ m.r2 = []) = false := decide_eq_false fun hh => h (Iff.mpr pr_eq hh)
    (conv => whnf)
    exact ⟨congrArg PV.bool (by unfold othersB noTgs noRep noAp noFail; simp only [e1, e2, e3, e4, e5, f49, f50, f51, f52, f53, f54, f55, Bool.and_true, Bool.true_and, Bool.or_false, Bool.false_or, Bool.true_or, Bool.or_true, Bool.and_false, Bool.false_and]), _, rfl⟩
  have f55 : decide (m.r1 = [] ∧ m.r2 = []) = true := decide_eq_true (Iff.mp pr_eq h)
  (conv => whnf)
  ((conv in (_[_]?) => tactic => exact app_get H [PObj.mk 64 (m.tgs.map dem) 1, PObj.mk 30 (m.rep.map dem) 1, PObj.mk 98 (m.ap.map dem) 1] 1); (conv => whnf))
  refine callK_pure (c218 m.r3 m.r4 m.rKv m.rB none) ?_
  cases f56 : noTk m.r3 m.r4 m.rKv m.rB.length
  · (conv => whnf)
    exact ⟨congrArg PV.bool (by unfold othersB noTgs noRep noAp noFail; simp only [e1, e2, e3, e4, e5, f49, f50, f51, f52, f53, f54, f55, f56, Bool.and_true, Bool.true_and, Bool.or_false, Bool.false_or, Bool.true_or, Bool.or_true, Bool.and_false, Bool.false_and]), _, rfl⟩
  (conv => whnf)
  ((conv in (_[_]?) => tactic => exact app_get H [PObj.mk 64 (m.tgs.map dem) 1, PObj.mk 30 (m.rep.map dem) 1, PObj.mk 98 (m.ap.map dem) 1] 1); (conv => whnf))
  refine ⟨fun h => ?_, fun h => ?_⟩
  rotate_left
  · have f57 : decide (m.rBl.length = 0) = false := decide_eq_false fun hh => h (Iff.mpr nat0 hh)
    (conv => whnf)
    exact ⟨congrArg PV.bool (by unfold othersB noTgs noRep noAp noFail; simp only [e1, e2, e3, e4, e5, f49, f50, f51, f52, f53, f54, f55, f56, f57, Bool.and_true, Bool.true_and, Bool.or_false, Bool.false_or, Bool.true_or, Bool.or_true, Bool.and_false, Bool.false_and]), _, rfl⟩
  have f57 : decide (m.rBl.length = 0) = true := decide_eq_true (Iff.mp nat0 h)
  (conv => whnf)
  refine ⟨fun h => ?_, fun h => ?_⟩
  · exact (n4 h).elim
  (conv => whnf)
  ((conv in (_[_]?) => tactic => exact app_get H [PObj.mk 64 (m.tgs.map dem) 1, PObj.mk 30 (m.rep.map dem) 1, PObj.mk 98 (m.ap.map dem) 1] 2); (conv => whnf))
  refine callK_pure (c218 m.p1 m.p2 m.pKv m.pB none) ?_
  cases f58 : noTk m.p1 m.p2 m.pKv m.pB.length
  · (conv => whnf)
    exact ⟨congrArg PV.bool (by unfold othersB noTgs noRep noAp noFail; simp only [e1, e2, e3, e4, e5, f49, f50, f51, f52, f53, f54, f55, f56, f57, f58, Bool.and_true, Bool.true_and, Bool.or_false, Bool.false_or, Bool.true_or, Bool.or_true, Bool.and_false, Bool.false_and]), _, rfl⟩
  (conv => whnf)
  ((conv in (_[_]?) => tactic => exact app_get H [PObj.mk 64 (m.tgs.map dem) 1, PObj.mk 30 (m.rep.map dem) 1, PObj.mk 98 (m.ap.map dem) 1] 2); (conv => whnf))
  refine ⟨fun h => ?_, fun h => ?_⟩
  rotate_left
  · have f59 : decide (m.pAu.length = 0) = false := decide_eq_false fun hh => h (Iff.mpr nat0 hh)
    (conv => whnf)
    exact ⟨congrArg PV.bool (by unfold othersB noTgs noRep noAp noFail; simp only [e1, e2, e3, e4, e5, f49, f50, f51, f52, f53, f54, f55, f56, f57, f58, f59, Bool.and_true, Bool.true_and, Bool.or_false, Bool.false_or, Bool.true_or, Bool.or_true, Bool.and_false, Bool.false_and]), _, rfl⟩
  have f59 : decide (m.pAu.length = 0) = true := decide_eq_true (Iff.mp nat0 h)
  (conv => whnf)
  refine ⟨fun h => ?_, fun h => ?_⟩
  · exact (n5 h).elim
  (conv => whnf)
  refine ⟨⟨fitF _ _, fitF 0 0⟩, ?_⟩
  (conv => whnf)
  refine ⟨fun h => ?_, fun h => ?_⟩
  rotate_left
  · have f60 : decide (m.fErr = 0 ∧ m.fNonce = 0) = false := decide_eq_false fun hh => h (Iff.mpr fl_eq hh)
    (conv => whnf)
    exact ⟨congrArg PV.bool (by unfold othersB noTgs noRep noAp noFail; simp only [e1, e2, e3, e4, e5, f49, f50, f51, f52, f53, f54, f55, f56, f57, f58, f59, f60, Bool.and_true, Bool.true_and, Bool.or_false, Bool.false_or, Bool.true_or, Bool.or_true, Bool.and_false, Bool.false_and]), _, rfl⟩
  have f60 : decide (m.fErr = 0 ∧ m.fNonce = 0) = true := decide_eq_true (Iff.mp fl_eq h)
  (conv => whnf)
  exact ⟨congrArg PV.bool (by unfold othersB noTgs noRep noAp noFail; simp only [e1, e2, e3, e4, e5, f49, f50, f51, f52, f53, f54, f55, f56, f57, f58, f59, f60, Bool.and_true, Bool.true_and, Bool.or_false, Bool.false_or, Bool.true_or, Bool.or_true, Bool.and_false, Bool.false_and]), _, rfl⟩
theorem c163 (m : Msg) : Pure prog 163 [.agg m.cells] (.bool (othersB m)) := Pure.of_gc rfl (c163x m)
end Go.Proofs.Tryz

set_option maxRecDepth 100000
set_option linter.unusedVariables false
set_option linter.unusedSimpArgs false
namespace Go.Proofs.Tryz
open Go Ps
def Msg.fits (m : Msg) : Prop := m.a1.length ≤ 1099511620000 ∧ m.a2.length ≤ 1099511620000 ∧ m.a3.length ≤ 1099511620000 ∧ m.a4.length ≤ 1099511620000 ∧ m.t1.length ≤ 1099511620000 ∧ m.t2.length ≤ 1099511620000 ∧ m.t3.length ≤ 1099511620000 ∧ m.t4.length ≤ 1099511620000 ∧ m.r1.length ≤ 1099511620000 ∧ m.r2.length ≤ 1099511620000 ∧ m.r3.length ≤ 1099511620000 ∧ m.r4.length ≤ 1099511620000 ∧ m.p1.length ≤ 1099511620000 ∧ m.p2.length ≤ 1099511620000
def isB (m : Msg) : Bool :=
  (if m.kind = 1 then isPrincB m.a1 m.a2 && isPrincB m.a3 m.a4 && inZ m.aTill 0 1073741824 && inZ m.aNonce 0 1073741824
   else if m.kind = 2 then tickB m.t1 m.t2 m.tKv m.tB.length && inZ m.tAu.length 1 800 && isPrincB m.t3 m.t4 && inZ m.tTill 0 1073741824 && inZ m.tNonce 0 1073741824
   else if m.kind = 3 then isPrincB m.r1 m.r2 && tickB m.r3 m.r4 m.rKv m.rB.length && inZ m.rBl.length 1 800
   else if m.kind = 4 then tickB m.p1 m.p2 m.pKv m.pB.length && inZ m.pAu.length 1 800
   else if m.kind = 5 then inZ m.fErr 1 255 && inZ m.fNonce 0 1073741824
   else false) && othersB m
/-- The same of no owner. -/
def Msg.d (m : Msg) : Msg := { m with tBo := none, tAuo := none, rBo := none, rBlo := none, pBo := none, pAuo := none }
theorem od {m : Msg} : othersB m.d = othersB m := rfl
theorem c158a (n : Int) : Pure prog 158 [.slice 1 [.int .i64 n] none] (.bool (inZ n 0 1073741824)) := (c158 [n] (by show 1 ≤ _; omega)).of_eq (by show PV.bool (inZ n 0 1073741824 && true) = _; rw [Bool.and_true])
theorem c102x (m : Msg) (hm : m.fits) (H : PH) : CallOk prog 102 [.agg m.cells] H fun r H' => r = .bool (isB m) ∧ ∃ ext, H' = H ++ ext := by
  (refine callOk_of_pFun2 (tt := ttG) (imm := imm102) follows ttG_ok depth6 func102 (by kernel_rfl) ?_; (conv => whnf))
  (conv => whnf)
  by_cases h1 : m.kind = 1
  · have hk := h1
    have n2 : ¬ m.kind = 2 := by omega
    have n3 : ¬ m.kind = 3 := by omega
    have n4 : ¬ m.kind = 4 := by omega
    have n5 : ¬ m.kind = 5 := by omega
    refine ⟨fun h => ?_, fun h => ?_⟩
    rotate_left
    · exact (h hk).elim
    (conv => whnf)
    ((conv in (_[_]?) => tactic => exact get_last _ _); (conv => whnf))
    ((conv in (_[_]?) => tactic => exact get_set (get_last _ _)); (conv => whnf))
    refine callK_pure (c97 m.a1 m.a2 (by have := hm.1; omega) (by have := hm.2.1; omega)) ?_
    cases f1 : isPrincB m.a1 m.a2
    · (conv => whnf)
      exact ⟨congrArg PV.bool (by unfold isB; rw [if_pos hk]; simp only [f1, od, Bool.and_true, Bool.true_and, Bool.and_false, Bool.false_and]), (Ext.refl _).push _ |>.set (Ext.refl _).len _⟩
    (conv => whnf)
    ((conv in (_[_]?) => tactic => exact get_set (get_last _ _)); (conv => whnf))
    refine callK_pure (c97 m.a3 m.a4 (by have := hm.2.2.1; omega) (by have := hm.2.2.2.1; omega)) ?_
    cases f2 : isPrincB m.a3 m.a4
    · (conv => whnf)
      exact ⟨congrArg PV.bool (by unfold isB; rw [if_pos hk]; simp only [f1, f2, od, Bool.and_true, Bool.true_and, Bool.and_false, Bool.false_and]), (Ext.refl _).push _ |>.set (Ext.refl _).len _⟩
    (conv => whnf)
    ((conv in (_[_]?) => tactic => exact get_set (get_last _ _)); (conv => whnf))
    refine callK_pure (c158a m.aTill) ?_
    cases f3 : inZ m.aTill 0 1073741824
    · (conv => whnf)
      exact ⟨congrArg PV.bool (by unfold isB; rw [if_pos hk]; simp only [f1, f2, f3, od, Bool.and_true, Bool.true_and, Bool.and_false, Bool.false_and]), (Ext.refl _).push _ |>.set (Ext.refl _).len _⟩
    (conv => whnf)
    ((conv in (_[_]?) => tactic => exact get_set (get_last _ _)); (conv => whnf))
    refine callK_pure (c159 m.aNonce) ?_
    cases f4 : inZ m.aNonce 0 1073741824
    · (conv => whnf)
      exact ⟨congrArg PV.bool (by unfold isB; rw [if_pos hk]; simp only [f1, f2, f3, f4, od, Bool.and_true, Bool.true_and, Bool.and_false, Bool.false_and]), (Ext.refl _).push _ |>.set (Ext.refl _).len _⟩
    (conv => whnf)
    refine callK_pure (c163 m.d) ?_
    (conv => whnf)
    exact ⟨congrArg PV.bool (by unfold isB; rw [if_pos hk]; simp only [f1, f2, f3, f4, od, Bool.and_true, Bool.true_and, Bool.and_false, Bool.false_and]), (Ext.refl _).push _ |>.set (Ext.refl _).len _⟩
  by_cases h2 : m.kind = 2
  · have hk := h2
    have n1 : ¬ m.kind = 1 := by omega
    have n3 : ¬ m.kind = 3 := by omega
    have n4 : ¬ m.kind = 4 := by omega
    have n5 : ¬ m.kind = 5 := by omega
    refine ⟨fun h => ?_, fun h => ?_⟩
    · exact (n1 h).elim
    (conv => whnf)
    refine ⟨fun h => ?_, fun h => ?_⟩
    rotate_left
    · exact (h hk).elim
    (conv => whnf)
    ((conv in (_[_]?) => tactic => exact get_last _ _); (conv => whnf))
    ((conv in (_[_]?) => tactic => exact get_set (get_last _ _)); (conv => whnf))
    refine callK_pure (c160 m.t1 m.t2 m.tKv m.tB none (by have := hm.2.2.2.2.1; omega) (by have := hm.2.2.2.2.2.1; omega)) ?_
    cases f5 : tickB m.t1 m.t2 m.tKv m.tB.length
    · (conv => whnf)
      exact ⟨congrArg PV.bool (by unfold isB; rw [if_neg n1]; rw [if_pos hk]; simp only [f5, od, Bool.and_true, Bool.true_and, Bool.and_false, Bool.false_and]), (Ext.refl _).push _ |>.set (Ext.refl _).len _⟩
    (conv => whnf)
    ((conv in (_[_]?) => tactic => exact get_set (get_last _ _)); (conv => whnf))
    refine callK_pure (c161 m.tAu.length _ _) ?_
    cases f6 : inZ m.tAu.length 1 800
    · (conv => whnf)
      exact ⟨congrArg PV.bool (by unfold isB; rw [if_neg n1]; rw [if_pos hk]; simp only [f5, f6, od, Bool.and_true, Bool.true_and, Bool.and_false, Bool.false_and]), (Ext.refl _).push _ |>.set (Ext.refl _).len _⟩
    (conv => whnf)
    ((conv in (_[_]?) => tactic => exact get_set (get_last _ _)); (conv => whnf))
    refine callK_pure (c97 m.t3 m.t4 (by have := hm.2.2.2.2.2.2.1; omega) (by have := hm.2.2.2.2.2.2.2.1; omega)) ?_
    cases f7 : isPrincB m.t3 m.t4
    · (conv => whnf)
      exact ⟨congrArg PV.bool (by unfold isB; rw [if_neg n1]; rw [if_pos hk]; simp only [f5, f6, f7, od, Bool.and_true, Bool.true_and, Bool.and_false, Bool.false_and]), (Ext.refl _).push _ |>.set (Ext.refl _).len _⟩
    (conv => whnf)
    ((conv in (_[_]?) => tactic => exact get_set (get_last _ _)); (conv => whnf))
    refine callK_pure (c158a m.tTill) ?_
    cases f8 : inZ m.tTill 0 1073741824
    · (conv => whnf)
      exact ⟨congrArg PV.bool (by unfold isB; rw [if_neg n1]; rw [if_pos hk]; simp only [f5, f6, f7, f8, od, Bool.and_true, Bool.true_and, Bool.and_false, Bool.false_and]), (Ext.refl _).push _ |>.set (Ext.refl _).len _⟩
    (conv => whnf)
    ((conv in (_[_]?) => tactic => exact get_set (get_last _ _)); (conv => whnf))
    refine callK_pure (c159 m.tNonce) ?_
    cases f9 : inZ m.tNonce 0 1073741824
    · (conv => whnf)
      exact ⟨congrArg PV.bool (by unfold isB; rw [if_neg n1]; rw [if_pos hk]; simp only [f5, f6, f7, f8, f9, od, Bool.and_true, Bool.true_and, Bool.and_false, Bool.false_and]), (Ext.refl _).push _ |>.set (Ext.refl _).len _⟩
    (conv => whnf)
    refine callK_pure (c163 m.d) ?_
    (conv => whnf)
    exact ⟨congrArg PV.bool (by unfold isB; rw [if_neg n1]; rw [if_pos hk]; simp only [f5, f6, f7, f8, f9, od, Bool.and_true, Bool.true_and, Bool.and_false, Bool.false_and]), (Ext.refl _).push _ |>.set (Ext.refl _).len _⟩
  by_cases h3 : m.kind = 3
  · have hk := h3
    have n1 : ¬ m.kind = 1 := by omega
    have n2 : ¬ m.kind = 2 := by omega
    have n4 : ¬ m.kind = 4 := by omega
    have n5 : ¬ m.kind = 5 := by omega
    refine ⟨fun h => ?_, fun h => ?_⟩
    · exact (n1 h).elim
    (conv => whnf)
    refine ⟨fun h => ?_, fun h => ?_⟩
    · exact (n2 h).elim
    (conv => whnf)
    refine ⟨fun h => ?_, fun h => ?_⟩
    rotate_left
    · exact (h hk).elim
    (conv => whnf)
    refine callK_pure (c97 m.r1 m.r2 (by have := hm.2.2.2.2.2.2.2.2.1; omega) (by have := hm.2.2.2.2.2.2.2.2.2.1; omega)) ?_
    cases f10 : isPrincB m.r1 m.r2
    · (conv => whnf)
      exact ⟨congrArg PV.bool (by unfold isB; rw [if_neg n1]; rw [if_neg n2]; rw [if_pos hk]; simp only [f10, od, Bool.and_true, Bool.true_and, Bool.and_false, Bool.false_and]), Ext.refl _⟩
    (conv => whnf)
    refine callK_pure (c160 m.r3 m.r4 m.rKv m.rB none (by have := hm.2.2.2.2.2.2.2.2.2.2.1; omega) (by have := hm.2.2.2.2.2.2.2.2.2.2.2.1; omega)) ?_
    cases f11 : tickB m.r3 m.r4 m.rKv m.rB.length
    · (conv => whnf)
      exact ⟨congrArg PV.bool (by unfold isB; rw [if_neg n1]; rw [if_neg n2]; rw [if_pos hk]; simp only [f10, f11, od, Bool.and_true, Bool.true_and, Bool.and_false, Bool.false_and]), Ext.refl _⟩
    (conv => whnf)
    refine callK_pure (c161 m.rBl.length _ _) ?_
    cases f12 : inZ m.rBl.length 1 800
    · (conv => whnf)
      exact ⟨congrArg PV.bool (by unfold isB; rw [if_neg n1]; rw [if_neg n2]; rw [if_pos hk]; simp only [f10, f11, f12, od, Bool.and_true, Bool.true_and, Bool.and_false, Bool.false_and]), Ext.refl _⟩
    (conv => whnf)
    refine callK_pure (c163 m.d) ?_
    (conv => whnf)
    exact ⟨congrArg PV.bool (by unfold isB; rw [if_neg n1]; rw [if_neg n2]; rw [if_pos hk]; simp only [f10, f11, f12, od, Bool.and_true, Bool.true_and, Bool.and_false, Bool.false_and]), Ext.refl _⟩
  by_cases h4 : m.kind = 4
  · have hk := h4
    have n1 : ¬ m.kind = 1 := by omega
    have n2 : ¬ m.kind = 2 := by omega
    have n3 : ¬ m.kind = 3 := by omega
    have n5 : ¬ m.kind = 5 := by omega
    refine ⟨fun h => ?_, fun h => ?_⟩
    · exact (n1 h).elim
    (conv => whnf)
    refine ⟨fun h => ?_, fun h => ?_⟩
    · exact (n2 h).elim
    (conv => whnf)
    refine ⟨fun h => ?_, fun h => ?_⟩
    · exact (n3 h).elim
    (conv => whnf)
    refine ⟨fun h => ?_, fun h => ?_⟩
    rotate_left
    · exact (h hk).elim
    (conv => whnf)
    refine callK_pure (c160 m.p1 m.p2 m.pKv m.pB none (by have := hm.2.2.2.2.2.2.2.2.2.2.2.2.1; omega) (by have := hm.2.2.2.2.2.2.2.2.2.2.2.2.2; omega)) ?_
    cases f13 : tickB m.p1 m.p2 m.pKv m.pB.length
    · (conv => whnf)
      exact ⟨congrArg PV.bool (by unfold isB; rw [if_neg n1]; rw [if_neg n2]; rw [if_neg n3]; rw [if_pos hk]; simp only [f13, od, Bool.and_true, Bool.true_and, Bool.and_false, Bool.false_and]), Ext.refl _⟩
    (conv => whnf)
    refine callK_pure (c161 m.pAu.length _ _) ?_
    cases f14 : inZ m.pAu.length 1 800
    · (conv => whnf)
      exact ⟨congrArg PV.bool (by unfold isB; rw [if_neg n1]; rw [if_neg n2]; rw [if_neg n3]; rw [if_pos hk]; simp only [f13, f14, od, Bool.and_true, Bool.true_and, Bool.and_false, Bool.false_and]), Ext.refl _⟩
    (conv => whnf)
    refine callK_pure (c163 m.d) ?_
    (conv => whnf)
    exact ⟨congrArg PV.bool (by unfold isB; rw [if_neg n1]; rw [if_neg n2]; rw [if_neg n3]; rw [if_pos hk]; simp only [f13, f14, od, Bool.and_true, Bool.true_and, Bool.and_false, Bool.false_and]), Ext.refl _⟩
  by_cases h5 : m.kind = 5
  · have hk := h5
    have n1 : ¬ m.kind = 1 := by omega
    have n2 : ¬ m.kind = 2 := by omega
    have n3 : ¬ m.kind = 3 := by omega
    have n4 : ¬ m.kind = 4 := by omega
    refine ⟨fun h => ?_, fun h => ?_⟩
    · exact (n1 h).elim
    (conv => whnf)
    refine ⟨fun h => ?_, fun h => ?_⟩
    · exact (n2 h).elim
    (conv => whnf)
    refine ⟨fun h => ?_, fun h => ?_⟩
    · exact (n3 h).elim
    (conv => whnf)
    refine ⟨fun h => ?_, fun h => ?_⟩
    · exact (n4 h).elim
    (conv => whnf)
    refine ⟨fun h => ?_, fun h => ?_⟩
    rotate_left
    · exact (h hk).elim
    (conv => whnf)
    refine callK_pure (c162 m.fErr 1 255) ?_
    cases f15 : inZ m.fErr 1 255
    · (conv => whnf)
      exact ⟨congrArg PV.bool (by unfold isB; rw [if_neg n1]; rw [if_neg n2]; rw [if_neg n3]; rw [if_neg n4]; rw [if_pos hk]; simp only [f15, od, Bool.and_true, Bool.true_and, Bool.and_false, Bool.false_and]), Ext.refl _⟩
    (conv => whnf)
    refine callK_pure (c159 m.fNonce) ?_
    cases f16 : inZ m.fNonce 0 1073741824
    · (conv => whnf)
      exact ⟨congrArg PV.bool (by unfold isB; rw [if_neg n1]; rw [if_neg n2]; rw [if_neg n3]; rw [if_neg n4]; rw [if_pos hk]; simp only [f15, f16, od, Bool.and_true, Bool.true_and, Bool.and_false, Bool.false_and]), Ext.refl _⟩
    (conv => whnf)
    refine callK_pure (c163 m.d) ?_
    (conv => whnf)
    exact ⟨congrArg PV.bool (by unfold isB; rw [if_neg n1]; rw [if_neg n2]; rw [if_neg n3]; rw [if_neg n4]; rw [if_pos hk]; simp only [f15, f16, od, Bool.and_true, Bool.true_and, Bool.and_false, Bool.false_and]), Ext.refl _⟩
  have n1 : ¬ m.kind = 1 := h1
  have n2 : ¬ m.kind = 2 := h2
  have n3 : ¬ m.kind = 3 := h3
  have n4 : ¬ m.kind = 4 := h4
  have n5 : ¬ m.kind = 5 := h5
  refine ⟨fun h => ?_, fun h => ?_⟩
  · exact (n1 h).elim
  (conv => whnf)
  refine ⟨fun h => ?_, fun h => ?_⟩
  · exact (n2 h).elim
  (conv => whnf)
  refine ⟨fun h => ?_, fun h => ?_⟩
  · exact (n3 h).elim
  (conv => whnf)
  refine ⟨fun h => ?_, fun h => ?_⟩
  · exact (n4 h).elim
  (conv => whnf)
  refine ⟨fun h => ?_, fun h => ?_⟩
  · exact (n5 h).elim
  (conv => whnf)
  exact ⟨congrArg PV.bool (by unfold isB; rw [if_neg n1]; rw [if_neg n2]; rw [if_neg n3]; rw [if_neg n4]; rw [if_neg n5]; simp only [od, Bool.and_true, Bool.true_and, Bool.and_false, Bool.false_and]), Ext.refl _⟩
theorem c102 (m : Msg) (hm : m.fits) : Pure prog 102 [.agg m.cells] (.bool (isB m)) := Pure.of_gc rfl (c102x m hm)
end Go.Proofs.Tryz

set_option maxRecDepth 100000
set_option linter.unusedVariables false
set_option linter.unusedSimpArgs false
namespace Go.Proofs.Tryz
open Go Ps
end Go.Proofs.Tryz

set_option maxRecDepth 100000
set_option maxHeartbeats 2000000
set_option linter.unusedVariables false
set_option linter.unusedSimpArgs false
namespace Go.Proofs.Tryz
open Go Ps
end Go.Proofs.Tryz

set_option maxRecDepth 100000
set_option maxHeartbeats 2000000
set_option linter.unusedVariables false
set_option linter.unusedSimpArgs false
namespace Go.Proofs.Tryz
open Go Ps
theorem splitB_sum (c : UInt8) : ∀ (s : List UInt8), ((splitB c s).map (fun x => x.length + 1)).sum = s.length + 1
  | [] => by simp [splitB]
  | x :: s => by
    have ih := splitB_sum c s
    have hne : splitB c s ≠ [] := fun e => by rw [e] at ih; simp at ih
    simp only [splitB]
    split
    · simp [ih]; omega
    · cases hs : splitB c s with
      | nil => exact absurd hs hne
      | cons a l => rw [hs] at ih; simp at ih ⊢; omega
theorem sum_le (k : Nat) : ∀ (l : List (List UInt8)), (∀ x ∈ l, x.length ≤ k) → (l.map (fun x => x.length + 1)).sum ≤ l.length * (k + 1)
  | [], _ => by simp
  | a :: l, h => by
    have := sum_le k l fun x hx => h x (List.mem_cons_of_mem _ hx)
    have := h a List.mem_cons_self
    simp only [List.map_cons, List.sum_cons, List.length_cons, Nat.add_mul]; omega
theorem badL_len {c : UInt8} {s : List UInt8} (h : badL (splitB c s) = false) : s.length ≤ 35 := by
  unfold badL at h
  rw [Bool.or_eq_false_iff] at h
  have h1 : (splitB c s).length ≤ 4 := by have := of_decide_eq_false h.1; omega
  have h2 := sum_le 8 (splitB c s) fun x hx => by
    have := List.any_eq_false.1 h.2 x hx
    have : isWordB x upperB = true := by simpa using this
    unfold isWordB at this
    rw [Bool.and_eq_true, Bool.and_eq_true] at this
    exact of_decide_eq_true this.2.1
  rw [splitB_sum] at h2
  have : (splitB c s).length * (8 + 1) ≤ 4 * (8 + 1) := Nat.mul_le_mul_right _ h1
  omega
theorem realm_len {r : List UInt8} (h : isRealmB r = true) : r.length ≤ 36 := by
  replace h : (labelsB r).1 ≠ 0 := of_decide_eq_true h
  unfold labelsB at h
  split at h
  · split at h
    · exact absurd rfl h
    · rename_i t hb
      have := badL_len (c := 47) (s := t) (by simpa using hb)
      simp; omega
  · split at h
    · exact absurd rfl h
    · rename_i hb
      have := badL_len (c := 46) (s := r) (by simpa using hb)
      omega
theorem princ_len {r n : List UInt8} (h : isPrincB r n = true) : r.length ≤ 36 ∧ n.length ≤ 43 := by
  unfold isPrincB at h
  rw [Bool.and_eq_true, Bool.or_eq_true] at h
  refine ⟨realm_len h.1, ?_⟩
  rcases h.2 with h2 | h2
  · unfold targetB at h2
    split at h2
    · rename_i hc
      rw [Bool.and_eq_true] at hc
      have := realm_len hc.2
      rw [List.length_drop] at this
      omega
    · cases h2
  · unfold isWordB at h2
    rw [Bool.and_eq_true, Bool.and_eq_true] at h2
    have := of_decide_eq_true h2.2.1
    omega
theorem inZ_le {n lo hi : Int} (h : inZ n lo hi = true) : lo ≤ n ∧ n ≤ hi := by
  unfold inZ at h
  rw [Bool.and_eq_true] at h
  exact ⟨of_decide_eq_true h.1, of_decide_eq_true h.2⟩
theorem tick_len {r n : List UInt8} {kv : Int} {k : Nat} (h : tickB r n kv k = true) : r.length ≤ 36 ∧ n.length ≤ 43 ∧ k ≤ 800 := by
  unfold tickB at h
  rw [Bool.and_eq_true, Bool.and_eq_true] at h
  have h1 := princ_len h.1.1
  have h2 := inZ_le h.2
  exact ⟨h1.1, h1.2, by omega⟩
theorem wrapB_len (t : UInt8) (b : List UInt8) : (wrapB t b).length ≤ b.length + 4 := by
  have := lenB_len b.length
  unfold wrapB
  simp; omega
def princE (r n : List UInt8) : List UInt8 := wrapB 48 [wrapB 27 r, wrapB 27 n].flatten
def intE (n : Int) : List UInt8 := wrapB 2 (intB (clampI n))
def ticketE (r n : List UInt8) (kv : Int) (b : List UInt8) : List UInt8 := wrapB 97 [princE r n, intE kv, wrapB 4 b].flatten
theorem intE_len (n : Int) : (intE n).length ≤ 14 := by
  have h1 := wrapB_len 2 (intB (clampI n))
  have h2 := le_len 9 (clampI n)
  have h3 : (intB (clampI n)).length ≤ 10 := by
    unfold intB padB
    rw [List.length_reverse]
    split
    · rw [List.length_append, List.length_singleton]; omega
    · omega
  unfold intE; omega
theorem princE_len (r n : List UInt8) : (princE r n).length ≤ r.length + n.length + 12 := by
  have h := wrapB_len 48 [wrapB 27 r, wrapB 27 n].flatten
  have h1 := wrapB_len 27 r
  have h2 := wrapB_len 27 n
  simp only [List.flatten_cons, List.flatten_nil, List.length_append, List.length_nil] at h
  unfold princE; simp only [List.flatten_cons, List.flatten_nil] at h ⊢; omega
theorem ticketE_len (r n : List UInt8) (kv : Int) (b : List UInt8) : (ticketE r n kv b).length ≤ r.length + n.length + b.length + 34 := by
  have h := wrapB_len 97 [princE r n, intE kv, wrapB 4 b].flatten
  have h1 := princE_len r n
  have h2 := intE_len kv
  have h3 := wrapB_len 4 b
  simp only [List.flatten_cons, List.flatten_nil, List.length_append, List.length_nil] at h
  unfold ticketE; simp only [List.flatten_cons, List.flatten_nil] at h ⊢; omega
theorem c164p (tag : UInt8) (ls : List (List UInt8)) (hn : ls.length ≤ 1099511627776) (ht : ls.flatten.length ≤ 1099511627000) :
    Pure prog 164 [byteC tag, .slice ls.length (ls.map sl) none] (sl (wrapB tag ls.flatten)) := fun H => c164 tag ls hn ht (Reps.sl H ls)
theorem c168p (p : List UInt8) (hp : p.length ≤ 1099511627000) : Pure prog 168 [sl p] (sl (wrapB 4 p)) := fun H => c168 p hp H
theorem c170p (p : List UInt8) (hp : p.length ≤ 1099511627000) : Pure prog 170 [.str p] (sl (wrapB 27 p)) := fun H => c170 p hp H
def limV (ok : Bool) (b : List UInt8) : PV := if ok = true ∧ b.length ≤ 2000 then .tup [sl b, .int .i64 0] else .tup [.slice 0 [] (some 5), .int .i64 1]
theorem c103 (ok : Bool) (b : List UInt8) : Pure prog 103 [.bool ok, sl b] (limV ok b) := by
  intro H
  (refine callOk_of_pFun2 (tt := ttG) (imm := imm103) follows ttG_ok depth6 func103 (by kernel_rfl) ?_; (conv => whnf))
  cases ok
  · (conv => whnf)
    exact ⟨by unfold limV; rw [if_neg (by simp)]; rfl, rfl⟩
  · (conv => whnf)
    refine ⟨fun h => ?_, fun h => ?_⟩
    · (conv => whnf)
      have h : (2000 : Int) < (b.length : Int) := h
      exact ⟨by unfold limV; rw [if_neg (by omega)]; rfl, rfl⟩
    · (conv => whnf)
      have h : ¬ (2000 : Int) < (b.length : Int) := h
      exact ⟨by unfold limV; rw [if_pos ⟨rfl, by omega⟩]; rfl, rfl⟩
theorem c165 (r n : List UInt8) (hr : r.length ≤ 1000000) (hn : n.length ≤ 1000000) : Pure prog 165 [.agg [.str r, .str n]] (sl (princE r n)) := by
  intro H
  have h1 := wrapB_len 27 r
  have h2 := wrapB_len 27 n
  (refine callOk_of_pFun2 (tt := ttG) (imm := imm165) follows ttG_ok depth6 func165 (by kernel_rfl) ?_; (conv => whnf))
  refine drawK_pure2 (by kernel_rfl) ?_
  (conv => whnf)
  iterate 2 (apply Exists.intro; apply And.intro; (focus ((conv => whnf); first | exact ⟨rfl, rfl, trivial⟩ | (refine ⟨by omega, ?_⟩; (conv => whnf); exact ⟨rfl, rfl, trivial⟩))); (conv => whnf))
  refine ⟨_, callK_pure (c170p r (by omega)) ⟨rfl, rfl, trivial⟩, ?_⟩
  (conv => whnf)
  iterate 2 (apply Exists.intro; apply And.intro; (focus ((conv => whnf); first | exact ⟨rfl, rfl, trivial⟩ | (refine ⟨by omega, ?_⟩; (conv => whnf); exact ⟨rfl, rfl, trivial⟩))); (conv => whnf))
  refine ⟨_, callK_pure (c170p n (by omega)) ⟨rfl, rfl, trivial⟩, ?_⟩
  (conv => whnf)
  (apply Exists.intro; apply And.intro; (focus ((conv => whnf); first | exact ⟨rfl, rfl, trivial⟩ | (refine ⟨by omega, ?_⟩; (conv => whnf); exact ⟨rfl, rfl, trivial⟩))); (conv => whnf))
  refine ⟨_, callK_pure (c164p 48 [wrapB 27 r, wrapB 27 n] (by simp) (by simp only [List.flatten_cons, List.flatten_nil, List.length_append, List.length_nil]; omega)) ⟨rfl, rfl, trivial⟩, ?_⟩
  (conv => whnf)
  (apply Exists.intro; apply And.intro; (focus ((conv => whnf); first | exact ⟨rfl, rfl, trivial⟩ | (refine ⟨by omega, ?_⟩; (conv => whnf); exact ⟨rfl, rfl, trivial⟩))); (conv => whnf))
  exact ⟨rfl, rfl⟩
theorem c167 (r n : List UInt8) (kv : Int) (b : List UInt8) (o : Option Nat) (hr : r.length ≤ 1000000) (hn : n.length ≤ 1000000) (hb : b.length ≤ 1000000) : Pure prog 167 [.agg [.str r, .str n, .int .i64 kv, slo b o]] (sl (ticketE r n kv b)) := by
  intro H
  have h1 := princE_len r n
  have h2 := intE_len kv
  have h3 := wrapB_len 4 b
  (refine callOk_of_pFun2 (tt := ttG) (imm := imm167) follows ttG_ok depth6 func167 (by kernel_rfl) ?_; (conv => whnf))
  refine drawK_pure2 (by kernel_rfl) ?_
  (conv => whnf)
  iterate 2 (apply Exists.intro; apply And.intro; (focus ((conv => whnf); first | exact ⟨rfl, rfl, trivial⟩ | (refine ⟨by omega, ?_⟩; (conv => whnf); exact ⟨rfl, rfl, trivial⟩))); (conv => whnf))
  refine ⟨_, callK_pure (c165 r n hr hn) ⟨rfl, rfl, trivial⟩, ?_⟩
  (conv => whnf)
  iterate 2 (apply Exists.intro; apply And.intro; (focus ((conv => whnf); first | exact ⟨rfl, rfl, trivial⟩ | (refine ⟨by omega, ?_⟩; (conv => whnf); exact ⟨rfl, rfl, trivial⟩))); (conv => whnf))
  refine ⟨_, callK_pure (c166 kv) ⟨rfl, rfl, trivial⟩, ?_⟩
  (conv => whnf)
  iterate 2 (apply Exists.intro; apply And.intro; (focus ((conv => whnf); first | exact ⟨rfl, rfl, trivial⟩ | (refine ⟨by omega, ?_⟩; (conv => whnf); exact ⟨rfl, rfl, trivial⟩))); (conv => whnf))
  refine ⟨_, callK_pure (c168p b (by omega)) ⟨rfl, rfl, trivial⟩, ?_⟩
  (conv => whnf)
  (apply Exists.intro; apply And.intro; (focus ((conv => whnf); first | exact ⟨rfl, rfl, trivial⟩ | (refine ⟨by omega, ?_⟩; (conv => whnf); exact ⟨rfl, rfl, trivial⟩))); (conv => whnf))
  refine ⟨_, callK_pure (c164p 97 [princE r n, intE kv, wrapB 4 b] (by simp) (by simp only [List.flatten_cons, List.flatten_nil, List.length_append, List.length_nil]; omega)) ⟨rfl, rfl, trivial⟩, ?_⟩
  (conv => whnf)
  (apply Exists.intro; apply And.intro; (focus ((conv => whnf); first | exact ⟨rfl, rfl, trivial⟩ | (refine ⟨by omega, ?_⟩; (conv => whnf); exact ⟨rfl, rfl, trivial⟩))); (conv => whnf))
  exact ⟨rfl, rfl⟩
def laidB (m : Msg) : List UInt8 :=
  if m.kind = 1 then wrapB 106 [princE m.a1 m.a2, princE m.a3 m.a4, intE m.aTill, intE m.aNonce].flatten
  else if m.kind = 2 then wrapB 108 [ticketE m.t1 m.t2 m.tKv m.tB, wrapB 4 m.tAu, princE m.t3 m.t4, intE m.tTill, intE m.tNonce].flatten
  else if m.kind = 3 then wrapB 107 [princE m.r1 m.r2, ticketE m.r3 m.r4 m.rKv m.rB, wrapB 4 m.rBl].flatten
  else if m.kind = 4 then wrapB 110 [ticketE m.p1 m.p2 m.pKv m.pB, wrapB 4 m.pAu].flatten
  else wrapB 126 [intE m.fErr, intE m.fNonce].flatten
theorem c104x (m : Msg) (hm : isB m = true) (H : PH) : CallOk prog 104 [.agg m.cells] H fun r H' => r = sl (laidB m) ∧ ∃ ext, H' = H ++ ext := by
  have hm := (Bool.and_eq_true _ _ ▸ hm : _ ∧ _).1
  (refine callOk_of_pFun2 (tt := ttG) (imm := imm104) follows ttG_ok depth6 func104 (by kernel_rfl) ?_; (conv => whnf))
  (conv => whnf)
  by_cases h1 : m.kind = 1
  · have hk := h1
    have n2 : ¬ m.kind = 2 := by omega
    have n3 : ¬ m.kind = 3 := by omega
    have n4 : ¬ m.kind = 4 := by omega
    have n5 : ¬ m.kind = 5 := by omega
    rw [if_pos hk] at hm
    simp only [Bool.and_eq_true] at hm
    have g1 := princ_len hm.1.1.1
    have g2 := princ_len hm.1.1.2
    have g3 := princE_len m.a1 m.a2
    have g4 := princE_len m.a3 m.a4
    have g5 := intE_len m.aTill
    have g6 := intE_len m.aNonce
    refine ⟨fun h => ?_, fun h => ?_⟩
    rotate_left
    · exact (h hk).elim
    (conv => whnf)
    ((conv in (_[_]?) => tactic => exact get_last _ _); (conv => whnf))
    refine drawK_pure2 (by kernel_rfl) ?_
    (conv => whnf)
    (apply Exists.intro; apply And.intro; (focus ((conv => whnf); first | exact ⟨rfl, rfl, trivial⟩ | (refine ⟨by omega, ?_⟩; (conv => whnf); exact ⟨rfl, rfl, trivial⟩))); (conv => whnf))
    apply Exists.intro
    apply And.intro
    focus
      (conv => whnf)
      ((conv in (_[_]?) => tactic => exact get_set (get_last _ _)); (conv => whnf))
      exact ⟨rfl, rfl, trivial⟩
    (conv => whnf)
    refine ⟨_, callK_pure (c165 m.a1 m.a2 (by omega) (by omega)) ⟨rfl, rfl, trivial⟩, ?_⟩
    (conv => whnf)
    (apply Exists.intro; apply And.intro; (focus ((conv => whnf); first | exact ⟨rfl, rfl, trivial⟩ | (refine ⟨by omega, ?_⟩; (conv => whnf); exact ⟨rfl, rfl, trivial⟩))); (conv => whnf))
    apply Exists.intro
    apply And.intro
    focus
      (conv => whnf)
      ((conv in (_[_]?) => tactic => exact get_set (get_last _ _)); (conv => whnf))
      exact ⟨rfl, rfl, trivial⟩
    (conv => whnf)
    refine ⟨_, callK_pure (c165 m.a3 m.a4 (by omega) (by omega)) ⟨rfl, rfl, trivial⟩, ?_⟩
    (conv => whnf)
    (apply Exists.intro; apply And.intro; (focus ((conv => whnf); first | exact ⟨rfl, rfl, trivial⟩ | (refine ⟨by omega, ?_⟩; (conv => whnf); exact ⟨rfl, rfl, trivial⟩))); (conv => whnf))
    apply Exists.intro
    apply And.intro
    focus
      (conv => whnf)
      ((conv in (_[_]?) => tactic => exact get_set (get_last _ _)); (conv => whnf))
      exact ⟨rfl, rfl, trivial⟩
    (conv => whnf)
    refine ⟨_, callK_pure (c166 m.aTill) ⟨rfl, rfl, trivial⟩, ?_⟩
    (conv => whnf)
    (apply Exists.intro; apply And.intro; (focus ((conv => whnf); first | exact ⟨rfl, rfl, trivial⟩ | (refine ⟨by omega, ?_⟩; (conv => whnf); exact ⟨rfl, rfl, trivial⟩))); (conv => whnf))
    apply Exists.intro
    apply And.intro
    focus
      (conv => whnf)
      ((conv in (_[_]?) => tactic => exact get_set (get_last _ _)); (conv => whnf))
      exact ⟨rfl, rfl, trivial⟩
    (conv => whnf)
    refine ⟨_, callK_pure (c166 m.aNonce) ⟨rfl, rfl, trivial⟩, ?_⟩
    (conv => whnf)
    (apply Exists.intro; apply And.intro; (focus ((conv => whnf); first | exact ⟨rfl, rfl, trivial⟩ | (refine ⟨by omega, ?_⟩; (conv => whnf); exact ⟨rfl, rfl, trivial⟩))); (conv => whnf))
    refine ⟨_, callK_pure (c164p 106 [princE m.a1 m.a2, princE m.a3 m.a4, intE m.aTill, intE m.aNonce] (by simp) (by simp only [List.flatten_cons, List.flatten_nil, List.length_append, List.length_nil]; omega)) ⟨rfl, rfl, trivial⟩, ?_⟩
    (conv => whnf)
    (apply Exists.intro; apply And.intro; (focus ((conv => whnf); first | exact ⟨rfl, rfl, trivial⟩ | (refine ⟨by omega, ?_⟩; (conv => whnf); exact ⟨rfl, rfl, trivial⟩))); (conv => whnf))
    exact ⟨by unfold laidB; rw [if_pos hk]; rfl, (Ext.refl _).push _ |>.set (Ext.refl _).len _⟩
  by_cases h2 : m.kind = 2
  · have hk := h2
    have n1 : ¬ m.kind = 1 := by omega
    have n3 : ¬ m.kind = 3 := by omega
    have n4 : ¬ m.kind = 4 := by omega
    have n5 : ¬ m.kind = 5 := by omega
    rw [if_neg n1] at hm
    rw [if_pos hk] at hm
    simp only [Bool.and_eq_true] at hm
    have g1 := tick_len hm.1.1.1.1
    have g2 := inZ_le hm.1.1.1.2
    have g3 := princ_len hm.1.1.2
    have g4 := ticketE_len m.t1 m.t2 m.tKv m.tB
    have g5 := wrapB_len 4 m.tAu
    have g6 := princE_len m.t3 m.t4
    have g7 := intE_len m.tTill
    have g8 := intE_len m.tNonce
    refine ⟨fun h => ?_, fun h => ?_⟩
    · exact (n1 h).elim
    (conv => whnf)
    refine ⟨fun h => ?_, fun h => ?_⟩
    rotate_left
    · exact (h hk).elim
    (conv => whnf)
    ((conv in (_[_]?) => tactic => exact get_last _ _); (conv => whnf))
    refine drawK_pure2 (by kernel_rfl) ?_
    (conv => whnf)
    (apply Exists.intro; apply And.intro; (focus ((conv => whnf); first | exact ⟨rfl, rfl, trivial⟩ | (refine ⟨by omega, ?_⟩; (conv => whnf); exact ⟨rfl, rfl, trivial⟩))); (conv => whnf))
    apply Exists.intro
    apply And.intro
    focus
      (conv => whnf)
      ((conv in (_[_]?) => tactic => exact get_set (get_last _ _)); (conv => whnf))
      exact ⟨rfl, rfl, trivial⟩
    (conv => whnf)
    refine ⟨_, callK_pure (c167 m.t1 m.t2 m.tKv m.tB none (by omega) (by omega) (by omega)) ⟨rfl, rfl, trivial⟩, ?_⟩
    (conv => whnf)
    (apply Exists.intro; apply And.intro; (focus ((conv => whnf); first | exact ⟨rfl, rfl, trivial⟩ | (refine ⟨by omega, ?_⟩; (conv => whnf); exact ⟨rfl, rfl, trivial⟩))); (conv => whnf))
    apply Exists.intro
    apply And.intro
    focus
      (conv => whnf)
      ((conv in (_[_]?) => tactic => exact get_set (get_last _ _)); (conv => whnf))
      exact ⟨rfl, rfl, trivial⟩
    (conv => whnf)
    refine ⟨_, callK_pure (c168p m.tAu (by omega)) ⟨rfl, rfl, trivial⟩, ?_⟩
    (conv => whnf)
    (apply Exists.intro; apply And.intro; (focus ((conv => whnf); first | exact ⟨rfl, rfl, trivial⟩ | (refine ⟨by omega, ?_⟩; (conv => whnf); exact ⟨rfl, rfl, trivial⟩))); (conv => whnf))
    apply Exists.intro
    apply And.intro
    focus
      (conv => whnf)
      ((conv in (_[_]?) => tactic => exact get_set (get_last _ _)); (conv => whnf))
      exact ⟨rfl, rfl, trivial⟩
    (conv => whnf)
    refine ⟨_, callK_pure (c165 m.t3 m.t4 (by omega) (by omega)) ⟨rfl, rfl, trivial⟩, ?_⟩
    (conv => whnf)
    (apply Exists.intro; apply And.intro; (focus ((conv => whnf); first | exact ⟨rfl, rfl, trivial⟩ | (refine ⟨by omega, ?_⟩; (conv => whnf); exact ⟨rfl, rfl, trivial⟩))); (conv => whnf))
    apply Exists.intro
    apply And.intro
    focus
      (conv => whnf)
      ((conv in (_[_]?) => tactic => exact get_set (get_last _ _)); (conv => whnf))
      exact ⟨rfl, rfl, trivial⟩
    (conv => whnf)
    refine ⟨_, callK_pure (c166 m.tTill) ⟨rfl, rfl, trivial⟩, ?_⟩
    (conv => whnf)
    (apply Exists.intro; apply And.intro; (focus ((conv => whnf); first | exact ⟨rfl, rfl, trivial⟩ | (refine ⟨by omega, ?_⟩; (conv => whnf); exact ⟨rfl, rfl, trivial⟩))); (conv => whnf))
    apply Exists.intro
    apply And.intro
    focus
      (conv => whnf)
      ((conv in (_[_]?) => tactic => exact get_set (get_last _ _)); (conv => whnf))
      exact ⟨rfl, rfl, trivial⟩
    (conv => whnf)
    refine ⟨_, callK_pure (c166 m.tNonce) ⟨rfl, rfl, trivial⟩, ?_⟩
    (conv => whnf)
    (apply Exists.intro; apply And.intro; (focus ((conv => whnf); first | exact ⟨rfl, rfl, trivial⟩ | (refine ⟨by omega, ?_⟩; (conv => whnf); exact ⟨rfl, rfl, trivial⟩))); (conv => whnf))
    refine ⟨_, callK_pure (c164p 108 [ticketE m.t1 m.t2 m.tKv m.tB, wrapB 4 m.tAu, princE m.t3 m.t4, intE m.tTill, intE m.tNonce] (by simp) (by simp only [List.flatten_cons, List.flatten_nil, List.length_append, List.length_nil]; omega)) ⟨rfl, rfl, trivial⟩, ?_⟩
    (conv => whnf)
    (apply Exists.intro; apply And.intro; (focus ((conv => whnf); first | exact ⟨rfl, rfl, trivial⟩ | (refine ⟨by omega, ?_⟩; (conv => whnf); exact ⟨rfl, rfl, trivial⟩))); (conv => whnf))
    exact ⟨by unfold laidB; rw [if_neg n1]; rw [if_pos hk]; rfl, (Ext.refl _).push _ |>.set (Ext.refl _).len _⟩
  by_cases h3 : m.kind = 3
  · have hk := h3
    have n1 : ¬ m.kind = 1 := by omega
    have n2 : ¬ m.kind = 2 := by omega
    have n4 : ¬ m.kind = 4 := by omega
    have n5 : ¬ m.kind = 5 := by omega
    rw [if_neg n1] at hm
    rw [if_neg n2] at hm
    rw [if_pos hk] at hm
    simp only [Bool.and_eq_true] at hm
    have g1 := princ_len hm.1.1
    have g2 := tick_len hm.1.2
    have g3 := inZ_le hm.2
    have g4 := princE_len m.r1 m.r2
    have g5 := ticketE_len m.r3 m.r4 m.rKv m.rB
    have g6 := wrapB_len 4 m.rBl
    refine ⟨fun h => ?_, fun h => ?_⟩
    · exact (n1 h).elim
    (conv => whnf)
    refine ⟨fun h => ?_, fun h => ?_⟩
    · exact (n2 h).elim
    (conv => whnf)
    refine ⟨fun h => ?_, fun h => ?_⟩
    rotate_left
    · exact (h hk).elim
    (conv => whnf)
    refine drawK_pure2 (by kernel_rfl) ?_
    (conv => whnf)
    iterate 3 (apply Exists.intro; apply And.intro; (focus ((conv => whnf); first | exact ⟨rfl, rfl, trivial⟩ | (refine ⟨by omega, ?_⟩; (conv => whnf); exact ⟨rfl, rfl, trivial⟩))); (conv => whnf))
    refine ⟨_, callK_pure (c165 m.r1 m.r2 (by omega) (by omega)) ⟨rfl, rfl, trivial⟩, ?_⟩
    (conv => whnf)
    iterate 3 (apply Exists.intro; apply And.intro; (focus ((conv => whnf); first | exact ⟨rfl, rfl, trivial⟩ | (refine ⟨by omega, ?_⟩; (conv => whnf); exact ⟨rfl, rfl, trivial⟩))); (conv => whnf))
    refine ⟨_, callK_pure (c167 m.r3 m.r4 m.rKv m.rB none (by omega) (by omega) (by omega)) ⟨rfl, rfl, trivial⟩, ?_⟩
    (conv => whnf)
    iterate 3 (apply Exists.intro; apply And.intro; (focus ((conv => whnf); first | exact ⟨rfl, rfl, trivial⟩ | (refine ⟨by omega, ?_⟩; (conv => whnf); exact ⟨rfl, rfl, trivial⟩))); (conv => whnf))
    refine ⟨_, callK_pure (c168p m.rBl (by omega)) ⟨rfl, rfl, trivial⟩, ?_⟩
    (conv => whnf)
    (apply Exists.intro; apply And.intro; (focus ((conv => whnf); first | exact ⟨rfl, rfl, trivial⟩ | (refine ⟨by omega, ?_⟩; (conv => whnf); exact ⟨rfl, rfl, trivial⟩))); (conv => whnf))
    refine ⟨_, callK_pure (c164p 107 [princE m.r1 m.r2, ticketE m.r3 m.r4 m.rKv m.rB, wrapB 4 m.rBl] (by simp) (by simp only [List.flatten_cons, List.flatten_nil, List.length_append, List.length_nil]; omega)) ⟨rfl, rfl, trivial⟩, ?_⟩
    (conv => whnf)
    (apply Exists.intro; apply And.intro; (focus ((conv => whnf); first | exact ⟨rfl, rfl, trivial⟩ | (refine ⟨by omega, ?_⟩; (conv => whnf); exact ⟨rfl, rfl, trivial⟩))); (conv => whnf))
    exact ⟨by unfold laidB; rw [if_neg n1]; rw [if_neg n2]; rw [if_pos hk]; rfl, Ext.refl _⟩
  by_cases h4 : m.kind = 4
  · have hk := h4
    have n1 : ¬ m.kind = 1 := by omega
    have n2 : ¬ m.kind = 2 := by omega
    have n3 : ¬ m.kind = 3 := by omega
    have n5 : ¬ m.kind = 5 := by omega
    rw [if_neg n1] at hm
    rw [if_neg n2] at hm
    rw [if_neg n3] at hm
    rw [if_pos hk] at hm
    simp only [Bool.and_eq_true] at hm
    have g1 := tick_len hm.1
    have g2 := inZ_le hm.2
    have g3 := ticketE_len m.p1 m.p2 m.pKv m.pB
    have g4 := wrapB_len 4 m.pAu
    refine ⟨fun h => ?_, fun h => ?_⟩
    · exact (n1 h).elim
    (conv => whnf)
    refine ⟨fun h => ?_, fun h => ?_⟩
    · exact (n2 h).elim
    (conv => whnf)
    refine ⟨fun h => ?_, fun h => ?_⟩
    · exact (n3 h).elim
    (conv => whnf)
    refine ⟨fun h => ?_, fun h => ?_⟩
    rotate_left
    · exact (h hk).elim
    (conv => whnf)
    refine drawK_pure2 (by kernel_rfl) ?_
    (conv => whnf)
    iterate 3 (apply Exists.intro; apply And.intro; (focus ((conv => whnf); first | exact ⟨rfl, rfl, trivial⟩ | (refine ⟨by omega, ?_⟩; (conv => whnf); exact ⟨rfl, rfl, trivial⟩))); (conv => whnf))
    refine ⟨_, callK_pure (c167 m.p1 m.p2 m.pKv m.pB none (by omega) (by omega) (by omega)) ⟨rfl, rfl, trivial⟩, ?_⟩
    (conv => whnf)
    iterate 3 (apply Exists.intro; apply And.intro; (focus ((conv => whnf); first | exact ⟨rfl, rfl, trivial⟩ | (refine ⟨by omega, ?_⟩; (conv => whnf); exact ⟨rfl, rfl, trivial⟩))); (conv => whnf))
    refine ⟨_, callK_pure (c168p m.pAu (by omega)) ⟨rfl, rfl, trivial⟩, ?_⟩
    (conv => whnf)
    (apply Exists.intro; apply And.intro; (focus ((conv => whnf); first | exact ⟨rfl, rfl, trivial⟩ | (refine ⟨by omega, ?_⟩; (conv => whnf); exact ⟨rfl, rfl, trivial⟩))); (conv => whnf))
    refine ⟨_, callK_pure (c164p 110 [ticketE m.p1 m.p2 m.pKv m.pB, wrapB 4 m.pAu] (by simp) (by simp only [List.flatten_cons, List.flatten_nil, List.length_append, List.length_nil]; omega)) ⟨rfl, rfl, trivial⟩, ?_⟩
    (conv => whnf)
    (apply Exists.intro; apply And.intro; (focus ((conv => whnf); first | exact ⟨rfl, rfl, trivial⟩ | (refine ⟨by omega, ?_⟩; (conv => whnf); exact ⟨rfl, rfl, trivial⟩))); (conv => whnf))
    exact ⟨by unfold laidB; rw [if_neg n1]; rw [if_neg n2]; rw [if_neg n3]; rw [if_pos hk]; rfl, Ext.refl _⟩
  have n1 : ¬ m.kind = 1 := h1
  have n2 : ¬ m.kind = 2 := h2
  have n3 : ¬ m.kind = 3 := h3
  have n4 : ¬ m.kind = 4 := h4
  have g1 := intE_len m.fErr
  have g2 := intE_len m.fNonce
  refine ⟨fun h => ?_, fun h => ?_⟩
  · exact (n1 h).elim
  (conv => whnf)
  refine ⟨fun h => ?_, fun h => ?_⟩
  · exact (n2 h).elim
  (conv => whnf)
  refine ⟨fun h => ?_, fun h => ?_⟩
  · exact (n3 h).elim
  (conv => whnf)
  refine ⟨fun h => ?_, fun h => ?_⟩
  · exact (n4 h).elim
  (conv => whnf)
  refine drawK_pure2 (by kernel_rfl) ?_
  (conv => whnf)
  iterate 3 (apply Exists.intro; apply And.intro; (focus ((conv => whnf); first | exact ⟨rfl, rfl, trivial⟩ | (refine ⟨by omega, ?_⟩; (conv => whnf); exact ⟨rfl, rfl, trivial⟩))); (conv => whnf))
  refine ⟨_, callK_pure (c166 m.fErr) ⟨rfl, rfl, trivial⟩, ?_⟩
  (conv => whnf)
  iterate 3 (apply Exists.intro; apply And.intro; (focus ((conv => whnf); first | exact ⟨rfl, rfl, trivial⟩ | (refine ⟨by omega, ?_⟩; (conv => whnf); exact ⟨rfl, rfl, trivial⟩))); (conv => whnf))
  refine ⟨_, callK_pure (c166 m.fNonce) ⟨rfl, rfl, trivial⟩, ?_⟩
  (conv => whnf)
  (apply Exists.intro; apply And.intro; (focus ((conv => whnf); first | exact ⟨rfl, rfl, trivial⟩ | (refine ⟨by omega, ?_⟩; (conv => whnf); exact ⟨rfl, rfl, trivial⟩))); (conv => whnf))
  refine ⟨_, callK_pure (c164p 126 [intE m.fErr, intE m.fNonce] (by simp) (by simp only [List.flatten_cons, List.flatten_nil, List.length_append, List.length_nil]; omega)) ⟨rfl, rfl, trivial⟩, ?_⟩
  (conv => whnf)
  (apply Exists.intro; apply And.intro; (focus ((conv => whnf); first | exact ⟨rfl, rfl, trivial⟩ | (refine ⟨by omega, ?_⟩; (conv => whnf); exact ⟨rfl, rfl, trivial⟩))); (conv => whnf))
  exact ⟨by unfold laidB; rw [if_neg n1]; rw [if_neg n2]; rw [if_neg n3]; rw [if_neg n4]; rfl, Ext.refl _⟩
theorem c104 (m : Msg) (hm : isB m = true) : Pure prog 104 [.agg m.cells] (sl (laidB m)) := Pure.of_gc (oldPs_bytes _) (c104x m hm)
/-- What Encode answers. -/
def encV (m : Msg) : PV := limV (isB m) (laidB m)
theorem c47 (m : Msg) (hm : m.fits) : Pure prog 47 [.agg m.cells] (encV m) := by
  intro H
  (refine callOk_of_pFun2 (tt := ttG) (imm := imm47) follows ttG_ok depth6 func47 (by kernel_rfl) ?_; (conv => whnf))
  refine callK_pure ((c102 m.d hm).of_eq (show PV.bool (isB m.d) = .bool (isB m) from rfl)) ?_
  unfold encV
  cases hb : isB m
  · (conv => whnf)
    exact ⟨by unfold limV; rw [if_neg (by simp)]; rfl, rfl⟩
  · (conv => whnf)
    refine callK_pure ((c104 m.d hb).of_eq (show sl (laidB m.d) = sl (laidB m) from rfl)) ?_
    (conv => whnf)
    refine callK_pure (c103 true (laidB m)) ?_
    unfold limV
    by_cases hl : (laidB m).length ≤ 2000
    · rw [if_pos ⟨rfl, hl⟩]
      (conv => whnf)
      exact ⟨rfl, rfl⟩
    · rw [if_neg (by simp [hl])]
      (conv => whnf)
      exact ⟨rfl, rfl⟩
end Go.Proofs.Tryz

set_option maxRecDepth 100000
set_option linter.unusedVariables false
set_option linter.unusedSimpArgs false
namespace Go.Proofs.Tryz
open Go Ps
end Go.Proofs.Tryz

set_option maxRecDepth 100000
set_option linter.unusedVariables false
set_option linter.unusedSimpArgs false
namespace Go.Proofs.Tryz
open Go Ps
end Go.Proofs.Tryz

set_option maxRecDepth 100000
set_option linter.unusedVariables false
set_option linter.unusedSimpArgs false
namespace Go.Proofs.Tryz
open Go Ps Go.Shelf Go.RowKit
def ρ67 : Ren := ⟨fun n => if n = 15 then 222 else 256, fun n => if n = 23 then 327 else if n = 21 then 21 else n, fun n => n⟩
def imm169 : List Nat := []
theorem lays222 : LaysGw.n15 prog ρ67 where
  mixed := by kernel_rfl
  f15 := by kernel_rfl
  f20 := by kernel_rfl
  t0 := by kernel_rfl
  a0 := fun w => by rfl
  z0 := fun w => by rfl
  v0 := fun w => by rfl
  i0 := by kernel_rfl
  t3 := by kernel_rfl
  a3 := fun w => by rfl
  z3 := fun w => by rfl
  v3 := fun w => by rfl
  i3 := by kernel_rfl
  t4 := by kernel_rfl
  a4 := fun w => by rfl
  z4 := fun w => by rfl
  v4 := fun w => by rfl
  i4 := by kernel_rfl
  t9 := by kernel_rfl
  a9 := fun w => by rfl
  z9 := fun w => by rfl
  v9 := fun w => by rfl
  i9 := by kernel_rfl
  t21 := by kernel_rfl
  a21 := fun w => by rfl
  z21 := fun w => by rfl
  v21 := fun w => by rfl
  i21 := by kernel_rfl
  t23 := by kernel_rfl
  a23 := fun w => by rfl
  z23 := fun w => by rfl
  v23 := fun w => by rfl
  i23 := by kernel_rfl
def badR (x : Nat) : Bool := decide (x < 32) || decide (126 < x)
def okT8 (b : UInt8) : Bool := decide (32 ≤ b.toNat) && decide (b.toNat ≤ 126)
theorem dec_low (s : ByteArray) (i : Nat) (h : (s.get! i).toNat < 128) : Utf8.decode s i = ((s.get! i).toNat, 1) := by
  unfold Utf8.decode
  simp only [Nat.add_zero]
  rw [if_pos h]
theorem dec_high (s : ByteArray) (i : Nat) (h : ¬ (s.get! i).toNat < 128) : 128 ≤ (Utf8.decode s i).1 := by
  unfold Utf8.decode
  simp only [Nat.add_zero]
  rw [if_neg h]
  have e : Utf8.runeError = 65533 := rfl
  split
  · split
    · assumption
    · rw [e]; decide
  · split
    · split
      · rename_i h2
        have : (decide (2048 ≤ _) && _) = true := h2
        rw [Bool.and_eq_true] at this
        have := of_decide_eq_true this.1
        omega
      · rw [e]; decide
    · split
      · split
        · rename_i h2
          have : (decide (65536 ≤ _) && _) = true := h2
          rw [Bool.and_eq_true] at this
          have := of_decide_eq_true this.1
          omega
        · rw [e]; decide
      · rw [e]; decide
theorem dec_bad (s : ByteArray) (i : Nat) : badR (Utf8.decode s i).1 = !okT8 (s.get! i) := by
  by_cases h : (s.get! i).toNat < 128
  · rw [dec_low s i h]
    unfold badR okT8
    by_cases h1 : (s.get! i).toNat < 32 <;> by_cases h2 : 126 < (s.get! i).toNat <;> simp [h1, h2] <;> omega
  · have := dec_high s i h
    unfold badR okT8
    have h1 : ¬ (s.get! i).toNat ≤ 126 := by omega
    have h2 : 126 < (Utf8.decode s i).1 := by omega
    simp [h1, h2]
theorem idx_from (s : ByteArray) : ∀ (f pos : Nat), s.size ≤ pos + f → (Lib.idxFuncFrom badR true s f pos < 0 ↔ ∀ i, pos ≤ i → i < s.size → okT8 (s.get! i) = true)
  | 0, pos, h => by
    rw [Lib.idxFuncFrom_end _ _ _ _ _ (by omega)]
    exact ⟨fun _ i h1 h2 => by omega, fun _ => by decide⟩
  | f + 1, pos, h => by
    unfold Lib.idxFuncFrom
    split
    · rename_i hp
      rw [dec_bad]
      cases hb : okT8 (s.get! pos)
      · simp only [Bool.not_false, if_true]
        exact ⟨fun h => by omega, fun h => by rw [h pos (Nat.le_refl _) hp] at hb; cases hb⟩
      · simp only [Bool.not_true, Bool.false_eq_true, if_false]
        have hlt : (s.get! pos).toNat < 128 := by
          unfold okT8 at hb
          rw [Bool.and_eq_true] at hb
          have := of_decide_eq_true hb.2
          omega
        rw [dec_low s pos hlt, idx_from s f (pos + 1) (by omega)]
        refine ⟨fun h i h1 h2 => ?_, fun h i h1 h2 => h i (by omega) h2⟩
        by_cases e : i = pos
        · rw [e]; exact hb
        · exact h i (by omega) h2
    · rename_i hp
      exact ⟨fun _ i h1 h2 => by omega, fun _ => by decide⟩
theorem idx_text (s : List UInt8) : (Lib.idxFunc badR true ⟨⟨s⟩⟩ < 0) ↔ s.all okT8 = true := by
  unfold Lib.idxFunc
  rw [idx_from _ _ _ (by omega), List.all_eq_true]
  have hg : ∀ i (h : i < s.length), (⟨⟨s⟩⟩ : ByteArray).get! i = s[i] := fun i h => by
    show (Array.mk s)[i]! = s[i]
    simp [h]
  refine ⟨fun h x hx => ?_, fun h i _ hi => ?_⟩
  · obtain ⟨i, hi, rfl⟩ := List.getElem_of_mem hx
    rw [← hg i hi]
    exact h i (Nat.zero_le _) hi
  · have hi : i < s.length := hi
    rw [hg i hi]
    exact h _ (List.getElem_mem hi)
theorem pred223 (W : World) (x : Nat) (hx : x ≤ 1114111) : FnGives prog 223 #[] #[.int .i32 (x : Int)] (.bool (badR x)) W := by
  unfold FnGives
  go_enter Tryz.func223, Tryz.ntmps223
  go_wp2
  · rename_i h
    go_ret
    refine ⟨congrArg Ending.returned (show Value.bool (decide ((x : Int) < 32) || decide (126 < (x : Int))) = Value.bool (badR x) from congrArg Value.bool ?_), 0, rfl⟩
    unfold badR
    rw [decide_eq_decide.2 (show (x : Int) < 32 ↔ x < 32 by omega), decide_eq_decide.2 (show 126 < (x : Int) ↔ 126 < x by omega)]
  · rename_i h
    go_ret
    refine ⟨congrArg Ending.returned (show Value.bool true = Value.bool (badR x) from congrArg Value.bool ?_), 0, rfl⟩
    unfold badR
    have h2 : x < 32 := by omega
    rw [decide_eq_true h2, Bool.true_or]
theorem c222 (s : List UInt8) : Pure prog 222 [.str s, .func 223 [] []] (.int .i64 (Lib.idxFunc badR true ⟨⟨s⟩⟩)) := fun H =>
  CallOk.of_below (fun g w => .int _ _) fun g w vs hs hv => by
    have h0 : VC prog g w (Ps.valOf vs 0) (.str s) := hv 0
    have h1 : VC prog g w (Ps.valOf vs 1) (.func 223 [] []) := hv 1
    have hvs : vs = #[.string ⟨⟨s⟩⟩, .func (.func 223) #[] #[]] := by
      have e0 := h0.str
      obtain ⟨a, b, e1, z1, z2, _⟩ := (plain_of h1 (by simp) (by simp)).inv_func
      have z1 : a = #[] := Array.eq_empty_of_size_eq_zero z1
      have z2 : b = #[] := Array.eq_empty_of_size_eq_zero z2
      subst z1; subst z2
      match vs, hs with
      | ⟨[x, y]⟩, _ =>
        simp [Ps.valOf] at e0 e1
        rw [e0, e1]; rfl
    subst hvs
    exact ⟨run_callFunc_body func222 (by kernel_rfl) (by kernel_rfl), Any.strings_IndexFunc_runes lays222 223 #[] (fun args w => run_callFunc_body func223 (by kernel_rfl) (by kernel_rfl)) badR ⟨⟨s⟩⟩ w fun W x hx _ => pred223 W x hx⟩
def isTextB (s : List UInt8) : Bool := decide (s.length ≤ 300) && s.all okT8
theorem c169 (s : List UInt8) : Pure prog 169 [.str s] (.bool (isTextB s)) := by
  intro H
  (refine callOk_of_pFun2 (tt := ttG) (imm := imm169) follows ttG_ok depth6 func169 (by kernel_rfl) ?_; (conv => whnf))
  refine ⟨fun h => ?_, fun h => ?_⟩
  · (conv => whnf)
    refine callK_pure (c222 s) ?_
    (conv => whnf)
    have e : decide (s.length ≤ 300) = true := decide_eq_true (by have h : (s.length : Int) ≤ 300 := h; omega)
    unfold isTextB
    rw [e, Bool.true_and]
    refine ⟨fun h2 => ?_, fun h2 => ?_⟩
    · (conv => whnf)
      rw [(idx_text s).1 h2]
      exact ⟨rfl, rfl⟩
    · (conv => whnf)
      cases hb : s.all okT8
      · exact ⟨rfl, rfl⟩
      · exact absurd ((idx_text s).2 hb) h2
  · (conv => whnf)
    have e : decide (s.length ≤ 300) = false := decide_eq_false (by have h : ¬ (s.length : Int) ≤ 300 := h; omega)
    unfold isTextB
    rw [e]
    exact ⟨rfl, rfl⟩
end Go.Proofs.Tryz

set_option maxRecDepth 100000
set_option maxHeartbeats 1000000
set_option linter.unusedVariables false
set_option linter.unusedSimpArgs false
namespace Go.Proofs.Tryz
open Go Ps
def ttC : TT := [(3, ⟨.int .i64, 1, 8, [.int .i64 0]⟩), (4, ⟨.bool, 1, 1, [.bool false]⟩), (5, ⟨.int .u8, 1, 1, [.int .u8 0]⟩), (9, ⟨.str, 1, 16, [.str []]⟩), (25, ⟨.strct [(9, 0), (9, 1)], 2, 32, [.str [], .str []]⟩), (31, ⟨.int .i64, 1, 8, [.int .i64 0]⟩), (43, ⟨.arr 32 5, 32, 32, List.replicate 32 (.int .u8 0)⟩), (323, ⟨.slice 3, 1, 24, [.slice 0 [] (some 3)]⟩), (26, ⟨.slice 5, 1, 24, [.slice 0 [] (some 5)]⟩), (50, ⟨.strct [(25, 0), (43, 2), (9, 34), (3, 35), (3, 36)], 37, 96, [.str [], .str []] ++ List.replicate 32 (.int .u8 0) ++ [.str [], .int .i64 0, .int .i64 0]⟩), (214, ⟨.fn, 1, 8, [.nilF]⟩), (285, ⟨.ptr, 1, 8, [.ptr none]⟩), (287, ⟨.strct [(285, 0)], 1, 8, [.ptr none]⟩), (327, ⟨.fn, 1, 8, [.nilF]⟩), (255, ⟨.slice 26, 1, 24, [.slice 0 [] (some 26)]⟩), (360, ⟨.strct [(26, 0), (4, 1)], 2, 32, [.slice 0 [] (some 5), .bool false]⟩)]
theorem ttC_ok : ttOk prog ttC = true := by kernel_rfl
def imm106 : List Nat := [1]
end Go.Proofs.Tryz

set_option maxRecDepth 100000
set_option maxHeartbeats 1000000
set_option linter.unusedVariables false
set_option linter.unusedSimpArgs false
namespace Go.Proofs.Tryz
open Go Ps
end Go.Proofs.Tryz

set_option maxRecDepth 100000
set_option maxHeartbeats 1000000
set_option linter.unusedVariables false
set_option linter.unusedSimpArgs false
namespace Go.Proofs.Tryz
open Go Ps
end Go.Proofs.Tryz

set_option maxRecDepth 100000
set_option maxHeartbeats 1000000
set_option linter.unusedVariables false
set_option linter.unusedSimpArgs false
namespace Go.Proofs.Tryz
open Go Ps
end Go.Proofs.Tryz

set_option maxRecDepth 100000
set_option maxHeartbeats 1000000
set_option linter.unusedVariables false
set_option linter.unusedSimpArgs false
namespace Go.Proofs.Tryz
open Go Ps
end Go.Proofs.Tryz

set_option maxRecDepth 100000
set_option maxHeartbeats 1000000
set_option linter.unusedVariables false
set_option linter.unusedSimpArgs false
namespace Go.Proofs.Tryz
open Go Ps
def keyC (k : Nat → UInt8) : List PV := [byteC (k 0), byteC (k 1), byteC (k 2), byteC (k 3), byteC (k 4), byteC (k 5), byteC (k 6), byteC (k 7), byteC (k 8), byteC (k 9), byteC (k 10), byteC (k 11), byteC (k 12), byteC (k 13), byteC (k 14), byteC (k 15), byteC (k 16), byteC (k 17), byteC (k 18), byteC (k 19), byteC (k 20), byteC (k 21), byteC (k 22), byteC (k 23), byteC (k 24), byteC (k 25), byteC (k 26), byteC (k 27), byteC (k 28), byteC (k 29), byteC (k 30), byteC (k 31)]
def keyB (k : Nat → UInt8) : List UInt8 := [k 0, k 1, k 2, k 3, k 4, k 5, k 6, k 7, k 8, k 9, k 10, k 11, k 12, k 13, k 14, k 15, k 16, k 17, k 18, k 19, k 20, k 21, k 22, k 23, k 24, k 25, k 26, k 27, k 28, k 29, k 30, k 31]
theorem keyB_len (k : Nat → UInt8) : (keyB k).length = 32 := rfl
structure Prt where
  r : List UInt8
  n : List UInt8
  k : Nat → UInt8
  tr : List UInt8
  st : Int
  en : Int
def Prt.cells (p : Prt) : List PV := [.str p.r, .str p.n] ++ keyC p.k ++ [.str p.tr, .int .i64 p.st, .int .i64 p.en]
def isPartB (p : Prt) : Bool := isPrincB p.r p.n && isTextB p.tr && (inZ p.st 0 1073741824 && inZ p.en 0 1073741824)
def partL (p : Prt) : List UInt8 := wrapB 99 [princE p.r p.n, wrapB 4 (keyB p.k), wrapB 27 p.tr, intE p.st, intE p.en].flatten
def encPV (p : Prt) : PV := if isPartB p = true ∧ (partL p).length ≤ 2000 then .tup [sl (partL p), .int .i64 0] else .tup [sl [], .int .i64 1]
theorem encPV_yes {p : Prt} (h : isPartB p = true ∧ (partL p).length ≤ 2000) : encPV p = .tup [sl (partL p), .int .i64 0] := if_pos h
theorem encPV_no {p : Prt} (h : ¬ (isPartB p = true ∧ (partL p).length ≤ 2000)) : encPV p = .tup [sl [], .int .i64 1] := if_neg h
theorem part_len (p : Prt) : (partL p).length ≤ p.r.length + p.n.length + p.tr.length + 88 := by
  have h0 := wrapB_len 99 [princE p.r p.n, wrapB 4 (keyB p.k), wrapB 27 p.tr, intE p.st, intE p.en].flatten
  have h1 := princE_len p.r p.n
  have h2 := wrapB_len 4 (keyB p.k)
  have h3 := wrapB_len 27 p.tr
  have h4 := intE_len p.st
  have h5 := intE_len p.en
  have h6 := keyB_len p.k
  simp only [List.flatten_cons, List.flatten_nil, List.length_append, List.length_nil] at h0
  unfold partL
  simp only [List.flatten_cons, List.flatten_nil]
  omega
theorem isText_len {s : List UInt8} (h : isTextB s = true) : s.length ≤ 300 := by
  unfold isTextB at h
  rw [Bool.and_eq_true] at h
  exact of_decide_eq_true h.1
end Go.Proofs.Tryz

set_option maxRecDepth 100000
set_option maxHeartbeats 1000000
set_option linter.unusedVariables false
set_option linter.unusedSimpArgs false
namespace Go.Proofs.Tryz
open Go Ps
def mZ : Msg := ⟨0, [], [], [], [], 0, 0, [], [], 0, [], some 5, [], some 5, [], [], 0, 0, [], [], [], [], 0, [], some 5, [], some 5, [], [], 0, [], some 5, [], some 5, 0, 0⟩
end Go.Proofs.Tryz

set_option maxRecDepth 100000
set_option maxHeartbeats 2000000
set_option linter.unusedVariables false
set_option linter.unusedSimpArgs false
namespace Go.Proofs.Tryz
open Go Ps
end Go.Proofs.Tryz

set_option maxRecDepth 100000
set_option maxHeartbeats 2000000
set_option linter.unusedVariables false
set_option linter.unusedSimpArgs false
namespace Go.Proofs.Tryz
open Go Ps
end Go.Proofs.Tryz

set_option maxRecDepth 100000
set_option maxHeartbeats 2000000
set_option linter.unusedVariables false
set_option linter.unusedSimpArgs false
namespace Go.Proofs.Tryz
open Go Ps
theorem limV_yes {ok : Bool} {b : List UInt8} (h : ok = true ∧ b.length ≤ 2000) : limV ok b = .tup [sl b, .int .i64 0] := if_pos h
theorem limV_no {ok : Bool} {b : List UInt8} (h : ¬ (ok = true ∧ b.length ≤ 2000)) : limV ok b = .tup [.slice 0 [] (some 5), .int .i64 1] := if_neg h
theorem c106 (p : Prt) (hr : p.r.length ≤ 1000000) (hn : p.n.length ≤ 1000000) (ht : p.tr.length ≤ 1000000) : Pure prog 106 [.agg p.cells] (encPV p) := by
  intro H
  have h1 := princE_len p.r p.n
  have h2 := wrapB_len 4 (keyB p.k)
  have h3 := wrapB_len 27 p.tr
  have h4 := intE_len p.st
  have h5 := intE_len p.en
  have h6 := keyB_len p.k
  (refine callOk_of_pFun2 (tt := ttC) (imm := imm106) follows ttC_ok depth6 func106 (by kernel_rfl) ?_; (conv => whnf))
  refine drawK_pure2 (by kernel_rfl) ?_
  (conv => whnf)
  iterate 2 (apply Exists.intro; apply And.intro; (focus ((conv => whnf); first | exact ⟨rfl, rfl, trivial⟩ | (refine ⟨by omega, ?_⟩; (conv => whnf); exact ⟨rfl, rfl, trivial⟩))); (conv => whnf))
  refine ⟨_, callK_pure (c97 p.r p.n (by omega) (by omega)) ⟨rfl, rfl, trivial⟩, ?_⟩
  (conv => whnf)
  cases f1 : isPrincB p.r p.n
  · (apply Exists.intro; apply And.intro; (focus ((conv => whnf); first | exact ⟨rfl, rfl, trivial⟩ | (refine ⟨by omega, ?_⟩; (conv => whnf); exact ⟨rfl, rfl, trivial⟩))); (conv => whnf))
    iterate 14 (apply Exists.intro; apply And.intro; (focus ((conv => whnf); first | exact ⟨rfl, rfl, trivial⟩ | (refine ⟨by omega, ?_⟩; (conv => whnf); exact ⟨rfl, rfl, trivial⟩))); (conv => whnf))
    refine ⟨_, callK_pure (c165 p.r p.n hr hn) ⟨rfl, rfl, trivial⟩, ?_⟩
    (conv => whnf)
    iterate 2 (apply Exists.intro; apply And.intro; (focus ((conv => whnf); first | exact ⟨rfl, rfl, trivial⟩ | (refine ⟨by omega, ?_⟩; (conv => whnf); exact ⟨rfl, rfl, trivial⟩))); (conv => whnf))
    refine ⟨_, callK_pure (c168p (keyB p.k) (by omega)) ⟨rfl, rfl, trivial⟩, ?_⟩
    (conv => whnf)
    iterate 2 (apply Exists.intro; apply And.intro; (focus ((conv => whnf); first | exact ⟨rfl, rfl, trivial⟩ | (refine ⟨by omega, ?_⟩; (conv => whnf); exact ⟨rfl, rfl, trivial⟩))); (conv => whnf))
    refine ⟨_, callK_pure (c170p p.tr (by omega)) ⟨rfl, rfl, trivial⟩, ?_⟩
    (conv => whnf)
    iterate 2 (apply Exists.intro; apply And.intro; (focus ((conv => whnf); first | exact ⟨rfl, rfl, trivial⟩ | (refine ⟨by omega, ?_⟩; (conv => whnf); exact ⟨rfl, rfl, trivial⟩))); (conv => whnf))
    refine ⟨_, callK_pure (c166 p.st) ⟨rfl, rfl, trivial⟩, ?_⟩
    (conv => whnf)
    iterate 2 (apply Exists.intro; apply And.intro; (focus ((conv => whnf); first | exact ⟨rfl, rfl, trivial⟩ | (refine ⟨by omega, ?_⟩; (conv => whnf); exact ⟨rfl, rfl, trivial⟩))); (conv => whnf))
    refine ⟨_, callK_pure (c166 p.en) ⟨rfl, rfl, trivial⟩, ?_⟩
    (conv => whnf)
    (apply Exists.intro; apply And.intro; (focus ((conv => whnf); first | exact ⟨rfl, rfl, trivial⟩ | (refine ⟨by omega, ?_⟩; (conv => whnf); exact ⟨rfl, rfl, trivial⟩))); (conv => whnf))
    refine ⟨_, callK_pure (c164p 99 [princE p.r p.n, wrapB 4 (keyB p.k), wrapB 27 p.tr, intE p.st, intE p.en] (by simp) (by simp only [List.flatten_cons, List.flatten_nil, List.length_append, List.length_nil]; omega)) ⟨rfl, rfl, trivial⟩, ?_⟩
    (conv => whnf)
    have hb : isPartB p = false := by unfold isPartB; simp only [f1, Bool.and_true, Bool.true_and, Bool.and_false, Bool.false_and]
    refine ⟨_, callK_pure ((c103 false (partL p)).of_eq (limV_no (fun h => by cases h.1))) ⟨rfl, rfl, trivial⟩, ?_⟩
    (conv => whnf)
    iterate 4 (apply Exists.intro; apply And.intro; (focus ((conv => whnf); first | exact ⟨rfl, rfl, trivial⟩ | (refine ⟨by omega, ?_⟩; (conv => whnf); exact ⟨rfl, rfl, trivial⟩))); (conv => whnf))
    exact ⟨(encPV_no (fun h => by rw [hb] at h; cases h.1)).symm, rfl⟩
  iterate 3 (apply Exists.intro; apply And.intro; (focus ((conv => whnf); first | exact ⟨rfl, rfl, trivial⟩ | (refine ⟨by omega, ?_⟩; (conv => whnf); exact ⟨rfl, rfl, trivial⟩))); (conv => whnf))
  refine ⟨_, callK_pure (c169 p.tr) ⟨rfl, rfl, trivial⟩, ?_⟩
  (conv => whnf)
  cases f2 : isTextB p.tr
  · (apply Exists.intro; apply And.intro; (focus ((conv => whnf); first | exact ⟨rfl, rfl, trivial⟩ | (refine ⟨by omega, ?_⟩; (conv => whnf); exact ⟨rfl, rfl, trivial⟩))); (conv => whnf))
    iterate 10 (apply Exists.intro; apply And.intro; (focus ((conv => whnf); first | exact ⟨rfl, rfl, trivial⟩ | (refine ⟨by omega, ?_⟩; (conv => whnf); exact ⟨rfl, rfl, trivial⟩))); (conv => whnf))
    refine ⟨_, callK_pure (c165 p.r p.n hr hn) ⟨rfl, rfl, trivial⟩, ?_⟩
    (conv => whnf)
    iterate 2 (apply Exists.intro; apply And.intro; (focus ((conv => whnf); first | exact ⟨rfl, rfl, trivial⟩ | (refine ⟨by omega, ?_⟩; (conv => whnf); exact ⟨rfl, rfl, trivial⟩))); (conv => whnf))
    refine ⟨_, callK_pure (c168p (keyB p.k) (by omega)) ⟨rfl, rfl, trivial⟩, ?_⟩
    (conv => whnf)
    iterate 2 (apply Exists.intro; apply And.intro; (focus ((conv => whnf); first | exact ⟨rfl, rfl, trivial⟩ | (refine ⟨by omega, ?_⟩; (conv => whnf); exact ⟨rfl, rfl, trivial⟩))); (conv => whnf))
    refine ⟨_, callK_pure (c170p p.tr (by omega)) ⟨rfl, rfl, trivial⟩, ?_⟩
    (conv => whnf)
    iterate 2 (apply Exists.intro; apply And.intro; (focus ((conv => whnf); first | exact ⟨rfl, rfl, trivial⟩ | (refine ⟨by omega, ?_⟩; (conv => whnf); exact ⟨rfl, rfl, trivial⟩))); (conv => whnf))
    refine ⟨_, callK_pure (c166 p.st) ⟨rfl, rfl, trivial⟩, ?_⟩
    (conv => whnf)
    iterate 2 (apply Exists.intro; apply And.intro; (focus ((conv => whnf); first | exact ⟨rfl, rfl, trivial⟩ | (refine ⟨by omega, ?_⟩; (conv => whnf); exact ⟨rfl, rfl, trivial⟩))); (conv => whnf))
    refine ⟨_, callK_pure (c166 p.en) ⟨rfl, rfl, trivial⟩, ?_⟩
    (conv => whnf)
    (apply Exists.intro; apply And.intro; (focus ((conv => whnf); first | exact ⟨rfl, rfl, trivial⟩ | (refine ⟨by omega, ?_⟩; (conv => whnf); exact ⟨rfl, rfl, trivial⟩))); (conv => whnf))
    refine ⟨_, callK_pure (c164p 99 [princE p.r p.n, wrapB 4 (keyB p.k), wrapB 27 p.tr, intE p.st, intE p.en] (by simp) (by simp only [List.flatten_cons, List.flatten_nil, List.length_append, List.length_nil]; omega)) ⟨rfl, rfl, trivial⟩, ?_⟩
    (conv => whnf)
    have hb : isPartB p = false := by unfold isPartB; simp only [f1, f2, Bool.and_true, Bool.true_and, Bool.and_false, Bool.false_and]
    refine ⟨_, callK_pure ((c103 false (partL p)).of_eq (limV_no (fun h => by cases h.1))) ⟨rfl, rfl, trivial⟩, ?_⟩
    (conv => whnf)
    iterate 4 (apply Exists.intro; apply And.intro; (focus ((conv => whnf); first | exact ⟨rfl, rfl, trivial⟩ | (refine ⟨by omega, ?_⟩; (conv => whnf); exact ⟨rfl, rfl, trivial⟩))); (conv => whnf))
    exact ⟨(encPV_no (fun h => by rw [hb] at h; cases h.1)).symm, rfl⟩
  iterate 7 (apply Exists.intro; apply And.intro; (focus ((conv => whnf); first | exact ⟨rfl, rfl, trivial⟩ | (refine ⟨by omega, ?_⟩; (conv => whnf); exact ⟨rfl, rfl, trivial⟩))); (conv => whnf))
  refine ⟨_, callK_pure ((c158 [p.st, p.en] (by simp)).of_eq (show PV.bool (inZ p.st 0 1073741824 && (inZ p.en 0 1073741824 && true)) = .bool (inZ p.st 0 1073741824 && inZ p.en 0 1073741824) by rw [Bool.and_true])) ⟨rfl, rfl, trivial⟩, ?_⟩
  (conv => whnf)
  cases f3 : (inZ p.st 0 1073741824 && inZ p.en 0 1073741824)
  · (apply Exists.intro; apply And.intro; (focus ((conv => whnf); first | exact ⟨rfl, rfl, trivial⟩ | (refine ⟨by omega, ?_⟩; (conv => whnf); exact ⟨rfl, rfl, trivial⟩))); (conv => whnf))
    iterate 2 (apply Exists.intro; apply And.intro; (focus ((conv => whnf); first | exact ⟨rfl, rfl, trivial⟩ | (refine ⟨by omega, ?_⟩; (conv => whnf); exact ⟨rfl, rfl, trivial⟩))); (conv => whnf))
    refine ⟨_, callK_pure (c165 p.r p.n hr hn) ⟨rfl, rfl, trivial⟩, ?_⟩
    (conv => whnf)
    iterate 2 (apply Exists.intro; apply And.intro; (focus ((conv => whnf); first | exact ⟨rfl, rfl, trivial⟩ | (refine ⟨by omega, ?_⟩; (conv => whnf); exact ⟨rfl, rfl, trivial⟩))); (conv => whnf))
    refine ⟨_, callK_pure (c168p (keyB p.k) (by omega)) ⟨rfl, rfl, trivial⟩, ?_⟩
    (conv => whnf)
    iterate 2 (apply Exists.intro; apply And.intro; (focus ((conv => whnf); first | exact ⟨rfl, rfl, trivial⟩ | (refine ⟨by omega, ?_⟩; (conv => whnf); exact ⟨rfl, rfl, trivial⟩))); (conv => whnf))
    refine ⟨_, callK_pure (c170p p.tr (by omega)) ⟨rfl, rfl, trivial⟩, ?_⟩
    (conv => whnf)
    iterate 2 (apply Exists.intro; apply And.intro; (focus ((conv => whnf); first | exact ⟨rfl, rfl, trivial⟩ | (refine ⟨by omega, ?_⟩; (conv => whnf); exact ⟨rfl, rfl, trivial⟩))); (conv => whnf))
    refine ⟨_, callK_pure (c166 p.st) ⟨rfl, rfl, trivial⟩, ?_⟩
    (conv => whnf)
    iterate 2 (apply Exists.intro; apply And.intro; (focus ((conv => whnf); first | exact ⟨rfl, rfl, trivial⟩ | (refine ⟨by omega, ?_⟩; (conv => whnf); exact ⟨rfl, rfl, trivial⟩))); (conv => whnf))
    refine ⟨_, callK_pure (c166 p.en) ⟨rfl, rfl, trivial⟩, ?_⟩
    (conv => whnf)
    (apply Exists.intro; apply And.intro; (focus ((conv => whnf); first | exact ⟨rfl, rfl, trivial⟩ | (refine ⟨by omega, ?_⟩; (conv => whnf); exact ⟨rfl, rfl, trivial⟩))); (conv => whnf))
    refine ⟨_, callK_pure (c164p 99 [princE p.r p.n, wrapB 4 (keyB p.k), wrapB 27 p.tr, intE p.st, intE p.en] (by simp) (by simp only [List.flatten_cons, List.flatten_nil, List.length_append, List.length_nil]; omega)) ⟨rfl, rfl, trivial⟩, ?_⟩
    (conv => whnf)
    have hb : isPartB p = false := by unfold isPartB; simp only [f1, f2, f3, Bool.and_true, Bool.true_and, Bool.and_false, Bool.false_and]
    refine ⟨_, callK_pure ((c103 false (partL p)).of_eq (limV_no (fun h => by cases h.1))) ⟨rfl, rfl, trivial⟩, ?_⟩
    (conv => whnf)
    iterate 4 (apply Exists.intro; apply And.intro; (focus ((conv => whnf); first | exact ⟨rfl, rfl, trivial⟩ | (refine ⟨by omega, ?_⟩; (conv => whnf); exact ⟨rfl, rfl, trivial⟩))); (conv => whnf))
    exact ⟨(encPV_no (fun h => by rw [hb] at h; cases h.1)).symm, rfl⟩
  iterate 3 (apply Exists.intro; apply And.intro; (focus ((conv => whnf); first | exact ⟨rfl, rfl, trivial⟩ | (refine ⟨by omega, ?_⟩; (conv => whnf); exact ⟨rfl, rfl, trivial⟩))); (conv => whnf))
  refine ⟨_, callK_pure (c165 p.r p.n hr hn) ⟨rfl, rfl, trivial⟩, ?_⟩
  (conv => whnf)
  iterate 2 (apply Exists.intro; apply And.intro; (focus ((conv => whnf); first | exact ⟨rfl, rfl, trivial⟩ | (refine ⟨by omega, ?_⟩; (conv => whnf); exact ⟨rfl, rfl, trivial⟩))); (conv => whnf))
  refine ⟨_, callK_pure (c168p (keyB p.k) (by omega)) ⟨rfl, rfl, trivial⟩, ?_⟩
  (conv => whnf)
  iterate 2 (apply Exists.intro; apply And.intro; (focus ((conv => whnf); first | exact ⟨rfl, rfl, trivial⟩ | (refine ⟨by omega, ?_⟩; (conv => whnf); exact ⟨rfl, rfl, trivial⟩))); (conv => whnf))
  refine ⟨_, callK_pure (c170p p.tr (by omega)) ⟨rfl, rfl, trivial⟩, ?_⟩
  (conv => whnf)
  iterate 2 (apply Exists.intro; apply And.intro; (focus ((conv => whnf); first | exact ⟨rfl, rfl, trivial⟩ | (refine ⟨by omega, ?_⟩; (conv => whnf); exact ⟨rfl, rfl, trivial⟩))); (conv => whnf))
  refine ⟨_, callK_pure (c166 p.st) ⟨rfl, rfl, trivial⟩, ?_⟩
  (conv => whnf)
  iterate 2 (apply Exists.intro; apply And.intro; (focus ((conv => whnf); first | exact ⟨rfl, rfl, trivial⟩ | (refine ⟨by omega, ?_⟩; (conv => whnf); exact ⟨rfl, rfl, trivial⟩))); (conv => whnf))
  refine ⟨_, callK_pure (c166 p.en) ⟨rfl, rfl, trivial⟩, ?_⟩
  (conv => whnf)
  (apply Exists.intro; apply And.intro; (focus ((conv => whnf); first | exact ⟨rfl, rfl, trivial⟩ | (refine ⟨by omega, ?_⟩; (conv => whnf); exact ⟨rfl, rfl, trivial⟩))); (conv => whnf))
  refine ⟨_, callK_pure (c164p 99 [princE p.r p.n, wrapB 4 (keyB p.k), wrapB 27 p.tr, intE p.st, intE p.en] (by simp) (by simp only [List.flatten_cons, List.flatten_nil, List.length_append, List.length_nil]; omega)) ⟨rfl, rfl, trivial⟩, ?_⟩
  (conv => whnf)
  have hb : isPartB p = true := by unfold isPartB; simp only [f1, f2, f3, Bool.and_true, Bool.true_and, Bool.and_false, Bool.false_and]
  by_cases hlen : (partL p).length ≤ 2000
  · have hlim := limV_yes (ok := true) (b := partL p) ⟨rfl, hlen⟩
    refine ⟨_, callK_pure ((c103 true (partL p)).of_eq hlim) ⟨rfl, rfl, trivial⟩, ?_⟩
    (conv => whnf)
    iterate 4 (apply Exists.intro; apply And.intro; (focus ((conv => whnf); first | exact ⟨rfl, rfl, trivial⟩ | (refine ⟨by omega, ?_⟩; (conv => whnf); exact ⟨rfl, rfl, trivial⟩))); (conv => whnf))
    exact ⟨(encPV_yes ⟨hb, hlen⟩).symm, rfl⟩
  · have hlim := limV_no (ok := true) (b := partL p) (fun h => hlen h.2)
    refine ⟨_, callK_pure ((c103 true (partL p)).of_eq hlim) ⟨rfl, rfl, trivial⟩, ?_⟩
    (conv => whnf)
    iterate 4 (apply Exists.intro; apply And.intro; (focus ((conv => whnf); first | exact ⟨rfl, rfl, trivial⟩ | (refine ⟨by omega, ?_⟩; (conv => whnf); exact ⟨rfl, rfl, trivial⟩))); (conv => whnf))
    exact ⟨(encPV_no (fun h => hlen h.2)).symm, rfl⟩
end Go.Proofs.Tryz

set_option maxRecDepth 100000
set_option maxHeartbeats 2000000
set_option linter.unusedVariables false
set_option linter.unusedSimpArgs false
namespace Go.Proofs.Tryz
open Go Ps
end Go.Proofs.Tryz

set_option maxRecDepth 100000
set_option maxHeartbeats 2000000
set_option linter.unusedVariables false
set_option linter.unusedSimpArgs false
namespace Go.Proofs.Tryz
open Go Ps
end Go.Proofs.Tryz

set_option maxRecDepth 100000
set_option maxHeartbeats 4000000
set_option linter.unusedVariables false
set_option linter.unusedSimpArgs false
namespace Go.Proofs.Tryz
open Go Ps
end Go.Proofs.Tryz

set_option maxRecDepth 100000
set_option maxHeartbeats 4000000
set_option linter.unusedVariables false
set_option linter.unusedSimpArgs false
namespace Go.Proofs.Tryz
open Go Ps
theorem encV_yes {m : Msg} (h : isB m = true ∧ (laidB m).length ≤ 2000) : encV m = .tup [sl (laidB m), .int .i64 0] := if_pos h
theorem encV_no {m : Msg} (h : ¬ (isB m = true ∧ (laidB m).length ≤ 2000)) : encV m = .tup [.slice 0 [] (some 5), .int .i64 1] := if_neg h
end Go.Proofs.Tryz

set_option maxRecDepth 100000
set_option maxHeartbeats 4000000
set_option linter.unusedVariables false
set_option linter.unusedSimpArgs false
namespace Go.Proofs.Tryz
open Go Ps
end Go.Proofs.Tryz

set_option maxRecDepth 100000
set_option maxHeartbeats 4000000
set_option linter.unusedVariables false
set_option linter.unusedSimpArgs false
namespace Go.Proofs.Tryz
open Go Ps
end Go.Proofs.Tryz

set_option maxRecDepth 100000
set_option maxHeartbeats 4000000
set_option linter.unusedVariables false
set_option linter.unusedSimpArgs false
namespace Go.Proofs.Tryz
open Go Ps
end Go.Proofs.Tryz

set_option maxRecDepth 100000
set_option maxHeartbeats 4000000
set_option linter.unusedVariables false
set_option linter.unusedSimpArgs false
namespace Go.Proofs.Tryz
open Go Ps
end Go.Proofs.Tryz

set_option maxRecDepth 100000
set_option maxHeartbeats 4000000
set_option linter.unusedVariables false
set_option linter.unusedSimpArgs false
namespace Go.Proofs.Tryz
open Go Ps
end Go.Proofs.Tryz

set_option maxRecDepth 100000
set_option maxHeartbeats 4000000
set_option linter.unusedVariables false
set_option linter.unusedSimpArgs false
namespace Go.Proofs.Tryz
open Go Ps
end Go.Proofs.Tryz

set_option maxRecDepth 100000
set_option maxHeartbeats 4000000
set_option linter.unusedVariables false
set_option linter.unusedSimpArgs false
namespace Go.Proofs.Tryz
open Go Ps
end Go.Proofs.Tryz

set_option maxRecDepth 100000
set_option maxHeartbeats 4000000
set_option linter.unusedVariables false
set_option linter.unusedSimpArgs false
namespace Go.Proofs.Tryz
open Go Ps
end Go.Proofs.Tryz

set_option maxRecDepth 100000
set_option maxHeartbeats 4000000
set_option linter.unusedVariables false
set_option linter.unusedSimpArgs false
namespace Go.Proofs.Tryz
open Go Ps
end Go.Proofs.Tryz

set_option maxRecDepth 100000
set_option maxHeartbeats 4000000
set_option linter.unusedVariables false
set_option linter.unusedSimpArgs false
namespace Go.Proofs.Tryz
open Go Ps
def ttQ : TT := [(3, ⟨.int .i64, 1, 8, [.int .i64 0]⟩), (4, ⟨.bool, 1, 1, [.bool false]⟩), (5, ⟨.int .u8, 1, 1, [.int .u8 0]⟩), (9, ⟨.str, 1, 16, [.str []]⟩), (26, ⟨.slice 5, 1, 24, [.slice 0 [] (some 5)]⟩), (25, ⟨.strct [(9, 0), (9, 1)], 2, 32, [.str [], .str []]⟩), (31, ⟨.int .i64, 1, 8, [.int .i64 0]⟩), (43, ⟨.arr 32 5, 32, 32, List.replicate 32 (.int .u8 0)⟩), (50, ⟨.strct [(25, 0), (43, 2), (9, 34), (3, 35), (3, 36)], 37, 96, [.str [], .str []] ++ List.replicate 32 (.int .u8 0) ++ [.str [], .int .i64 0, .int .i64 0]⟩), (68, ⟨.strct [(25, 0), (3, 2), (3, 3)], 4, 48, [.str [], .str [], .int .i64 0, .int .i64 0]⟩), (54, ⟨.strct [(43, 0), (25, 32), (3, 34), (3, 35), (3, 36)], 37, 88, List.replicate 32 (.int .u8 0) ++ [.str [], .str [], .int .i64 0, .int .i64 0, .int .i64 0]⟩), (303, ⟨.fn, 1, 8, [.nilF]⟩), (215, ⟨.fn, 1, 8, [.nilF]⟩), (146, ⟨.ptr, 1, 8, [.ptr none]⟩), (148, ⟨.strct [(26, 0), (4, 1)], 2, 32, [.slice 0 [] (some 5), .bool false]⟩), (285, ⟨.ptr, 1, 8, [.ptr none]⟩), (287, ⟨.strct [(285, 0)], 1, 8, [.ptr none]⟩), (323, ⟨.slice 3, 1, 24, [.slice 0 [] (some 3)]⟩), (255, ⟨.slice 26, 1, 24, [.slice 0 [] (some 26)]⟩)]
theorem ttQ_ok : ttOk prog ttQ = true := by kernel_rfl
def imm107 : List Nat := [1]
end Go.Proofs.Tryz

set_option maxRecDepth 100000
set_option maxHeartbeats 4000000
set_option linter.unusedVariables false
set_option linter.unusedSimpArgs false
namespace Go.Proofs.Tryz
open Go Ps
structure Rpt where
  k : Nat → UInt8
  r : List UInt8
  n : List UInt8
  st : Int
  en : Int
  nc : Int
def Rpt.cells (p : Rpt) : List PV := keyC p.k ++ [.str p.r, .str p.n] ++ [.int .i64 p.st] ++ [.int .i64 p.en] ++ [.int .i64 p.nc]
def isRptB (p : Rpt) : Bool := isPrincB p.r p.n && (inZ p.st 0 1073741824 && inZ p.en 0 1073741824) && inZ p.nc 0 1073741824
def rptL (p : Rpt) : List UInt8 := wrapB 122 [wrapB 4 (keyB p.k), princE p.r p.n, intE p.st, intE p.en, intE p.nc].flatten
def encRV (p : Rpt) : PV := if isRptB p = true ∧ (rptL p).length ≤ 2000 then .tup [sl (rptL p), .int .i64 0] else .tup [sl [], .int .i64 1]
theorem encRV_yes {p : Rpt} (h : isRptB p = true ∧ (rptL p).length ≤ 2000) : encRV p = .tup [sl (rptL p), .int .i64 0] := if_pos h
theorem encRV_no {p : Rpt} (h : ¬ (isRptB p = true ∧ (rptL p).length ≤ 2000)) : encRV p = .tup [sl [], .int .i64 1] := if_neg h
theorem rpt_len (p : Rpt) : (rptL p).length ≤ p.r.length + p.n.length + 100 := by
  have h0 := wrapB_len 122 [wrapB 4 (keyB p.k), princE p.r p.n, intE p.st, intE p.en, intE p.nc].flatten
  have e0 := wrapB_len 4 (keyB p.k)
  have e1 := princE_len p.r p.n
  have e2 := intE_len p.st
  have e3 := intE_len p.en
  have e4 := intE_len p.nc
  have ek := keyB_len p.k
  simp only [List.flatten_cons, List.flatten_nil, List.length_append, List.length_nil] at h0
  unfold rptL
  simp only [List.flatten_cons, List.flatten_nil]
  omega
end Go.Proofs.Tryz

set_option maxRecDepth 100000
set_option maxHeartbeats 4000000
set_option linter.unusedVariables false
set_option linter.unusedSimpArgs false
namespace Go.Proofs.Tryz
open Go Ps
theorem c107 (p : Rpt) (hr : p.r.length ≤ 1000000) (hn : p.n.length ≤ 1000000) : Pure prog 107 [.agg p.cells] (encRV p) := by
  intro H
  have e0 := wrapB_len 4 (keyB p.k)
  have e1 := princE_len p.r p.n
  have e2 := intE_len p.st
  have e3 := intE_len p.en
  have e4 := intE_len p.nc
  have ek := keyB_len p.k
  (refine callOk_of_pFun2 (tt := ttQ) (imm := imm107) follows ttQ_ok depth6 func107 (by kernel_rfl) ?_; (conv => whnf))
  refine drawK_pure2 (by kernel_rfl) ?_
  (conv => whnf)
  iterate 2 (apply Exists.intro; apply And.intro; (focus ((conv => whnf); first | exact ⟨rfl, rfl, trivial⟩ | (refine ⟨by omega, ?_⟩; (conv => whnf); exact ⟨rfl, rfl, trivial⟩))); (conv => whnf))
  refine ⟨_, callK_pure (c97 p.r p.n (by omega) (by omega)) ⟨rfl, rfl, trivial⟩, ?_⟩
  (conv => whnf)
  cases f0 : isPrincB p.r p.n
  · skip
    iterate 15 (apply Exists.intro; apply And.intro; (focus ((conv => whnf); first | exact ⟨rfl, rfl, trivial⟩ | (refine ⟨by omega, ?_⟩; (conv => whnf); exact ⟨rfl, rfl, trivial⟩))); (conv => whnf))
    refine ⟨_, callK_pure (c168p (keyB p.k) (by omega)) ⟨rfl, rfl, trivial⟩, ?_⟩
    (conv => whnf)
    iterate 2 (apply Exists.intro; apply And.intro; (focus ((conv => whnf); first | exact ⟨rfl, rfl, trivial⟩ | (refine ⟨by omega, ?_⟩; (conv => whnf); exact ⟨rfl, rfl, trivial⟩))); (conv => whnf))
    refine ⟨_, callK_pure (c165 p.r p.n hr hn) ⟨rfl, rfl, trivial⟩, ?_⟩
    (conv => whnf)
    iterate 2 (apply Exists.intro; apply And.intro; (focus ((conv => whnf); first | exact ⟨rfl, rfl, trivial⟩ | (refine ⟨by omega, ?_⟩; (conv => whnf); exact ⟨rfl, rfl, trivial⟩))); (conv => whnf))
    refine ⟨_, callK_pure (c166 p.st) ⟨rfl, rfl, trivial⟩, ?_⟩
    (conv => whnf)
    iterate 2 (apply Exists.intro; apply And.intro; (focus ((conv => whnf); first | exact ⟨rfl, rfl, trivial⟩ | (refine ⟨by omega, ?_⟩; (conv => whnf); exact ⟨rfl, rfl, trivial⟩))); (conv => whnf))
    refine ⟨_, callK_pure (c166 p.en) ⟨rfl, rfl, trivial⟩, ?_⟩
    (conv => whnf)
    iterate 2 (apply Exists.intro; apply And.intro; (focus ((conv => whnf); first | exact ⟨rfl, rfl, trivial⟩ | (refine ⟨by omega, ?_⟩; (conv => whnf); exact ⟨rfl, rfl, trivial⟩))); (conv => whnf))
    refine ⟨_, callK_pure (c166 p.nc) ⟨rfl, rfl, trivial⟩, ?_⟩
    (conv => whnf)
    (apply Exists.intro; apply And.intro; (focus ((conv => whnf); first | exact ⟨rfl, rfl, trivial⟩ | (refine ⟨by omega, ?_⟩; (conv => whnf); exact ⟨rfl, rfl, trivial⟩))); (conv => whnf))
    refine ⟨_, callK_pure (c164p 122 [wrapB 4 (keyB p.k), princE p.r p.n, intE p.st, intE p.en, intE p.nc] (by simp) (by simp only [List.flatten_cons, List.flatten_nil, List.length_append, List.length_nil]; omega)) ⟨rfl, rfl, trivial⟩, ?_⟩
    (conv => whnf)
    have hb : isRptB p = false := by unfold isRptB; simp only [f0, Bool.and_true, Bool.true_and, Bool.and_false, Bool.false_and]
    refine ⟨_, callK_pure ((c103 false (rptL p)).of_eq (limV_no (fun h => by cases h.1))) ⟨rfl, rfl, trivial⟩, ?_⟩
    (conv => whnf)
    iterate 4 (apply Exists.intro; apply And.intro; (focus ((conv => whnf); first | exact ⟨rfl, rfl, trivial⟩ | (refine ⟨by omega, ?_⟩; (conv => whnf); exact ⟨rfl, rfl, trivial⟩))); (conv => whnf))
    exact ⟨(encRV_no (fun h => by rw [hb] at h; cases h.1)).symm, rfl⟩
  iterate 6 (apply Exists.intro; apply And.intro; (focus ((conv => whnf); first | exact ⟨rfl, rfl, trivial⟩ | (refine ⟨by omega, ?_⟩; (conv => whnf); exact ⟨rfl, rfl, trivial⟩))); (conv => whnf))
  refine ⟨_, callK_pure ((c158 [p.st, p.en] (by simp)).of_eq (show PV.bool (inZ p.st 0 1073741824 && (inZ p.en 0 1073741824 && true)) = .bool (inZ p.st 0 1073741824 && inZ p.en 0 1073741824) by rw [Bool.and_true])) ⟨rfl, rfl, trivial⟩, ?_⟩
  (conv => whnf)
  cases f1 : (inZ p.st 0 1073741824 && inZ p.en 0 1073741824)
  · skip
    iterate 8 (apply Exists.intro; apply And.intro; (focus ((conv => whnf); first | exact ⟨rfl, rfl, trivial⟩ | (refine ⟨by omega, ?_⟩; (conv => whnf); exact ⟨rfl, rfl, trivial⟩))); (conv => whnf))
    refine ⟨_, callK_pure (c168p (keyB p.k) (by omega)) ⟨rfl, rfl, trivial⟩, ?_⟩
    (conv => whnf)
    iterate 2 (apply Exists.intro; apply And.intro; (focus ((conv => whnf); first | exact ⟨rfl, rfl, trivial⟩ | (refine ⟨by omega, ?_⟩; (conv => whnf); exact ⟨rfl, rfl, trivial⟩))); (conv => whnf))
    refine ⟨_, callK_pure (c165 p.r p.n hr hn) ⟨rfl, rfl, trivial⟩, ?_⟩
    (conv => whnf)
    iterate 2 (apply Exists.intro; apply And.intro; (focus ((conv => whnf); first | exact ⟨rfl, rfl, trivial⟩ | (refine ⟨by omega, ?_⟩; (conv => whnf); exact ⟨rfl, rfl, trivial⟩))); (conv => whnf))
    refine ⟨_, callK_pure (c166 p.st) ⟨rfl, rfl, trivial⟩, ?_⟩
    (conv => whnf)
    iterate 2 (apply Exists.intro; apply And.intro; (focus ((conv => whnf); first | exact ⟨rfl, rfl, trivial⟩ | (refine ⟨by omega, ?_⟩; (conv => whnf); exact ⟨rfl, rfl, trivial⟩))); (conv => whnf))
    refine ⟨_, callK_pure (c166 p.en) ⟨rfl, rfl, trivial⟩, ?_⟩
    (conv => whnf)
    iterate 2 (apply Exists.intro; apply And.intro; (focus ((conv => whnf); first | exact ⟨rfl, rfl, trivial⟩ | (refine ⟨by omega, ?_⟩; (conv => whnf); exact ⟨rfl, rfl, trivial⟩))); (conv => whnf))
    refine ⟨_, callK_pure (c166 p.nc) ⟨rfl, rfl, trivial⟩, ?_⟩
    (conv => whnf)
    (apply Exists.intro; apply And.intro; (focus ((conv => whnf); first | exact ⟨rfl, rfl, trivial⟩ | (refine ⟨by omega, ?_⟩; (conv => whnf); exact ⟨rfl, rfl, trivial⟩))); (conv => whnf))
    refine ⟨_, callK_pure (c164p 122 [wrapB 4 (keyB p.k), princE p.r p.n, intE p.st, intE p.en, intE p.nc] (by simp) (by simp only [List.flatten_cons, List.flatten_nil, List.length_append, List.length_nil]; omega)) ⟨rfl, rfl, trivial⟩, ?_⟩
    (conv => whnf)
    have hb : isRptB p = false := by unfold isRptB; simp only [f0, f1, Bool.and_true, Bool.true_and, Bool.and_false, Bool.false_and]
    refine ⟨_, callK_pure ((c103 false (rptL p)).of_eq (limV_no (fun h => by cases h.1))) ⟨rfl, rfl, trivial⟩, ?_⟩
    (conv => whnf)
    iterate 4 (apply Exists.intro; apply And.intro; (focus ((conv => whnf); first | exact ⟨rfl, rfl, trivial⟩ | (refine ⟨by omega, ?_⟩; (conv => whnf); exact ⟨rfl, rfl, trivial⟩))); (conv => whnf))
    exact ⟨(encRV_no (fun h => by rw [hb] at h; cases h.1)).symm, rfl⟩
  iterate 4 (apply Exists.intro; apply And.intro; (focus ((conv => whnf); first | exact ⟨rfl, rfl, trivial⟩ | (refine ⟨by omega, ?_⟩; (conv => whnf); exact ⟨rfl, rfl, trivial⟩))); (conv => whnf))
  refine ⟨_, callK_pure (c159 p.nc) ⟨rfl, rfl, trivial⟩, ?_⟩
  (conv => whnf)
  cases f2 : inZ p.nc 0 1073741824
  · skip
    iterate 3 (apply Exists.intro; apply And.intro; (focus ((conv => whnf); first | exact ⟨rfl, rfl, trivial⟩ | (refine ⟨by omega, ?_⟩; (conv => whnf); exact ⟨rfl, rfl, trivial⟩))); (conv => whnf))
    refine ⟨_, callK_pure (c168p (keyB p.k) (by omega)) ⟨rfl, rfl, trivial⟩, ?_⟩
    (conv => whnf)
    iterate 2 (apply Exists.intro; apply And.intro; (focus ((conv => whnf); first | exact ⟨rfl, rfl, trivial⟩ | (refine ⟨by omega, ?_⟩; (conv => whnf); exact ⟨rfl, rfl, trivial⟩))); (conv => whnf))
    refine ⟨_, callK_pure (c165 p.r p.n hr hn) ⟨rfl, rfl, trivial⟩, ?_⟩
    (conv => whnf)
    iterate 2 (apply Exists.intro; apply And.intro; (focus ((conv => whnf); first | exact ⟨rfl, rfl, trivial⟩ | (refine ⟨by omega, ?_⟩; (conv => whnf); exact ⟨rfl, rfl, trivial⟩))); (conv => whnf))
    refine ⟨_, callK_pure (c166 p.st) ⟨rfl, rfl, trivial⟩, ?_⟩
    (conv => whnf)
    iterate 2 (apply Exists.intro; apply And.intro; (focus ((conv => whnf); first | exact ⟨rfl, rfl, trivial⟩ | (refine ⟨by omega, ?_⟩; (conv => whnf); exact ⟨rfl, rfl, trivial⟩))); (conv => whnf))
    refine ⟨_, callK_pure (c166 p.en) ⟨rfl, rfl, trivial⟩, ?_⟩
    (conv => whnf)
    iterate 2 (apply Exists.intro; apply And.intro; (focus ((conv => whnf); first | exact ⟨rfl, rfl, trivial⟩ | (refine ⟨by omega, ?_⟩; (conv => whnf); exact ⟨rfl, rfl, trivial⟩))); (conv => whnf))
    refine ⟨_, callK_pure (c166 p.nc) ⟨rfl, rfl, trivial⟩, ?_⟩
    (conv => whnf)
    (apply Exists.intro; apply And.intro; (focus ((conv => whnf); first | exact ⟨rfl, rfl, trivial⟩ | (refine ⟨by omega, ?_⟩; (conv => whnf); exact ⟨rfl, rfl, trivial⟩))); (conv => whnf))
    refine ⟨_, callK_pure (c164p 122 [wrapB 4 (keyB p.k), princE p.r p.n, intE p.st, intE p.en, intE p.nc] (by simp) (by simp only [List.flatten_cons, List.flatten_nil, List.length_append, List.length_nil]; omega)) ⟨rfl, rfl, trivial⟩, ?_⟩
    (conv => whnf)
    have hb : isRptB p = false := by unfold isRptB; simp only [f0, f1, f2, Bool.and_true, Bool.true_and, Bool.and_false, Bool.false_and]
    refine ⟨_, callK_pure ((c103 false (rptL p)).of_eq (limV_no (fun h => by cases h.1))) ⟨rfl, rfl, trivial⟩, ?_⟩
    (conv => whnf)
    iterate 4 (apply Exists.intro; apply And.intro; (focus ((conv => whnf); first | exact ⟨rfl, rfl, trivial⟩ | (refine ⟨by omega, ?_⟩; (conv => whnf); exact ⟨rfl, rfl, trivial⟩))); (conv => whnf))
    exact ⟨(encRV_no (fun h => by rw [hb] at h; cases h.1)).symm, rfl⟩
  iterate 3 (apply Exists.intro; apply And.intro; (focus ((conv => whnf); first | exact ⟨rfl, rfl, trivial⟩ | (refine ⟨by omega, ?_⟩; (conv => whnf); exact ⟨rfl, rfl, trivial⟩))); (conv => whnf))
  refine ⟨_, callK_pure (c168p (keyB p.k) (by omega)) ⟨rfl, rfl, trivial⟩, ?_⟩
  (conv => whnf)
  iterate 2 (apply Exists.intro; apply And.intro; (focus ((conv => whnf); first | exact ⟨rfl, rfl, trivial⟩ | (refine ⟨by omega, ?_⟩; (conv => whnf); exact ⟨rfl, rfl, trivial⟩))); (conv => whnf))
  refine ⟨_, callK_pure (c165 p.r p.n hr hn) ⟨rfl, rfl, trivial⟩, ?_⟩
  (conv => whnf)
  iterate 2 (apply Exists.intro; apply And.intro; (focus ((conv => whnf); first | exact ⟨rfl, rfl, trivial⟩ | (refine ⟨by omega, ?_⟩; (conv => whnf); exact ⟨rfl, rfl, trivial⟩))); (conv => whnf))
  refine ⟨_, callK_pure (c166 p.st) ⟨rfl, rfl, trivial⟩, ?_⟩
  (conv => whnf)
  iterate 2 (apply Exists.intro; apply And.intro; (focus ((conv => whnf); first | exact ⟨rfl, rfl, trivial⟩ | (refine ⟨by omega, ?_⟩; (conv => whnf); exact ⟨rfl, rfl, trivial⟩))); (conv => whnf))
  refine ⟨_, callK_pure (c166 p.en) ⟨rfl, rfl, trivial⟩, ?_⟩
  (conv => whnf)
  iterate 2 (apply Exists.intro; apply And.intro; (focus ((conv => whnf); first | exact ⟨rfl, rfl, trivial⟩ | (refine ⟨by omega, ?_⟩; (conv => whnf); exact ⟨rfl, rfl, trivial⟩))); (conv => whnf))
  refine ⟨_, callK_pure (c166 p.nc) ⟨rfl, rfl, trivial⟩, ?_⟩
  (conv => whnf)
  (apply Exists.intro; apply And.intro; (focus ((conv => whnf); first | exact ⟨rfl, rfl, trivial⟩ | (refine ⟨by omega, ?_⟩; (conv => whnf); exact ⟨rfl, rfl, trivial⟩))); (conv => whnf))
  refine ⟨_, callK_pure (c164p 122 [wrapB 4 (keyB p.k), princE p.r p.n, intE p.st, intE p.en, intE p.nc] (by simp) (by simp only [List.flatten_cons, List.flatten_nil, List.length_append, List.length_nil]; omega)) ⟨rfl, rfl, trivial⟩, ?_⟩
  (conv => whnf)
  have hb : isRptB p = true := by unfold isRptB; simp only [f0, f1, f2, Bool.and_true, Bool.true_and, Bool.and_false, Bool.false_and]
  by_cases hlen : (rptL p).length ≤ 2000
  · have hlim := limV_yes (ok := true) (b := rptL p) ⟨rfl, hlen⟩
    refine ⟨_, callK_pure ((c103 true (rptL p)).of_eq hlim) ⟨rfl, rfl, trivial⟩, ?_⟩
    (conv => whnf)
    iterate 4 (apply Exists.intro; apply And.intro; (focus ((conv => whnf); first | exact ⟨rfl, rfl, trivial⟩ | (refine ⟨by omega, ?_⟩; (conv => whnf); exact ⟨rfl, rfl, trivial⟩))); (conv => whnf))
    exact ⟨(encRV_yes ⟨hb, hlen⟩).symm, rfl⟩
  · have hlim := limV_no (ok := true) (b := rptL p) (fun h => hlen h.2)
    refine ⟨_, callK_pure ((c103 true (rptL p)).of_eq hlim) ⟨rfl, rfl, trivial⟩, ?_⟩
    (conv => whnf)
    iterate 4 (apply Exists.intro; apply And.intro; (focus ((conv => whnf); first | exact ⟨rfl, rfl, trivial⟩ | (refine ⟨by omega, ?_⟩; (conv => whnf); exact ⟨rfl, rfl, trivial⟩))); (conv => whnf))
    exact ⟨(encRV_no (fun h => hlen h.2)).symm, rfl⟩
end Go.Proofs.Tryz

set_option maxRecDepth 100000
set_option maxHeartbeats 4000000
set_option linter.unusedVariables false
set_option linter.unusedSimpArgs false
namespace Go.Proofs.Tryz
open Go Ps
end Go.Proofs.Tryz

set_option maxRecDepth 100000
set_option maxHeartbeats 4000000
set_option linter.unusedVariables false
set_option linter.unusedSimpArgs false
namespace Go.Proofs.Tryz
open Go Ps
theorem partL_le {p : Prt} (h : isPartB p = true) : (partL p).length ≤ 2000 := by
  have h0 := part_len p
  unfold isPartB at h
  simp only [Bool.and_eq_true] at h
  have gp := princ_len h.1.1
  have gt := isText_len h.1.2
  have g_st := inZ_le h.2.1
  have g_en := inZ_le h.2.2
  omega
theorem rptL_le {p : Rpt} (h : isRptB p = true) : (rptL p).length ≤ 2000 := by
  have h0 := rpt_len p
  unfold isRptB at h
  simp only [Bool.and_eq_true] at h
  have gp := princ_len h.1.1
  have g_st := inZ_le h.1.2.1
  have g_en := inZ_le h.1.2.2
  have g_nc := inZ_le h.2
  omega
end Go.Proofs.Tryz

set_option maxRecDepth 100000
set_option maxHeartbeats 4000000
set_option linter.unusedVariables false
set_option linter.unusedSimpArgs false
namespace Go.Proofs.Tryz
open Go Ps
def eBPrt (p : Prt) : List UInt8 := if isPartB p = true then partL p else []
def eEPrt (p : Prt) : Int := if isPartB p = true then 0 else 1
theorem c106s (p : Prt) (hr : p.r.length ≤ 1000000) (hn : p.n.length ≤ 1000000) (ht : p.tr.length ≤ 1000000) : Pure prog 106 [.agg p.cells] (.tup [sl (eBPrt p), .int .i64 (eEPrt p)]) := (c106 p hr hn ht).of_eq (by
  unfold eBPrt eEPrt
  cases h : isPartB p
  · rw [encPV_no (fun hh => by rw [h] at hh; cases hh.1)]; rfl
  · rw [encPV_yes ⟨h, partL_le h⟩]; rfl)
def eBRpt (p : Rpt) : List UInt8 := if isRptB p = true then rptL p else []
def eERpt (p : Rpt) : Int := if isRptB p = true then 0 else 1
theorem c107s (p : Rpt) (hr : p.r.length ≤ 1000000) (hn : p.n.length ≤ 1000000) : Pure prog 107 [.agg p.cells] (.tup [sl (eBRpt p), .int .i64 (eERpt p)]) := (c107 p hr hn).of_eq (by
  unfold eBRpt eERpt
  cases h : isRptB p
  · rw [encRV_no (fun hh => by rw [h] at hh; cases hh.1)]; rfl
  · rw [encRV_yes ⟨h, rptL_le h⟩]; rfl)
end Go.Proofs.Tryz

set_option maxRecDepth 100000
set_option maxHeartbeats 1000000
set_option linter.unusedVariables false
set_option linter.unusedSimpArgs false
namespace Go.Proofs.Tryz
open Go Ps
def ttS : TT := [(2, ⟨.int .i64, 1, 8, [.int .i64 0]⟩), (3, ⟨.int .i64, 1, 8, [.int .i64 0]⟩), (4, ⟨.bool, 1, 1, [.bool false]⟩), (5, ⟨.int .u8, 1, 1, [.int .u8 0]⟩), (26, ⟨.slice 5, 1, 24, [.slice 0 [] (some 5)]⟩), (126, ⟨.ptr, 1, 8, [.ptr none]⟩), (238, ⟨.ptr, 1, 8, [.ptr none]⟩), (221, ⟨.arr 16 5, 16, 16, List.replicate 16 (.int .u8 0)⟩), (132, ⟨.strB [(129, 0), (130, 0), (2, 0)], 1, 8, [.int .i64 0]⟩), (241, ⟨.strct [(238, 0), (221, 1), (132, 17), (132, 18), (132, 19)], 20, 48, [.ptr none] ++ List.replicate 16 (.int .u8 0) ++ [.int .i64 0, .int .i64 0, .int .i64 0]⟩), (142, ⟨.int .u64, 1, 8, [.int .u64 0]⟩), (255, ⟨.slice 26, 1, 24, [.slice 0 [] (some 26)]⟩), (220, ⟨.ptr, 1, 8, [.ptr none]⟩), (226, ⟨.int .u32, 1, 4, [.int .u32 0]⟩), (282, ⟨.slice 226, 1, 24, [.slice 0 [] (some 226)]⟩)]
theorem ttS_ok : ttOk prog ttS = true := by kernel_rfl
def imm110 : List Nat := []
def imm53 : List Nat := []
def imm171 : List Nat := []
def imm172 : List Nat := [5]
def imm174 : List Nat := []
def imm173 : List Nat := []
def imm108 : List Nat := []
def imm225 : List Nat := []
def imm224y : List Nat := []
theorem c175 {H : PH} {id off : Nat} {o : PObj} {n : Int} (m : Int) (ho : H[id]? = some o) (hc : o.cs[off]? = some (.int .i64 n)) :
    CallOk prog 175 [.ptr (some (id, off)), .int .i64 m] H fun r H' => r = .int .i64 (IntKind.i64.wrap (n + m)) ∧ H' = H.set id ⟨o.T, setCells off [.int .i64 (IntKind.i64.wrap (n + m))] o.cs, o.ver + 1⟩ :=
  callOk_add func175 (by kernel_rfl) (by kernel_rfl) (by kernel_rfl) .i64 (by kernel_rfl) m ho hc
theorem c111 {H : PH} {id off : Nat} {o : PObj} {n : Int} (ho : H[id]? = some o) (hc : o.cs[off]? = some (.int .i64 n)) :
    CallOk prog 111 [.ptr (some (id, off))] H fun r H' => r = .int .i64 n ∧ H' = H :=
  callOk_load func111 (by kernel_rfl) (by kernel_rfl) (by kernel_rfl) .i64 (by kernel_rfl) ho hc
theorem c110 {H : PH} {id off : Nat} {o : PObj} {n : Int} (m : Int) (ho : H[id]? = some o) (hc : o.cs[off]? = some (.int .i64 n)) :
    CallOk prog 110 [.ptr (some (id, off)), .int .i64 m] H fun r H' => r = .int .i64 (IntKind.i64.wrap (n + m)) ∧ H' = H.set id ⟨o.T, setCells off [.int .i64 (IntKind.i64.wrap (n + m))] o.cs, o.ver + 1⟩ := by
  (refine callOk_of_pFun2 (tt := ttS) (imm := imm110) follows ttS_ok depth6 func110 (by kernel_rfl) ?_; (conv => whnf))
  refine callK_of (c175 m ho hc) ?_
  rintro _ _ ⟨rfl, rfl⟩
  (conv => whnf)
  exact ⟨rfl, rfl⟩
theorem c53 {H : PH} {id off : Nat} {o : PObj} {n : Int} (ho : H[id]? = some o) (hc : o.cs[off]? = some (.int .i64 n)) :
    CallOk prog 53 [.ptr (some (id, off))] H fun r H' => r = .int .i64 n ∧ H' = H := by
  (refine callOk_of_pFun2 (tt := ttS) (imm := imm53) follows ttS_ok depth6 func53 (by kernel_rfl) ?_; (conv => whnf))
  refine callK_of (c111 ho hc) ?_
  rintro _ _ ⟨rfl, rfl⟩
  (conv => whnf)
  exact ⟨rfl, rfl⟩
def isUseB (u : Int) : Bool := decide (0 ≤ u) && decide (u ≤ 255)
theorem c171 (u : Int) : Pure prog 171 [.int .i64 u] (.bool (isUseB u)) := by
  intro H
  (refine callOk_of_pFun2 (tt := ttS) (imm := imm171) follows ttS_ok depth6 func171 (by kernel_rfl) ?_; (conv => whnf))
  refine ⟨fun h => ?_, fun h => ?_⟩
  · (conv => whnf)
    refine ⟨fun h2 => ?_, fun h2 => ?_⟩
    · (conv => whnf)
      exact ⟨congrArg PV.bool (by unfold isUseB; rw [decide_eq_true h, decide_eq_true h2]; rfl), rfl⟩
    · (conv => whnf)
      exact ⟨congrArg PV.bool (by unfold isUseB; rw [decide_eq_true h, decide_eq_false h2]; rfl), rfl⟩
  · (conv => whnf)
    exact ⟨congrArg PV.bool (by unfold isUseB; rw [decide_eq_false h]; rfl), rfl⟩
def byteI (x : Int) : UInt8 := UInt8.ofNat (x % 256).toNat
theorem byteC_I (x : Int) : PV.int .u8 (IntKind.u8.wrap x) = byteC (byteI x) := by
  show PV.int .u8 (x % (2 ^ IntKind.u8.bits : Int)) = PV.int .u8 (((byteI x).toNat : Nat) : Int)
  have : (2 ^ IntKind.u8.bits : Int) = 256 := by decide
  rw [this]
  unfold byteI
  rw [UInt8.toNat_ofNat']
  congr 1
  omega
/-- A number in eight bytes, the highest first. -/
def bigV (n : Int) : List UInt8 := [byteI (ishr .u64 n 56), byteI (ishr .u64 n 48), byteI (ishr .u64 n 40), byteI (ishr .u64 n 32), byteI (ishr .u64 n 24), byteI (ishr .u64 n 16), byteI (ishr .u64 n 8), byteI (ishr .u64 n 0)]
def bigC (n : Int) (i : Nat) : List PV := List.replicate (8 - i) (.int .u8 0) ++ ((bigV n).map byteC).drop (8 - i)
theorem c172x (n : Int) (H : PH) : CallOk prog 172 [.int .u64 n] H fun r H' => r = .sref H.length 0 8 8 ∧ ∃ v, H' = H ++ [⟨5, (bigV n).map byteC, v⟩] := by
  (refine callOk_of_pFun2 (tt := ttS) (imm := imm172) follows ttS_ok depth6 func172 (by kernel_rfl) ?_; (conv => whnf))
  refine ⟨by decide, ?_⟩
  (conv => whnf)
  refine loopK_of Nat (fun i => [(0, .int .u64 n), (3, .sref H.length 0 8 8), (7, .int .i64 8), (8, .int .i64 i)]) (fun i => H ++ [⟨5, bigC n i, i⟩]) (fun i => i ≤ 8) (fun i => 8 - i) ⟨0, Nat.zero_le _, ⟨rfl, rfl, rfl, rfl, trivial⟩, rfl⟩ ?_
  intro i hi
  match i, hi with
  | 0, _ =>
    (conv => whnf)
    refine ⟨fun _ => ?_, fun h => absurd (show ((0 : Nat) : Int) < 8 by decide) h⟩
    (conv => whnf)
    refine ⟨by decide, ?_⟩
    (conv => whnf)
    refine ⟨⟨by decide, by decide⟩, ?_⟩
    (conv => whnf)
    ((conv in (_[_]?) => tactic => exact (get_last H _)); (conv => whnf))
    refine ⟨1, by decide, ⟨rfl, rfl, rfl, rfl, trivial⟩, ?_, by decide⟩
    refine (set_last H _ _).trans (congrArg (fun o => H ++ [o]) ?_)
    show PObj.mk 5 (setCells 7 [.int .u8 (IntKind.u8.wrap (ishr .u64 n 0))] (bigC n 0)) 1 = PObj.mk 5 (bigC n 1) 1
    rw [byteC_I]
    rfl
  | 1, _ =>
    (conv => whnf)
    refine ⟨fun _ => ?_, fun h => absurd (show ((1 : Nat) : Int) < 8 by decide) h⟩
    (conv => whnf)
    refine ⟨by decide, ?_⟩
    (conv => whnf)
    refine ⟨⟨by decide, by decide⟩, ?_⟩
    (conv => whnf)
    ((conv in (_[_]?) => tactic => exact (get_last H _)); (conv => whnf))
    refine ⟨2, by decide, ⟨rfl, rfl, rfl, rfl, trivial⟩, ?_, by decide⟩
    refine (set_last H _ _).trans (congrArg (fun o => H ++ [o]) ?_)
    show PObj.mk 5 (setCells 6 [.int .u8 (IntKind.u8.wrap (ishr .u64 n 8))] (bigC n 1)) 2 = PObj.mk 5 (bigC n 2) 2
    rw [byteC_I]
    rfl
  | 2, _ =>
    (conv => whnf)
    refine ⟨fun _ => ?_, fun h => absurd (show ((2 : Nat) : Int) < 8 by decide) h⟩
    (conv => whnf)
    refine ⟨by decide, ?_⟩
    (conv => whnf)
    refine ⟨⟨by decide, by decide⟩, ?_⟩
    (conv => whnf)
    ((conv in (_[_]?) => tactic => exact (get_last H _)); (conv => whnf))
    refine ⟨3, by decide, ⟨rfl, rfl, rfl, rfl, trivial⟩, ?_, by decide⟩
    refine (set_last H _ _).trans (congrArg (fun o => H ++ [o]) ?_)
    show PObj.mk 5 (setCells 5 [.int .u8 (IntKind.u8.wrap (ishr .u64 n 16))] (bigC n 2)) 3 = PObj.mk 5 (bigC n 3) 3
    rw [byteC_I]
    rfl
  | 3, _ =>
    (conv => whnf)
    refine ⟨fun _ => ?_, fun h => absurd (show ((3 : Nat) : Int) < 8 by decide) h⟩
    (conv => whnf)
    refine ⟨by decide, ?_⟩
    (conv => whnf)
    refine ⟨⟨by decide, by decide⟩, ?_⟩
    (conv => whnf)
    ((conv in (_[_]?) => tactic => exact (get_last H _)); (conv => whnf))
    refine ⟨4, by decide, ⟨rfl, rfl, rfl, rfl, trivial⟩, ?_, by decide⟩
    refine (set_last H _ _).trans (congrArg (fun o => H ++ [o]) ?_)
    show PObj.mk 5 (setCells 4 [.int .u8 (IntKind.u8.wrap (ishr .u64 n 24))] (bigC n 3)) 4 = PObj.mk 5 (bigC n 4) 4
    rw [byteC_I]
    rfl
  | 4, _ =>
    (conv => whnf)
    refine ⟨fun _ => ?_, fun h => absurd (show ((4 : Nat) : Int) < 8 by decide) h⟩
    (conv => whnf)
    refine ⟨by decide, ?_⟩
    (conv => whnf)
    refine ⟨⟨by decide, by decide⟩, ?_⟩
    (conv => whnf)
    ((conv in (_[_]?) => tactic => exact (get_last H _)); (conv => whnf))
    refine ⟨5, by decide, ⟨rfl, rfl, rfl, rfl, trivial⟩, ?_, by decide⟩
    refine (set_last H _ _).trans (congrArg (fun o => H ++ [o]) ?_)
    show PObj.mk 5 (setCells 3 [.int .u8 (IntKind.u8.wrap (ishr .u64 n 32))] (bigC n 4)) 5 = PObj.mk 5 (bigC n 5) 5
    rw [byteC_I]
    rfl
  | 5, _ =>
    (conv => whnf)
    refine ⟨fun _ => ?_, fun h => absurd (show ((5 : Nat) : Int) < 8 by decide) h⟩
    (conv => whnf)
    refine ⟨by decide, ?_⟩
    (conv => whnf)
    refine ⟨⟨by decide, by decide⟩, ?_⟩
    (conv => whnf)
    ((conv in (_[_]?) => tactic => exact (get_last H _)); (conv => whnf))
    refine ⟨6, by decide, ⟨rfl, rfl, rfl, rfl, trivial⟩, ?_, by decide⟩
    refine (set_last H _ _).trans (congrArg (fun o => H ++ [o]) ?_)
    show PObj.mk 5 (setCells 2 [.int .u8 (IntKind.u8.wrap (ishr .u64 n 40))] (bigC n 5)) 6 = PObj.mk 5 (bigC n 6) 6
    rw [byteC_I]
    rfl
  | 6, _ =>
    (conv => whnf)
    refine ⟨fun _ => ?_, fun h => absurd (show ((6 : Nat) : Int) < 8 by decide) h⟩
    (conv => whnf)
    refine ⟨by decide, ?_⟩
    (conv => whnf)
    refine ⟨⟨by decide, by decide⟩, ?_⟩
    (conv => whnf)
    ((conv in (_[_]?) => tactic => exact (get_last H _)); (conv => whnf))
    refine ⟨7, by decide, ⟨rfl, rfl, rfl, rfl, trivial⟩, ?_, by decide⟩
    refine (set_last H _ _).trans (congrArg (fun o => H ++ [o]) ?_)
    show PObj.mk 5 (setCells 1 [.int .u8 (IntKind.u8.wrap (ishr .u64 n 48))] (bigC n 6)) 7 = PObj.mk 5 (bigC n 7) 7
    rw [byteC_I]
    rfl
  | 7, _ =>
    (conv => whnf)
    refine ⟨fun _ => ?_, fun h => absurd (show ((7 : Nat) : Int) < 8 by decide) h⟩
    (conv => whnf)
    refine ⟨by decide, ?_⟩
    (conv => whnf)
    refine ⟨⟨by decide, by decide⟩, ?_⟩
    (conv => whnf)
    ((conv in (_[_]?) => tactic => exact (get_last H _)); (conv => whnf))
    refine ⟨8, by decide, ⟨rfl, rfl, rfl, rfl, trivial⟩, ?_, by decide⟩
    refine (set_last H _ _).trans (congrArg (fun o => H ++ [o]) ?_)
    show PObj.mk 5 (setCells 0 [.int .u8 (IntKind.u8.wrap (ishr .u64 n 56))] (bigC n 7)) 8 = PObj.mk 5 (bigC n 8) 8
    rw [byteC_I]
    rfl
  | 8, _ =>
    (conv => whnf)
    refine ⟨fun h => absurd h (by decide), fun _ => ?_⟩
    (conv => whnf)
    exact ⟨rfl, 8, rfl⟩
theorem c172 (n : Int) : Pure prog 172 [.int .u64 n] (sl (bigV n)) := fun H => by
  refine CallOk.frz (nn := 8) (cs := (bigV n).map byteC) (c172x n H) fun r H' hh => ?_
  obtain ⟨rfl, v, rfl⟩ := hh
  exact ⟨_, H.length, 8, _, rfl, rfl, Nat.le_refl _, get_last H _, Nat.le_refl _, rfl, rfl⟩
/-- Bytes as a number, the highest first. -/
def beN (l : List UInt8) : Nat := l.foldl (fun n c => n * 256 + c.toNat) 0
theorem beN_snoc (l : List UInt8) (c : UInt8) : beN (l ++ [c]) = beN l * 256 + c.toNat := by simp [beN]
end Go.Proofs.Tryz

/- PSem, part 27: a law over arguments of a bound. -/
set_option linter.unusedSimpArgs false
set_option linter.unusedVariables false
set_option maxRecDepth 100000
namespace Ps
open Go Go.RowKit
section
variable {P : Program}
section
variable {H : Type} {enc : TypeId × Value → H}
end
end
end Ps

/- A call's new row becomes a value of its own. -/
set_option linter.unusedVariables false
namespace Ps
open Go
section
variable {P : Program}
/-- The old objects, of which some were written: what stands in them is flat, or stood there. -/
structure Kept (H H1 : PH) : Prop where
  len : H1.length = H.length
  old : ∀ (id : Nat) (o' : PObj), H1[id]? = some o' → ∃ o, H[id]? = some o ∧ ∀ c, c ∈ o'.cs → flatP c = true ∨ c ∈ o.cs
/-- A row that the call made and answers, and that nobody else has: its cells, by value, of its own. -/
theorem CallOk.own {f : Nat} {args : List PV} {H : PH} {Q : PV → PH → Prop} {R : PH → Prop} {nn e0 sz : Nat} {cs : List PV} (h : CallOk P f args H Q) (hps : psize P e0 = sz) (hsz : 0 < sz) (hcs : cs.length = nn * sz) (hfl : cs.all flatP = true)
    (hq : ∀ r H', Q r H' → ∃ H1 ext id cap o, H' = H1 ++ ext ∧ Kept H H1 ∧ R H1 ∧ r = .sref id 0 nn cap ∧ H.length ≤ id ∧ H'[id]? = some o ∧ o.T = e0 ∧ o.cs.length = cap * sz ∧ o.cs.take cs.length = cs) :
    CallOk P f args H fun r H' => r = .slice nn cs (some e0) ∧ R H' := by
  intro g w vs hs hr
  refine (h g w vs hs hr).mono ?_
  rintro e w' ⟨v, r, H', g', rfl, q, hr', st, ho, hc⟩
  obtain ⟨H1, ext, id0, cap, ob, rfl, hkp, hR, rfl, hid0, hob, hT, hcp, htk⟩ := hq r H' q
  have hl1 := hkp.len
  have h0 : VC P g' w' v (.sref id0 0 nn cap) := hr'.e 0
  have h0 : V g' w' v (.sref id0 0 nn cap) := by
    rcases h0 with h0 | ⟨_, _, _, _, h0, _⟩
    · exact h0
    · cases h0
  obtain ⟨b0, rfl, hb0, hle⟩ := h0.inv_sref
  obtain ⟨us0, o1, o2, o3⟩ := hr'.h.obj id0 b0 ob hob hb0
  have hlen : g.ι.length = H.length := hr.h.len
  have hcl : cs.length ≤ ob.cs.length := by rw [hcp, hcs]; exact Nat.mul_le_mul_right _ hle
  have hfull : ∀ (id b : Nat), id < H.length → g'.ι[id]? = some (some b) → ∃ b0, g.ι[id]? = some (some b0) := fun id b hl h => by
    have hlt : id < g.ι.length := by omega
    cases hx : g.ι[id] with
    | some b0 => exact ⟨b0, by rw [List.getElem?_eq_getElem hlt, hx]⟩
    | none =>
      have := st.nil id (by rw [List.getElem?_eq_getElem hlt, hx])
      rw [h] at this; cases this
  have hnew : w.heap.size ≤ b0 := by
    rcases st.ι id0 b0 hb0 with h | h
    · exact absurd (List.getElem?_eq_some_iff.1 h).1 (by omega)
    · exact h
  let I2 : Nat → Nat → Prop := fun b o => g'.I b o ∨ (b = b0 ∧ o < cs.length)
  have hI2 : ∀ b o, g'.I b o → I2 b o := fun b o h => .inl h
  have htake : ∀ (id b : Nat), (g'.ι.take H.length)[id]? = some (some b) → id < H.length ∧ g'.ι[id]? = some (some b) := fun id b hi => by
    rw [List.getElem?_take] at hi
    split at hi
    · exact ⟨by assumption, hi⟩
    · cases hi
  have hmk : ∀ (id b : Nat), id < g.ι.length → g'.ι[id]? = some (some b) → (g'.ι.take H.length)[id]? = some (some b) := fun id b hl hi => by
    rw [List.getElem?_take, if_pos (by omega)]; exact hi
  have hsub : ∀ (id b : Nat), (g'.ι.take H.length)[id]? = some (some b) → g'.ι[id]? = some (some b) := fun id b hi => (htake id b hi).2
  have hne : ∀ (id : Nat), (g'.ι.take H.length)[id]? ≠ some (some b0) := fun id hi => by
    obtain ⟨k1, k2⟩ := htake id b0 hi
    have := hr'.h.inj id id0 b0 k2 hb0
    omega
  have hcell : ∀ id j b, cellOwnAt ⟨g'.ι.take H.length, I2⟩ w' H1 id j b → cellOwnAt g' w' (H1 ++ ext) id j b := fun id j b ⟨o, c, b0, v, h1, h2, h3, h4, h5, h6⟩ =>
    ⟨o, c, b0, v, by rw [List.getElem?_append_left (List.getElem?_eq_some_iff.1 h1).1]; exact h1, h2, h3, hsub _ _ h4, h5, h6⟩
  have hown : ∀ {u : Value} {n : Nat} {cs' : List PV} {e b : Nat}, OwnF P g' w' u n cs' e b → OwnF P ⟨g'.ι.take H.length, I2⟩ w' u n cs' e b := fun hf =>
    ⟨hf.ex, fun id hi => hf.obj id (hsub id _ hi), fun o ho hi => by
      rcases hi with hi | ⟨rfl, _⟩
      · exact hf.spare o ho hi
      · exact hf.obj id0 hb0⟩
  have hv : V ⟨g'.ι.take H.length, I2⟩ w' (.slice (some ⟨b0, 0, none⟩) nn cap) (.slice nn cs none) := by
    refine .slice b0 0 nn cap cs (fun j => us0.getD j undef) hle (fun j c hj => ?_) fun j c hj => ?_
    · have hlt : j < cs.length := (List.getElem?_eq_some_iff.1 hj).1
      refine ⟨.inr ⟨rfl, by omega⟩, ?_⟩
      rw [cell?_cells o1, Nat.zero_add]
      have : j < us0.size := by rw [o2]; omega
      simp [this]
    · have hlt : j < cs.length := (List.getElem?_eq_some_iff.1 hj).1
      have hoc : ob.cs[j]? = some c := by
        rw [← htk, List.getElem?_take, if_pos hlt] at hj; exact hj
      obtain ⟨u, y1, y2⟩ := o3 j c hoc
      have hcf : flatP c = true := List.all_eq_true.1 hfl c (List.mem_of_getElem? hj)
      simp only [Array.getD_eq_getD_getElem?, y1, Option.getD_some]
      exact (y2.flat hcf).flat hcf
  have hnI : ∀ o, ¬ g'.I b0 o := fun o hi => (hr'.h.imm b0 o hi).1 id0 hb0
  have hf : OwnF P ⟨g'.ι.take H.length, I2⟩ w' (.slice (some ⟨b0, 0, none⟩) nn cap) nn cs e0 b0 := by
    refine ⟨⟨cap, us0, rfl, hle, by rw [← hT]; exact o1, by rw [hps]; exact hsz, by rw [hps]; exact hcs, by rw [hps, o2]; exact hcp⟩, hne, fun o ho hi => ?_⟩
    rcases hi with hi | ⟨_, hi⟩
    · exact hnI o hi
    · omega
  have hget : ∀ t, VC P ⟨g'.ι.take H.length, I2⟩ w' (one (.slice (some ⟨b0, 0, none⟩) nn cap) t) (Env.get [(0, .slice nn cs (some e0))] t) := fun t => by
    rw [Env.get_cons]
    unfold one
    by_cases e : t = 0
    · rw [if_pos e, if_pos e.symm]; exact .inr ⟨nn, cs, e0, b0, rfl, hv, hf⟩
    · rw [if_neg e, if_neg (Ne.symm e)]; exact (V.undef _).vc
  have hwho : ∀ t i b, ownAt (one (.slice (some ⟨b0, 0, none⟩) nn cap) t) (Env.get [(0, .slice nn cs (some e0))] t) i b → t = 0 ∧ i = 0 ∧ b = b0 := fun t i b h => by
    rw [Env.get_cons] at h
    unfold one at h
    by_cases e : t = 0
    · rw [if_pos e, if_pos e.symm] at h
      exact ⟨e, h.1, (Option.some.inj h.2.2).symm⟩
    · rw [if_neg (Ne.symm e)] at h; cases h.2.1
  have hnc : ¬ cellOwn g' w' (H1 ++ ext) b0 := by
    rintro ⟨id, j, o, c, b1, u, h1, h2, h3, h4, h5, h6⟩
    obtain ⟨vs, k1, k2, k3⟩ := hr'.h.obj id b1 o h1 h4
    obtain ⟨u', y1, y2⟩ := k3 j c h2
    rw [cell?_cells k1, y1] at h5
    obtain rfl := Option.some.inj h5
    rcases y2 with y2 | ⟨n, cs', e, bb, rfl, _, hf'⟩
    · cases c with
      | slice n cs' o' =>
        cases o' with
        | some e =>
          obtain ⟨rfl, rfl, rfl⟩ := y2.own_nil
          cases y2; cases h6
        | none => cases h3
      | _ => cases h3
    · obtain ⟨cap', vs', rfl, _⟩ := hf'.ex
      have : bb = b0 := Option.some.inj h6
      subst this
      exact hf'.obj id0 hb0
  refine ⟨_, .slice nn cs (some e0), H1, ⟨g'.ι.take H.length, I2⟩, rfl, ⟨rfl, hR⟩, ⟨⟨?_, fun id id' b h1 h2 => hr'.h.inj id id' b (hsub _ _ h1) (hsub _ _ h2), trivial, fun id b o h1 h2 => ?_, fun b o hi => ?_⟩, hget, fun t i t' i' b h h' => ?_, fun t i b h hh => ?_, fun id j id' j' b h1 h2 => hr'.cc id j id' j' b (hcell _ _ _ h1) (hcell _ _ _ h2)⟩,
    ⟨⟨fun id o ho => ?_, fun id b o o' hi h1 h2 hv => ?_⟩, st.os, st.tape, st.output, st.size, ⟨fun id b hi => hmk id b (List.getElem?_eq_some_iff.1 hi).1 (st.keeps.ι id b hi), fun b o hi => ⟨.inl (st.keeps.I b o hi).1, (st.keeps.I b o hi).2⟩⟩, fun id b hi => st.ι id b (hsub id b hi), fun b hb h1 h2 => ?_, fun id h => by
      have hlt := (List.getElem?_eq_some_iff.1 h).1
      show (g'.ι.take H.length)[id]? = some none
      rw [List.getElem?_take, if_pos (by omega)]; exact st.nil id h⟩,
    fun i b h => ?_, fun b ⟨id, j, h1⟩ => hc b ⟨id, j, hcell _ _ _ h1⟩⟩
  · have := hr'.h.len
    simp at this ⊢
    omega
  · obtain ⟨hl, h2'⟩ := htake id b h2
    obtain ⟨us, k1, k2, k3⟩ := hr'.h.obj id b o (by rw [List.getElem?_append_left (by omega)]; exact h1) h2'
    refine ⟨us, k1, k2, fun j c hj => ?_⟩
    obtain ⟨u, y1, y2⟩ := k3 j c hj
    refine ⟨u, y1, ?_⟩
    obtain ⟨b1, hb1⟩ := hfull id b hl h2'
    obtain ⟨oo, q1, q2⟩ := hkp.old id o h1
    rcases q2 c (List.mem_of_getElem? hj) with hcf | hcm
    · exact .inl ((y2.flat hcf).flat hcf)
    obtain ⟨j0, hj0⟩ := List.getElem?_of_mem hcm
    obtain ⟨us1, z1, z2, z3⟩ := hr.h.obj id b1 oo q1 hb1
    obtain ⟨u0, x1, x2⟩ := z3 j0 c hj0
    have both : ∀ (p : PV) (u u0 : Value), V g w u0 p → V g' w' u p → V ⟨g'.ι.take H.length, I2⟩ w' u p := fun p u u0 a0 a1 => V.both (g := g') (h := a1) (g0 := g) (g' := ⟨g'.ι.take H.length, I2⟩) hI2 hmk a0
    rcases y2 with y2 | ⟨n, cs', e, bb, rfl, hv', hf⟩
    · cases c with
      | slice n cs' o' =>
        cases o' with
        | some e =>
          obtain ⟨rfl, rfl, rfl⟩ := y2.own_nil
          exact .inl (.snil _)
        | none => exact .inl (both _ _ _ x2.dem y2)
      | tup cs' => exact x2.not_tup.elim
      | _ => exact .inl (both _ _ _ x2.dem y2)
    · exact .inr ⟨n, cs', e, bb, rfl, both _ _ _ x2.dem hv', hown hf⟩
  · rcases hi with hi | ⟨rfl, hi⟩
    · obtain ⟨k1, k2⟩ := hr'.h.imm b o hi
      exact ⟨fun id h2 => k1 id (hsub _ _ h2), k2⟩
    · exact ⟨hne, us0, _, _, o1, by rw [o2]; omega⟩
  · obtain ⟨rfl, rfl, _⟩ := hwho t i b h
    obtain ⟨rfl, rfl, _⟩ := hwho t' i' b h'
    exact ⟨rfl, rfl⟩
  · obtain ⟨_, _, rfl⟩ := hwho t i b h
    obtain ⟨id, j, h2⟩ := hh
    exact hnc ⟨id, j, hcell _ _ _ h2⟩
  · obtain ⟨o', k1, k2⟩ := st.fr.more id o ho
    have := (List.getElem?_eq_some_iff.1 ho).1
    rw [List.getElem?_append_left (by omega)] at k1
    exact ⟨o', k1, k2⟩
  · have := (List.getElem?_eq_some_iff.1 h1).1
    exact st.fr.same id b o o' hi h1 (by rw [List.getElem?_append_left (by omega)]; exact h2) hv
  · obtain ⟨k1, k2⟩ := st.far b hb h1 h2
    refine ⟨k1, fun o hi => ?_⟩
    rcases hi with hi | ⟨rfl, _⟩
    · exact k2 o hi
    · omega
  · have : b = b0 := (Option.some.inj h.2.2).symm
    subst this
    exact .inl hnew
end
end Ps

/- A call's own row becomes an object. -/
set_option linter.unusedVariables false
namespace Ps
open Go
section
variable {P : Program}
theorem Imm.flatAt {g : Gh} {w : World} {b off n cap : Nat} {cs : List PV} (h : V g w (.slice (some ⟨b, off, none⟩) n cap) (.slice n cs none)) {j : Nat} {c : PV} (hj : cs[j]? = some c) : ∃ u, w.cell? ⟨b, off + j, none⟩ = some u ∧ V g w u c := by
  cases h with
  | slice _ _ _ _ _ u hn h1 h2 => exact ⟨u j, (h1 j c hj).2, h2 j c hj⟩
/-- A row of its own that a call answers: from now on an object. -/
theorem CallOk.obj {f : Nat} {args : List PV} {H : PH} {n e0 sz : Nat} {cs : List PV} (h : CallOk P f args H fun r H' => r = .slice n cs (some e0) ∧ H' = H) (hn : 0 < n) (hps : psize P e0 = sz) (hfl : cs.all flatP = true) :
    CallOk P f args H fun r H' => ∃ cap k, n ≤ cap ∧ cs.length + k = cap * sz ∧ r = .sref H.length 0 n cap ∧ H' = H ++ [⟨e0, cs ++ List.replicate k .undef, 0⟩] := by
  intro g w vs hs hr
  refine (h g w vs hs hr).mono ?_
  rintro e w' ⟨v, r, H', g', rfl, ⟨rfl, rfl⟩, hr', st, ho, hc⟩
  have h0 : VC P g' w' v (.slice n cs (some e0)) := hr'.e 0
  have h0 : VH P g' w' v (.slice n cs (some e0)) := h0
  obtain ⟨b, hv, hf⟩ : ∃ b, V g' w' v (.slice n cs none) ∧ OwnF P g' w' v n cs e0 b := by
    rcases h0 with h0 | ⟨n', cs', e', b, he, hv, hf⟩
    · have := h0.own_nil.2.1
      omega
    · cases he
      exact ⟨b, hv, hf⟩
  obtain ⟨cap, us, rfl, hle, hus, hp0, hcl, huz⟩ := hf.ex
  rw [hps] at hp0 hcl huz
  have hlen : g.ι.length = H'.length := hr.h.len
  have hlen' : g'.ι.length = H'.length := hr'.h.len
  have hown : ownAt (one (.slice (some ⟨b, 0, none⟩) n cap) 0) (Env.get [(0, .slice n cs (some e0))] 0) 0 b := ⟨rfl, rfl, rfl⟩
  have hnc : ¬ cellOwn g' w' H' b := hr'.sc 0 0 b hown
  have hheap : ∀ (id b1 : Nat) (o : PObj), g.ι[id]? = some (some b1) → H'[id]? = some o → w'.heap[b1]? = w.heap[b1]? := fun id b1 o h1 h2 => (st.fr.same id b1 o o h1 h2 h2 rfl).2
  have hfull : ∀ (id b1 : Nat), id < H'.length → g'.ι[id]? = some (some b1) → g.ι[id]? = some (some b1) := fun id b1 hl h => by
    have hlt : id < g.ι.length := by omega
    cases hx : g.ι[id] with
    | some b0 =>
      have k1 : g.ι[id]? = some (some b0) := by rw [List.getElem?_eq_getElem hlt, hx]
      have k2 := st.keeps.ι id b0 k1
      rw [h] at k2
      cases k2
      exact k1
    | none =>
      have := st.nil id (by rw [List.getElem?_eq_getElem hlt, hx])
      rw [h] at this; cases this
  have hcellold : ∀ id j b1, cellOwnAt g w H' id j b1 → cellOwnAt g' w' H' id j b1 := fun id j b1 ⟨o, c, b0, u, h1, h2, h3, h4, h5, h6⟩ =>
    ⟨o, c, b0, u, h1, h2, h3, st.keeps.ι _ _ h4, by
      obtain ⟨vs1, k1, _⟩ := hr.h.obj id b0 o h1 h4
      have k2 := (hheap id b0 o h4 h1).trans k1
      rw [cell?_cells k2, ← cell?_cells k1]; exact h5, h6⟩
  have hnew : w.heap.size ≤ b := by
    rcases ho 0 b ⟨rfl, rfl, rfl⟩ with h | ⟨id, j, h⟩
    · exact h
    · exact absurd ⟨id, j, hcellold id j b h⟩ hnc
  let g2 : Gh := ⟨g'.ι ++ [some b], fun b1 o => g'.I b1 o ∧ b1 ≠ b⟩
  have hι : ∀ (id b1 : Nat), g2.ι[id]? = some (some b1) → (id < H'.length ∧ g'.ι[id]? = some (some b1)) ∨ (id = H'.length ∧ b1 = b) := fun id b1 hi => by
    by_cases hl : id < H'.length
    · exact .inl ⟨hl, by rw [← hi]; exact (List.getElem?_append_left (by omega)).symm⟩
    · have hlt := (List.getElem?_eq_some_iff.1 hi).1
      simp only [g2, List.length_append, List.length_cons, List.length_nil] at hlt
      have e : id = g'.ι.length := by omega
      subst e
      have : (g'.ι ++ [some b])[g'.ι.length]? = some (some b) := by simp
      rw [show g2.ι[g'.ι.length]? = (g'.ι ++ [some b])[g'.ι.length]? from rfl, this] at hi
      cases hi
      exact .inr ⟨hlen', rfl⟩
  have hold : ∀ (id b1 : Nat), g'.ι[id]? = some (some b1) → g2.ι[id]? = some (some b1) := fun id b1 hi => by
    have hlt := (List.getElem?_eq_some_iff.1 hi).1
    rw [← hi]; exact List.getElem?_append_left hlt
  have hat : g2.ι[H'.length]? = some (some b) := by
    show (g'.ι ++ [some b])[H'.length]? = _
    rw [← hlen']; simp
  have hkeep : Keeps g w g2 w' := ⟨fun id b1 hi => hold _ _ (st.keeps.ι id b1 hi), fun b1 o hi => ⟨⟨(st.keeps.I b1 o hi).1, fun e => by
    have := hr.h.ilt hi
    omega⟩, (st.keeps.I b1 o hi).2⟩⟩
  have hget2 : ∀ (t : Nat) (x : PObj), (H' ++ [x])[t]? = if t < H'.length then H'[t]? else if t = H'.length then some x else none := fun t x => by
    split
    · exact List.getElem?_append_left (by assumption)
    · split
      · rename_i h1 h2; subst h2; simp
      · rw [List.getElem?_eq_none (by simp; omega)]
  generalize hX : PObj.mk e0 (cs ++ List.replicate (cap * sz - cs.length) .undef) 0 = X
  have hXc : ∀ (j : Nat) (c : PV), X.cs[j]? = some c → (flatP c = true ∧ cs[j]? = some c) ∨ (c = .undef ∧ j < cap * sz) := fun j c hj => by
    subst hX
    by_cases hl : j < cs.length
    · rw [List.getElem?_append_left hl] at hj
      exact .inl ⟨List.all_eq_true.1 hfl c (List.mem_of_getElem? hj), hj⟩
    · rw [List.getElem?_append_right (by omega)] at hj
      have h1 := (List.getElem?_eq_some_iff.1 hj).1
      rw [List.length_replicate] at h1
      rw [List.getElem?_replicate, if_pos h1] at hj
      exact .inr ⟨(Option.some.inj hj).symm, by omega⟩
  have hcc : ∀ id j b1, cellOwnAt g2 w' (H' ++ [X]) id j b1 → cellOwnAt g' w' H' id j b1 := fun id j b1 ⟨o, c, b0, u, h1, h2, h3, h4, h5, h6⟩ => by
    rcases hι _ _ h4 with ⟨k1, k2⟩ | ⟨k1, k2⟩
    · rw [List.getElem?_append_left k1] at h1
      exact ⟨o, c, b0, u, h1, h2, h3, k2, h5, h6⟩
    · subst k1
      have : (H' ++ [X])[H'.length]? = some X := by simp
      rw [this] at h1; cases h1
      rcases hXc j c h2 with ⟨q, _⟩ | ⟨rfl, _⟩
      · cases c <;> first | (cases q; done) | (cases h3; done)
      · cases h3
  have hno : ∀ t i b1, ¬ ownAt (one (.slice (some ⟨b, 0, none⟩) n cap) t) (Env.get [(0, .sref H'.length 0 n cap)] t) i b1 := fun t i b1 h => by
    rw [Env.get_cons] at h
    unfold one at h
    by_cases e : t = 0
    · rw [if_pos e, if_pos e.symm] at h; cases h.2.1
    · rw [if_neg (Ne.symm e)] at h; cases h.2.1
  have hcs : cs.length ≤ cap * sz := by rw [hcl]; exact Nat.mul_le_mul_right _ hle
  refine ⟨_, .sref H'.length 0 n cap, H' ++ [X], g2, rfl, ⟨cap, cap * sz - cs.length, hle, by omega, rfl, by rw [hX]⟩, ⟨⟨?_, fun id id' b1 h1 h2 => ?_, trivial, fun id b1 o h1 h2 => ?_, fun b1 o hi => ?_⟩, fun t => ?_, fun t i t' i' b1 h _ => absurd h (hno t i b1), fun t i b1 h _ => hno t i b1 h, fun id j id' j' b1 h1 h2 => hr'.cc id j id' j' b1 (hcc _ _ _ h1) (hcc _ _ _ h2)⟩,
    ⟨⟨fun id o h => ⟨o, by rw [List.getElem?_append_left (List.getElem?_eq_some_iff.1 h).1]; exact h, Nat.le_refl _⟩, fun id b1 o o' hi h1 h2 hv => ?_⟩, st.os, st.tape, st.output, st.size, hkeep, fun id b1 hi => ?_, fun b1 hb h1 h2 => ?_, fun id h => ?_⟩,
    fun i b1 h => ?_, fun b1 ⟨id, j, h1⟩ => hc b1 ⟨id, j, hcc _ _ _ h1⟩⟩
  · show (g'.ι ++ [some b]).length = _
    simp [hlen']
  · rcases hι _ _ h1 with ⟨a1, a2⟩ | ⟨a1, a2⟩ <;> rcases hι _ _ h2 with ⟨c1, c2⟩ | ⟨c1, c2⟩
    · exact hr'.h.inj id id' b1 a2 c2
    · subst c2; exact absurd a2 (hf.obj id)
    · subst a2; exact absurd c2 (hf.obj id')
    · omega
  · rcases hι _ _ h2 with ⟨a1, a2⟩ | ⟨a1, a2⟩
    · rw [List.getElem?_append_left a1] at h1
      obtain ⟨us1, k1, k2, k3⟩ := hr'.h.obj id b1 o h1 a2
      have hg := hfull id b1 a1 a2
      obtain ⟨us2, z1, z2, z3⟩ := hr.h.obj id b1 o h1 hg
      have := (hheap id b1 o hg h1).trans z1
      rw [k1] at this
      cases this
      refine ⟨us1, k1, k2, fun j c hj => ?_⟩
      obtain ⟨u, y1, y2⟩ := k3 j c hj
      obtain ⟨u', x1, x2⟩ := z3 j c hj
      rw [y1] at x1; cases x1
      refine ⟨u, y1, ?_⟩
      rcases x2 with x2 | ⟨nn, cc, ee, bb, rfl, xv, xf⟩
      · exact .inl (x2.mono hkeep)
      · rcases y2 with y2 | ⟨_, _, _, bb', he, yv, yf⟩
        · obtain ⟨rfl, rfl, rfl⟩ := y2.own_nil
          exact .inl (.snil _)
        · cases he
          refine .inr ⟨nn, cc, ee, bb', rfl, xv.mono hkeep, ⟨yf.ex, fun id2 hi => ?_, fun o2 ho2 hi => yf.spare o2 ho2 hi.1⟩⟩
          rcases hι _ _ hi with ⟨_, q⟩ | ⟨_, q⟩
          · exact yf.obj id2 q
          · subst q
            exact hnc ⟨id, j, o, _, b1, u, h1, hj, rfl, a2, by rw [cell?_cells k1]; exact y1, yf.blk⟩
    · subst a1; subst a2
      have : (H' ++ [X])[H'.length]? = some X := by simp
      rw [this] at h1; cases h1
      refine ⟨us, by rw [← hX]; exact hus, ?_, fun j c hj => ?_⟩
      · rw [huz, ← hX]
        simp only [List.length_append, List.length_replicate]
        omega
      · rcases hXc j c hj with ⟨q1, q2⟩ | ⟨rfl, q2⟩
        · obtain ⟨u, x1, x2⟩ := Imm.flatAt hv q2
          rw [Nat.zero_add, cell?_cells hus] at x1
          exact ⟨u, x1, .inl (x2.flat q1)⟩
        · have hj2 : j < us.size := by omega
          exact ⟨us[j], by simp [hj2], .inl (.undef _)⟩
  · obtain ⟨k1, k2⟩ := hr'.h.imm b1 o hi.1
    refine ⟨fun id h2 => ?_, k2⟩
    rcases hι _ _ h2 with ⟨_, q⟩ | ⟨_, q⟩
    · exact k1 id q
    · exact hi.2 q
  · rw [Env.get_cons]
    unfold one
    by_cases e : t = 0
    · rw [if_pos e, if_pos e.symm]; exact (V.sref _ b 0 n cap hat hle).vc
    · rw [if_neg e, if_neg (Ne.symm e)]; exact (V.undef _).vc
  · have hl := (List.getElem?_eq_some_iff.1 h1).1
    rw [List.getElem?_append_left hl, h1] at h2
    cases h2
    exact ⟨rfl, hheap id b1 o hi h1⟩
  · rcases hι _ _ hi with ⟨_, q⟩ | ⟨_, q⟩
    · exact st.ι id b1 q
    · subst q; exact .inr hnew
  · obtain ⟨k1, k2⟩ := st.far b1 hb h1 h2
    exact ⟨k1, fun o hi => k2 o hi.1⟩
  · have := st.nil id h
    have hlt := (List.getElem?_eq_some_iff.1 this).1
    rw [← this]; exact List.getElem?_append_left hlt
  · cases h.2.1
end
end Ps

/- An argument that is nil is a row of nothing. -/
set_option linter.unusedVariables false
namespace Ps
open Go
end Ps

set_option maxRecDepth 100000
set_option maxHeartbeats 1000000
set_option linter.unusedVariables false
set_option linter.unusedSimpArgs false
namespace Go.Proofs.Tryz
open Go Ps
/-- Bytes, a value of its own. -/
def ow (b : List UInt8) : PV := .slice b.length (b.map byteC) (some 5)
theorem psize5 : psize prog 5 = 1 := by kernel_rfl
theorem allFlat (b : List UInt8) : (b.map byteC).all flatP = true := List.all_eq_true.2 fun x hx => by
  obtain ⟨b, _, rfl⟩ := List.mem_map.1 hx
  rfl
theorem clone140 (b : List UInt8) (hb : b.length ≤ 140737488355328) : Pure prog 224 [sl b] (ow b) := by
  intro H
  (refine callOk_of_pFun2 (tt := ttS) (imm := imm224y) follows ttS_ok depth6 func224 (by kernel_rfl) ?_; (conv => whnf))
  have happ : (0 + b.length) * 1 ≤ 140737488355328 ∧ (b.map byteC).length = b.length * 1 ∧ (b.map byteC).all oneP = true := ⟨by omega, by simp, allOne b⟩
  refine ⟨fun h => ?_, fun h => ⟨?_, ?_⟩⟩
  · (conv => whnf)
    refine ⟨happ, ?_⟩
    (conv => whnf)
    exact ⟨by rw [Nat.zero_add]; rfl, rfl⟩
  · (conv => whnf)
    have e : b = [] := List.length_eq_zero_iff.1 h
    subst e
    exact ⟨rfl, rfl⟩
  · (conv => whnf)
    refine ⟨happ, ?_⟩
    (conv => whnf)
    exact ⟨by rw [Nat.zero_add]; rfl, rfl⟩
theorem c224o (b : List UInt8) (hb : b.length ≤ 140737488355328) (h0 : 0 < b.length) (H : PH) :
    CallOk prog 224 [sl b] H fun r H' => ∃ cap k, r = .sref H.length 0 b.length cap ∧ b.length + k = cap ∧ H' = H ++ [⟨5, b.map byteC ++ List.replicate k PV.undef, 0⟩] := by
  refine (CallOk.obj (n := b.length) (cs := b.map byteC) (clone140 b hb H) h0 psize5 (allFlat b)).mono fun r H' hh => ?_
  obtain ⟨cap, k, h1, h2, h3, h4⟩ := hh
  rw [List.length_map] at h2
  exact ⟨cap, k, h3, by omega, h4⟩
/-- A Box: its cipher's object, the other half of its key, its counts. -/
def boxS (sid : Nat) (sp : List UInt8) (s o r : Int) (v : Nat) : PObj := ⟨241, [.ptr (some (sid, 0))] ++ sp.map byteC ++ [.int .i64 s, .int .i64 o, .int .i64 r], v⟩
def tagV (sp : List UInt8) (u : Int) (ahead : List UInt8) : List UInt8 := bigV (sipV sp (byteI u :: ahead))
theorem bigV_len (n : Int) : (bigV n).length = 8 := rfl
theorem c174 (sid : Nat) (sp : List UInt8) (hsp : sp.length = 16) (s o r : Int) (v : Nat) (u : Int) (ahead : List UInt8) (ha : ahead.length ≤ 1000000) (bid : Nat) (H : PH) (hb : H[bid]? = some (boxS sid sp s o r v)) :
    CallOk prog 174 [.ptr (some (bid, 0)), .int .i64 u, sl ahead] H fun x H' => x = sl (tagV sp u ahead) ∧ H' = H := by
  obtain ⟨k0, k1, k2, k3, k4, k5, k6, k7, k8, k9, ka, kb, kc, kd, ke, kf, rfl⟩ := len16 hsp
  (refine callOk_of_pFun2 (tt := ttS) (imm := imm174) follows ttS_ok depth6 func174 (by kernel_rfl) ?_; (conv => whnf))
  ((conv in (_[_]?) => tactic => exact hb); (conv => whnf))
  have hfl : [[byteI u], ahead].flatten = byteI u :: ahead := by simp
  have hc := c226 [k0, k1, k2, k3, k4, k5, k6, k7, k8, k9, ka, kb, kc, kd, ke, kf] (by simp) [[byteI u], ahead] (by simp) (by rw [hfl]; simp; omega) (Reps.sl H [[byteI u], ahead])
  rw [hfl] at hc
  refine callK_args (args' := [.agg ([k0, k1, k2, k3, k4, k5, k6, k7, k8, k9, ka, kb, kc, kd, ke, kf].map byteC), .slice 2 ([[byteI u], ahead].map sl) none]) ?_ (callK_of hc ?_)
  · have := byteC_I u
    show [PV.agg _, PV.slice 2 [.slice 1 [.int .u8 (IntKind.u8.wrap u)] none, sl ahead] none] = [PV.agg _, PV.slice 2 [.slice 1 [byteC (byteI u)] none, sl ahead] none]
    rw [this]
    rfl
  rintro _ _ ⟨rfl, rfl⟩
  (conv => whnf)
  refine callK_pure (c172 _) ?_
  (conv => whnf)
  exact ⟨rfl, rfl⟩
def xorL (p st : List UInt8) : List UInt8 := List.zipWith (· ^^^ ·) p st
theorem xorL_len (p st : List UInt8) (h : st.length = p.length) : (xorL p st).length = p.length := by
  unfold xorL; rw [List.length_zipWith]; omega
theorem xor8 (c d : UInt8) : PV.int .u8 (ibits .xor .u8 (c.toNat : Int) (d.toNat : Int)) = byteC (c ^^^ d) := by
  show PV.int .u8 (IntKind.u8.wrap ((BitVec.ofInt 8 (c.toNat : Int) ^^^ BitVec.ofInt 8 (d.toNat : Int)).toNat : Int)) = PV.int .u8 (((c ^^^ d).toNat : Nat) : Int)
  have hb : ∀ {x : UInt8}, BitVec.ofInt 8 (x.toNat : Int) = x.toBitVec := fun {x} => by
    apply BitVec.eq_of_toNat_eq
    rw [BitVec.toNat_ofInt]
    have := x.toNat_lt
    show _ = x.toNat
    omega
  rw [hb, hb]
  have : ((c.toBitVec ^^^ d.toBitVec).toNat) = (c ^^^ d).toNat := rfl
  rw [this]
  congr 1
  have := (c ^^^ d).toNat_lt
  show (((c ^^^ d).toNat : Nat) : Int) % (2 ^ IntKind.u8.bits : Int) = _
  have e : (2 ^ IntKind.u8.bits : Int) = 256 := by decide
  rw [e]; omega
/-- Some bytes done. -/
def curX (p st : List UInt8) (i : Nat) : List UInt8 := (xorL p st).take i ++ p.drop i
theorem curX_len (p st : List UInt8) (i : Nat) (h : st.length = p.length) (hi : i ≤ p.length) : (curX p st i).length = p.length := by
  unfold curX
  rw [List.length_append, List.length_take, List.length_drop, xorL_len p st h]; omega
theorem curX_get (p st : List UInt8) (i : Nat) (h : st.length = p.length) (hi : i < p.length) : (curX p st i)[i]? = some p[i] := by
  unfold curX
  rw [List.getElem?_append_right (by rw [List.length_take, xorL_len p st h]; omega), List.length_take, xorL_len p st h, List.getElem?_drop]
  have : i + (i - min i p.length) = i := by omega
  rw [this]; exact List.getElem?_eq_getElem hi
theorem curX_set (p st : List UInt8) (i : Nat) (h : st.length = p.length) (hi : i < p.length) : (curX p st i).set i (p[i] ^^^ st[i]) = curX p st (i + 1) := by
  unfold curX
  have hx : i < (xorL p st).length := by rw [xorL_len p st h]; exact hi
  rw [List.set_append_right _ _ (by rw [List.length_take]; omega), List.length_take, Nat.min_eq_left (by omega), Nat.sub_self, List.drop_eq_getElem_cons hi, List.set_cons_zero, List.take_succ_eq_append_getElem hx, List.append_assoc, List.singleton_append]
  congr 2
  have : ∀ (a b : List UInt8) (h : i < (List.zipWith (· ^^^ ·) a b).length) (ha : i < a.length) (hb : i < b.length), a[i] ^^^ b[i] = (List.zipWith (· ^^^ ·) a b)[i] := fun a b h ha hb => by simp
  exact this p st hx hi (by omega)
def mixN (nn u : Int) : Int := IntKind.u64.wrap (ishl .u64 nn 8 + IntKind.u64.wrap u)
structure MixS where
  i : Nat
theorem c173x (OkS : PObj → Prop) (so : PObj) (sid : Nat) (nn u : Int) (p st : List UInt8) (hl : st.length = p.length) (hp : 0 < p.length) (hp2 : p.length ≤ 1000000)
    (hst : ∀ H : PH, H[sid]? = some so → CallOk prog 225 [.ptr (some (sid, 0)), .int .u64 (mixN nn u), .int .i64 p.length] H fun r H' => r = sl st ∧ ∃ o', OkS o' ∧ H' = H.set sid o')
    (sp : List UInt8) (hsp : sp.length = 16) (s o r : Int) (v : Nat) (bid : Nat) (H : PH) (hb : H[bid]? = some (boxS sid sp s o r v)) (hs : H[sid]? = some so) :
    CallOk prog 173 [.ptr (some (bid, 0)), .int .i64 u, .int .u64 nn, sl p] H fun x H' => ∃ cap k o' vv, x = .sref H.length 0 p.length cap ∧ p.length + k = cap ∧ OkS o' ∧ H' = H.set sid o' ++ [⟨5, (xorL p st).map byteC ++ List.replicate k PV.undef, vv⟩] := by
  obtain ⟨k0, k1, k2, k3, k4, k5, k6, k7, k8, k9, ka, kb, kc, kd, ke, kf, rfl⟩ := len16 hsp
  have hsl : sid < H.length := (List.getElem?_eq_some_iff.1 hs).1
  (refine callOk_of_pFun2 (tt := ttS) (imm := imm173) follows ttS_ok depth6 func173 (by kernel_rfl) ?_; (conv => whnf))
  refine callK_of (c224o p (by omega) hp H) ?_
  rintro _ _ ⟨cap, k, rfl, hk, rfl⟩
  (conv => whnf)
  have hb' : (H ++ [(⟨5, p.map byteC ++ List.replicate k PV.undef, 0⟩ : PObj)])[bid]? = some (boxS sid [k0, k1, k2, k3, k4, k5, k6, k7, k8, k9, ka, kb, kc, kd, ke, kf] s o r v) := by
    rw [List.getElem?_append_left (List.getElem?_eq_some_iff.1 hb).1]; exact hb
  ((conv in (_[_]?) => tactic => exact hb'); (conv => whnf))
  refine ⟨by decide, ?_⟩
  (conv => whnf)
  refine callK_of (Q := fun r H' => r = sl st ∧ ∃ o', OkS o' ∧ H' = H.set sid o' ++ [⟨5, (curX p st 0).map byteC ++ List.replicate k PV.undef, 0⟩]) ((hst (H ++ [_]) (by rw [List.getElem?_append_left hsl]; exact hs)).mono fun r H' hh => ?_) ?_
  · obtain ⟨h1, o', h2, h3⟩ := hh
    exact ⟨h1, o', h2, by rw [h3, List.set_append_left _ _ hsl]; rfl⟩
  rintro _ _ ⟨rfl, o', ho', rfl⟩
  (conv => whnf)
  have hKl : (H.set sid o').length = H.length := List.length_set
  generalize hK : H.set sid o' = K at hKl
  refine loopK_of MixS (fun x => [(9, .sref H.length 0 p.length cap), (25, sl st), (26, .int .i64 st.length), (27, .int .i64 x.i)]) (fun x => K ++ [⟨5, (curX p st x.i).map byteC ++ List.replicate k PV.undef, x.i⟩]) (fun x => x.i ≤ p.length) (fun x => p.length - x.i) ⟨⟨0⟩, Nat.zero_le _, ⟨rfl, rfl, rfl, rfl, trivial⟩, rfl⟩ ?_
  rintro ⟨i⟩ hi
  replace hi : i ≤ p.length := hi
  have gx : ∀ x : PObj, (K ++ [x])[H.length]? = some x := fun x => by rw [← hKl]; exact get_last K x
  (conv => whnf)
  refine ⟨fun h => ?_, fun h => ?_⟩
  · have h : (i : Int) < st.length := h
    have hi' : i < p.length := by omega
    have his : i < st.length := by omega
    have hcl := curX_len p st i hl hi
    (conv => whnf)
    refine ⟨⟨by omega, h⟩, [byteC st[i]], at1' (k := (i : Int).toNat * 1) (by rw [Int.toNat_natCast, Nat.mul_one, List.getElem?_map, List.getElem?_eq_getElem his]; rfl), ?_⟩
    (conv => whnf)
    refine ⟨⟨by omega, by show (i : Int) < (p.length : Int); omega⟩, ?_⟩
    (conv => whnf)
    ((conv in (_[_]?) => tactic => exact (gx _)); (conv => whnf))
    ((conv in (dropN _ _) => tactic => exact (dropN_app (curX p st i) (List.replicate k PV.undef) (curX_get p st i hl hi'))); (conv => whnf))
    refine ⟨⟨by omega, by show (i : Int) < (p.length : Int); omega⟩, ?_⟩
    (conv => whnf)
    ((conv in (_[_]?) => tactic => exact (gx _)); (conv => whnf))
    ((conv in (Nat.ble _ _) => tactic => exact (show Nat.ble (0 + (i : Int).toNat * 1 + 1) ((curX p st i).map byteC ++ List.replicate k PV.undef).length = true by rw [Nat.ble_eq]; simp [hcl]; omega)); (conv => whnf))
    refine ⟨⟨i + 1⟩, by show i + 1 ≤ p.length; omega, ⟨rfl, rfl, rfl, ?_, trivial⟩, ?_, by show p.length - (i + 1) < p.length - i; omega⟩
    · show PV.int _ (IntKind.i64.wrap ((i : Int) + 1)) = PV.int _ _
      rw [wrap64 (by omega) (by omega)]; simp
    · show (K ++ [_]).set H.length ⟨5, setCells (0 + (i : Int).toNat * 1) [.int .u8 (ibits .xor .u8 (p[i].toNat : Int) (st[i].toNat : Int))] ((curX p st i).map byteC ++ List.replicate k PV.undef), i + 1⟩ = K ++ [⟨5, (curX p st (i + 1)).map byteC ++ List.replicate k PV.undef, i + 1⟩]
      rw [← hKl, set_last, xor8]
      have e : 0 + (i : Int).toNat * 1 = i := by omega
      rw [e, setCells_app _ _ _ _ (by omega), curX_set p st i hl hi']
  · have h : ¬ (i : Int) < st.length := h
    have e : curX p st i = xorL p st := by
      unfold curX
      rw [List.take_of_length_le (by rw [xorL_len p st hl]; omega), List.drop_eq_nil_of_le (by omega), List.append_nil]
    rw [e]
    (conv => whnf)
    exact ⟨cap, k, o', i, rfl, hk, ho', by rw [hK]⟩
theorem get_end {K : PH} {n : Nat} (h : K.length = n) (x : PObj) : (K ++ [x])[n]? = some x := by subst h; exact get_last K x
theorem kept_set {H : PH} {sid : Nat} {o' : PObj} (hs : sid < H.length) (hf : ∀ c ∈ o'.cs, flatP c = true ∨ c ∈ H[sid].cs) : Kept H (H.set sid o') := ⟨List.length_set, fun id o h => by
  by_cases e : id = sid
  · subst e
    rw [List.getElem?_set_self hs] at h
    cases h
    exact ⟨H[id], List.getElem?_eq_getElem hs, hf⟩
  · rw [List.getElem?_set_ne (Ne.symm e)] at h
    exact ⟨o, h, fun c hc => .inr hc⟩⟩
theorem c173 (OkS : PObj → Prop) (hOk : ∀ o', OkS o' → o'.cs.all flatP = true) (so : PObj) (sid : Nat) (nn u : Int) (p st : List UInt8) (hl : st.length = p.length) (hp2 : p.length ≤ 1000000)
    (hst : ∀ H : PH, H[sid]? = some so → CallOk prog 225 [.ptr (some (sid, 0)), .int .u64 (mixN nn u), .int .i64 p.length] H fun r H' => r = sl st ∧ ∃ o', OkS o' ∧ H' = H.set sid o')
    (sp : List UInt8) (hsp : sp.length = 16) (s o r : Int) (v : Nat) (bid : Nat) (H : PH) (hb : H[bid]? = some (boxS sid sp s o r v)) (hs : H[sid]? = some so) :
    CallOk prog 173 [.ptr (some (bid, 0)), .int .i64 u, .int .u64 nn, sl p] H fun x H' => x = sl (xorL p st) ∧ ∃ o', OkS o' ∧ H' = H.set sid o' := by
  have hsl : sid < H.length := (List.getElem?_eq_some_iff.1 hs).1
  rcases Nat.eq_zero_or_pos p.length with hp | hp
  · have hp' : p = [] := List.length_eq_zero_iff.1 hp
    have hst' : st = [] := List.length_eq_zero_iff.1 (by omega)
    subst hp' hst'
    obtain ⟨k0, k1, k2, k3, k4, k5, k6, k7, k8, k9, ka, kb, kc, kd, ke, kf, rfl⟩ := len16 hsp
    (refine callOk_of_pFun2 (tt := ttS) (imm := imm173) follows ttS_ok depth6 func173 (by kernel_rfl) ?_; (conv => whnf))
    refine callK_pure (clone140 [] (by simp)) ?_
    (conv => whnf)
    ((conv in (_[_]?) => tactic => exact hb); (conv => whnf))
    refine ⟨by decide, ?_⟩
    (conv => whnf)
    refine callK_of (hst H hs) ?_
    rintro _ _ ⟨rfl, o', ho', rfl⟩
    (conv => whnf)
    refine loopK_of MixS (fun x => [(9, ow []), (25, sl []), (26, .int .i64 0), (27, .int .i64 0)]) (fun x => H.set sid o') (fun x => True) (fun x => 0) ⟨⟨0⟩, trivial, ⟨rfl, rfl, rfl, rfl, trivial⟩, rfl⟩ ?_
    rintro ⟨i⟩ _
    (conv => whnf)
    refine ⟨fun h => absurd h (by decide), fun _ => ?_⟩
    (conv => whnf)
    exact ⟨rfl, o', ho', rfl⟩
  · have h := c173x OkS so sid nn u p st hl hp hp2 hst sp hsp s o r v bid H hb hs
    refine (CallOk.own (nn := p.length) (cs := (xorL p st).map byteC) (R := fun H' => ∃ o', OkS o' ∧ H' = H.set sid o') h psize5 (by decide) (by rw [List.length_map, xorL_len p st hl, Nat.mul_one]) (allFlat _) (fun x H' hh => ?_)).dem fun x H' hh => ?_
    · obtain ⟨cap, k, o', vv, rfl, hk, ho', rfl⟩ := hh
      refine ⟨H.set sid o', _, H.length, cap, _, rfl, kept_set hsl fun c hc => .inl (List.all_eq_true.1 (hOk o' ho') c hc), ⟨o', ho', rfl⟩, rfl, Nat.le_refl _, get_end List.length_set _, rfl, ?_, ?_⟩
      · show ((xorL p st).map byteC ++ List.replicate k PV.undef).length = _
        rw [List.length_append, List.length_map, List.length_replicate, xorL_len p st hl]; omega
      · show List.take _ ((xorL p st).map byteC ++ List.replicate k PV.undef) = _
        rw [List.take_left]
    · obtain ⟨rfl, hh⟩ := hh
      refine ⟨fun cs hx => (by cases hx), ?_, hh⟩
      unfold sl
      rw [xorL_len p st hl]; rfl
end Go.Proofs.Tryz

set_option maxRecDepth 100000
set_option maxHeartbeats 1000000
set_option linter.unusedVariables false
set_option linter.unusedSimpArgs false
namespace Go.Proofs.Tryz
open Go Ps
theorem Kept.refl (H : PH) : Kept H H := ⟨rfl, fun id o h => ⟨o, h, fun c hc => .inr hc⟩⟩
theorem c172w (n : Int) : Pure prog 172 [.int .u64 n] (ow (bigV n)) := fun H => by
  refine CallOk.own (nn := 8) (cs := (bigV n).map byteC) (R := fun H' => H' = H) (c172x n H) psize5 (by decide) rfl (allFlat _) fun r H' hh => ?_
  obtain ⟨rfl, v, rfl⟩ := hh
  exact ⟨H, _, H.length, 8, _, rfl, Kept.refl H, rfl, rfl, Nat.le_refl _, get_last H _, rfl, rfl, rfl⟩
def sealV (sp : List UInt8) (u nn : Int) (p st : List UInt8) : List UInt8 := (bigV nn ++ xorL p st) ++ tagV sp u (bigV nn ++ xorL p st)
theorem ow_app (a b : List UInt8) : PV.slice (a.length + b.length) (a.map byteC ++ b.map byteC) (some 5) = ow (a ++ b) := by
  unfold ow
  rw [List.length_append, List.map_append]
theorem c108 (OkS : PObj → Prop) (hOk : ∀ o', OkS o' → o'.cs.all flatP = true) (so : PObj) (sid : Nat) (n u : Int) (hu : isUseB u = true) (hn0 : 0 ≤ n) (hn1 : n ≤ 1099511627776) (p st : List UInt8) (hl : st.length = p.length) (hp2 : p.length ≤ 784)
    (hst : ∀ H : PH, H[sid]? = some so → CallOk prog 225 [.ptr (some (sid, 0)), .int .u64 (mixN (IntKind.u64.wrap n) u), .int .i64 p.length] H fun r H' => r = sl st ∧ ∃ o', OkS o' ∧ H' = H.set sid o')
    (sp : List UInt8) (hsp : sp.length = 16) (s o r : Int) (v : Nat) (bid : Nat) (H : PH) (hb : H[bid]? = some (boxS sid sp s o r v)) (hs : H[sid]? = some so) (hne : bid ≠ sid) :
    CallOk prog 108 [.ptr (some (bid, 0)), .int .i64 u, .int .i64 n, sl p] H fun x H' => x = .tup [ow (sealV sp u (IntKind.u64.wrap n) p st), .int .i64 0] ∧ ∃ o', OkS o' ∧ H' = (H.set bid (boxS sid sp (IntKind.i64.wrap (s + 1)) o r (v + 1))).set sid o' := by
  have hs' : (H.set bid (boxS sid sp (IntKind.i64.wrap (s + 1)) o r (v + 1)))[sid]? = some so := by rw [List.getElem?_set_ne hne]; exact hs
  have hb' : (H.set bid (boxS sid sp (IntKind.i64.wrap (s + 1)) o r (v + 1)))[bid]? = some (boxS sid sp (IntKind.i64.wrap (s + 1)) o r (v + 1)) := get_set hb
  have hx := xorL_len p st hl
  (refine callOk_of_pFun2 (tt := ttS) (imm := imm108) follows ttS_ok depth6 func108 (by kernel_rfl) ?_; (conv => whnf))
  refine callK_pure (c171 u) ?_
  rw [hu]
  (conv => whnf)
  refine ⟨fun h => absurd h (by omega), fun _ => ?_⟩
  (conv => whnf)
  refine ⟨fun h => absurd h (by omega), fun _ => ?_⟩
  (conv => whnf)
  refine ⟨fun h => absurd (show (784 : Int) < p.length from h) (by omega), fun _ => ?_⟩
  (conv => whnf)
  refine callK_of (Q := fun x H' => H' = H.set bid (boxS sid sp (IntKind.i64.wrap (s + 1)) o r (v + 1))) ((c110 (off := 17) (n := s) 1 hb ?_).mono fun x H' hh => ?_) ?_
  · obtain ⟨k0, k1, k2, k3, k4, k5, k6, k7, k8, k9, ka, kb, kc, kd, ke, kf, rfl⟩ := len16 hsp
    rfl
  · obtain ⟨k0, k1, k2, k3, k4, k5, k6, k7, k8, k9, ka, kb, kc, kd, ke, kf, rfl⟩ := len16 hsp
    exact hh.2
  rintro x _ rfl
  (conv => whnf)
  refine callK_pure (c172w _) ?_
  (conv => whnf)
  refine callK_of (c173 OkS hOk so sid (IntKind.u64.wrap n) u p st hl (by omega) hst sp hsp (IntKind.i64.wrap (s + 1)) o r (v + 1) bid _ hb' hs') ?_
  rintro _ _ ⟨rfl, o', ho', rfl⟩
  (conv => whnf)
  refine ⟨⟨by show ((8 + (xorL p st).length) * 1 ≤ _); omega, by simp, allOne _⟩, ?_⟩
  (conv => whnf)
  have hb2 : ((H.set bid (boxS sid sp (IntKind.i64.wrap (s + 1)) o r (v + 1))).set sid o')[bid]? = some (boxS sid sp (IntKind.i64.wrap (s + 1)) o r (v + 1)) := by rw [List.getElem?_set_ne (Ne.symm hne)]; exact hb'
  have ha : (bigV (IntKind.u64.wrap n) ++ xorL p st).length ≤ 1000000 := by rw [List.length_append, bigV_len]; omega
  refine callK_args (args' := [.ptr (some (bid, 0)), .int .i64 u, sl (bigV (IntKind.u64.wrap n) ++ xorL p st)]) ?_ (callK_of (c174 sid sp hsp (IntKind.i64.wrap (s + 1)) o r (v + 1) u (bigV (IntKind.u64.wrap n) ++ xorL p st) ha bid _ hb2) ?_)
  · show [_, _, PV.slice ((bigV (IntKind.u64.wrap n)).length + (xorL p st).length) ((bigV (IntKind.u64.wrap n)).map byteC ++ (xorL p st).map byteC) none] = _
    unfold sl
    rw [List.length_append, List.map_append]
  rintro _ _ ⟨rfl, rfl⟩
  (conv => whnf)
  refine ⟨⟨by show ((8 + (xorL p st).length + 8) * 1 ≤ _); omega, by simp, allOne _⟩, ?_⟩
  (conv => whnf)
  refine ⟨?_, o', ho', rfl⟩
  show PV.tup [.slice ((bigV (IntKind.u64.wrap n)).length + (xorL p st).length + (tagV sp u (bigV (IntKind.u64.wrap n) ++ xorL p st)).length) (((bigV (IntKind.u64.wrap n)).map byteC ++ (xorL p st).map byteC) ++ (tagV sp u (bigV (IntKind.u64.wrap n) ++ xorL p st)).map byteC) (some 5), .int .i64 0] = _
  rw [← List.length_append, ← List.map_append, ow_app]
  rfl
end Go.Proofs.Tryz

set_option maxRecDepth 100000
set_option maxHeartbeats 1000000
set_option linter.unusedVariables false
set_option linter.unusedSimpArgs false
namespace Go.Proofs.Tryz
open Go Ps
end Go.Proofs.Tryz

set_option maxRecDepth 100000
set_option maxHeartbeats 2000000
set_option linter.unusedVariables false
set_option linter.unusedSimpArgs false
namespace Go.Proofs.Tryz
open Go Ps
end Go.Proofs.Tryz

/- What a call made is forgotten; what it wrote stays. -/
set_option linter.unusedVariables false
namespace Ps
open Go
section
variable {P : Program}
/-- What the call made and nobody sees is forgotten; of the old objects some were written. -/
theorem CallOk.gcK {f : Nat} {args : List PV} {H : PH} {Q R : PV → PH → Prop} (h : CallOk P f args H Q) (hq : ∀ r H', Q r H' → oldR r = true ∧ ∃ H1 ext, H' = H1 ++ ext ∧ Kept H H1 ∧ R r H1) :
    CallOk P f args H R := by
  intro g w vs hs hr
  refine (h g w vs hs hr).mono ?_
  rintro e w' ⟨v, r, H', g', rfl, q, hr', st, ho, hc⟩
  obtain ⟨hold, H1, ext, rfl, hkp, hR⟩ := hq r H' q
  have hl1 := hkp.len
  have hlen : g.ι.length = H.length := hr.h.len
  have hfull : ∀ (id b : Nat), id < H.length → g'.ι[id]? = some (some b) → ∃ b0, g.ι[id]? = some (some b0) := fun id b hl h => by
    have hlt : id < g.ι.length := by omega
    cases hx : g.ι[id] with
    | some b0 => exact ⟨b0, by rw [List.getElem?_eq_getElem hlt, hx]⟩
    | none =>
      have := st.nil id (by rw [List.getElem?_eq_getElem hlt, hx])
      rw [h] at this; cases this
  have htake : ∀ (id b : Nat), (g'.ι.take H.length)[id]? = some (some b) → id < H.length ∧ g'.ι[id]? = some (some b) := fun id b hi => by
    rw [List.getElem?_take] at hi
    split at hi
    · exact ⟨by assumption, hi⟩
    · cases hi
  have hmk : ∀ (id b : Nat), id < g.ι.length → g'.ι[id]? = some (some b) → (g'.ι.take H.length)[id]? = some (some b) := fun id b hl hi => by
    rw [List.getElem?_take, if_pos (by omega)]; exact hi
  have hsub : ∀ (id b : Nat), (g'.ι.take H.length)[id]? = some (some b) → g'.ι[id]? = some (some b) := fun id b hi => (htake id b hi).2
  have hV : V (⟨g'.ι.take H.length, g'.I⟩) w' = V (⟨g'.ι.take H.length, g'.I⟩) w' := rfl
  have hcell : ∀ id j b, cellOwnAt ⟨g'.ι.take H.length, g'.I⟩ w' H1 id j b → cellOwnAt g' w' (H1 ++ ext) id j b := fun id j b ⟨o, c, b0, v, h1, h2, h3, h4, h5, h6⟩ =>
    ⟨o, c, b0, v, by rw [List.getElem?_append_left (List.getElem?_eq_some_iff.1 h1).1]; exact h1, h2, h3, hsub _ _ h4, h5, h6⟩
  have hRV : ∀ (u : Value) (p : PV), oldP p = true → VH P g' w' u p → VH P ⟨g'.ι.take H.length, g'.I⟩ w' u p := fun u p hp hu => by
    rcases hu with hu | ⟨n, cs, e, b, rfl, hv, hf⟩
    · exact .inl (V.old (g := g') (h := hu) (g' := ⟨g'.ι.take H.length, g'.I⟩) (fun _ _ h => h) hp)
    · exact .inr ⟨n, cs, e, b, rfl, V.old (g := g') (h := hv) (g' := ⟨g'.ι.take H.length, g'.I⟩) (fun _ _ h => h) (by simpa [oldP] using hp), OwnF.sub (g := g') (h := hf) (g' := ⟨g'.ι.take H.length, g'.I⟩) rfl hsub⟩
  have hRC : VC P ⟨g'.ι.take H.length, g'.I⟩ w' v r := by
    have h0 := hr'.e 0
    have h0 : VC P g' w' v r := h0
    cases r with
    | tup cs =>
      obtain ⟨us, rfl, k1, k2⟩ := h0
      exact ⟨us, rfl, k1, fun j c hj => hRV _ _ (oldPs_get hold j c hj) (k2 j c hj)⟩
    | _ => exact hRV _ _ hold h0
  have hget : ∀ t, VC P ⟨g'.ι.take H.length, g'.I⟩ w' (one v t) (Env.get [(0, r)] t) := fun t => by
    rw [Env.get_cons]
    unfold one
    by_cases e : t = 0
    · rw [if_pos e, if_pos e.symm]; exact hRC
    · rw [if_neg e, if_neg (Ne.symm e)]; exact (V.undef _).vc
  refine ⟨v, r, H1, ⟨g'.ι.take H.length, g'.I⟩, rfl, hR, ⟨⟨?_, fun id id' b h1 h2 => hr'.h.inj id id' b (hsub _ _ h1) (hsub _ _ h2), trivial, fun id b o h1 h2 => ?_, fun b o hi => ?_⟩, hget, hr'.ss, fun t i b h1 h2 => ?_, fun id j id' j' b h1 h2 => hr'.cc id j id' j' b (hcell _ _ _ h1) (hcell _ _ _ h2)⟩,
    ⟨⟨fun id o ho => ?_, fun id b o o' hi h1 h2 hv => ?_⟩, st.os, st.tape, st.output, st.size, ⟨fun id b hi => hmk id b (List.getElem?_eq_some_iff.1 hi).1 (st.keeps.ι id b hi), st.keeps.I⟩, fun id b hi => st.ι id b (hsub id b hi), st.far, fun id h => by
      have hlt := (List.getElem?_eq_some_iff.1 h).1
      show (g'.ι.take H.length)[id]? = some none
      rw [List.getElem?_take, if_pos (by omega)]; exact st.nil id h⟩, ho, fun b ⟨id, j, h1⟩ => hc b ⟨id, j, hcell _ _ _ h1⟩⟩
  · have := hr'.h.len
    simp at this ⊢
    omega
  · obtain ⟨hl, h2'⟩ := htake id b h2
    obtain ⟨us, k1, k2, k3⟩ := hr'.h.obj id b o (by rw [List.getElem?_append_left (by omega)]; exact h1) h2'
    refine ⟨us, k1, k2, fun j c hj => ?_⟩
    obtain ⟨u, y1, y2⟩ := k3 j c hj
    refine ⟨u, y1, ?_⟩
    obtain ⟨b0, hb0⟩ := hfull id b hl h2'
    obtain ⟨oo, q1, q2⟩ := hkp.old id o h1
    rcases q2 c (List.mem_of_getElem? hj) with hcf | hcm
    · exact .inl ((y2.flat hcf).flat hcf)
    obtain ⟨j0, hj0⟩ := List.getElem?_of_mem hcm
    obtain ⟨us0, z1, z2, z3⟩ := hr.h.obj id b0 oo q1 hb0
    obtain ⟨u0, x1, x2⟩ := z3 j0 c hj0
    have both : ∀ (p : PV) (u u0 : Value), V g w u0 p → V g' w' u p → V ⟨g'.ι.take H.length, g'.I⟩ w' u p := fun p u u0 a0 a1 => V.both (g := g') (h := a1) (g0 := g) (g' := ⟨g'.ι.take H.length, g'.I⟩) (fun _ _ h => h) hmk a0
    rcases y2 with y2 | ⟨n, cs, e, bb, rfl, hv, hf⟩
    · cases c with
      | slice n cs o' =>
        cases o' with
        | some e =>
          obtain ⟨rfl, rfl, rfl⟩ := y2.own_nil
          exact .inl (.snil _)
        | none => exact .inl (both _ _ _ x2.dem y2)
      | tup cs => exact x2.not_tup.elim
      | _ => exact .inl (both _ _ _ x2.dem y2)
    · exact .inr ⟨n, cs, e, bb, rfl, both _ _ _ x2.dem hv, OwnF.sub (g := g') (h := hf) (g' := ⟨g'.ι.take H.length, g'.I⟩) rfl hsub⟩
  · obtain ⟨k1, k2⟩ := hr'.h.imm b o hi
    exact ⟨fun id h2 => k1 id (hsub _ _ h2), k2⟩
  · obtain ⟨id, j, h2⟩ := h2
    exact hr'.sc t i b h1 ⟨id, j, hcell _ _ _ h2⟩
  · obtain ⟨o', k1, k2⟩ := st.fr.more id o ho
    have := (List.getElem?_eq_some_iff.1 ho).1
    rw [List.getElem?_append_left (by omega)] at k1
    exact ⟨o', k1, k2⟩
  · have := (List.getElem?_eq_some_iff.1 h1).1
    exact st.fr.same id b o o' hi h1 (by rw [List.getElem?_append_left (by omega)]; exact h2) hv

end
end Ps
