import Derived.Test.YtdnggpdgijobfaaGreatDoorA2
import Derived.Shelf.GgClosure.StringsRunes
import Derived.WalkKit
set_option linter.all false
set_option maxRecDepth 100000
namespace Go.Proofs.Tryz
open Go Ps
structure Msg where
 kind : Int
 a1 : List UInt8
 a2 : List UInt8
 a3 : List UInt8
 a4 : List UInt8
 aTill : Int
 aNonce : Int
 t1 : List UInt8
 t2 : List UInt8
 tKv : Int
 tB : List UInt8
 tBo : Option Nat
 tAu : List UInt8
 tAuo : Option Nat
 t3 : List UInt8
 t4 : List UInt8
 tTill : Int
 tNonce : Int
 r1 : List UInt8
 r2 : List UInt8
 r3 : List UInt8
 r4 : List UInt8
 rKv : Int
 rB : List UInt8
 rBo : Option Nat
 rBl : List UInt8
 rBlo : Option Nat
 p1 : List UInt8
 p2 : List UInt8
 pKv : Int
 pB : List UInt8
 pBo : Option Nat
 pAu : List UInt8
 pAuo : Option Nat
 fErr : Int
 fNonce : Int
def Msg.as (m : Msg) : List PV := [.str m.a1, .str m.a2, .str m.a3, .str m.a4, .int .i64 m.aTill, .int .i64 m.aNonce]
def Msg.tgs (m : Msg) : List PV := [.str m.t1, .str m.t2, .int .i64 m.tKv, slo m.tB m.tBo, slo m.tAu m.tAuo, .str m.t3, .str m.t4, .int .i64 m.tTill, .int .i64 m.tNonce]
def Msg.rep (m : Msg) : List PV := [.str m.r1, .str m.r2, .str m.r3, .str m.r4, .int .i64 m.rKv, slo m.rB m.rBo, slo m.rBl m.rBlo]
def Msg.ap (m : Msg) : List PV := [.str m.p1, .str m.p2, .int .i64 m.pKv, slo m.pB m.pBo, slo m.pAu m.pAuo]
def Msg.fail (m : Msg) : List PV := [.int .i64 m.fErr, .int .i64 m.fNonce]
def Msg.cells (m : Msg) : List PV := [.int .i64 m.kind] ++ m.as ++ m.tgs ++ m.rep ++ m.ap ++ m.fail
def noAs (m : Msg) : Bool := decide (m.a1 = [] ∧ m.a2 = [] ∧ m.a3 = [] ∧ m.a4 = [] ∧ m.aTill = 0 ∧ m.aNonce = 0)
def noTgs (m : Msg) : Bool := noTk m.t1 m.t2 m.tKv m.tB.length && decide (m.tAu.length = 0) && decide (m.t3 = [] ∧ m.t4 = []) && decide (m.tTill = 0) && decide (m.tNonce = 0)
def noRep (m : Msg) : Bool := decide (m.r1 = [] ∧ m.r2 = []) && noTk m.r3 m.r4 m.rKv m.rB.length && decide (m.rBl.length = 0)
def noAp (m : Msg) : Bool := noTk m.p1 m.p2 m.pKv m.pB.length && decide (m.pAu.length = 0)
def noFail (m : Msg) : Bool := decide (m.fErr = 0 ∧ m.fNonce = 0)
def othersB (m : Msg) : Bool := (decide (m.kind = 1) || noAs m) && (decide (m.kind = 2) || noTgs m) && (decide (m.kind = 3) || noRep m) && (decide (m.kind = 4) || noAp m) && (decide (m.kind = 5) || noFail m)
theorem app_get (H l : PH) (i : Nat) : (H ++ l)[H.length + i]? = l[i]? := by rw [List.getElem?_append_right (by omega)]; congr 1; omega
theorem app_set (H l : PH) (i : Nat) (o : PObj) : (H ++ l).set (H.length + i) o = H ++ l.set i o := by rw [List.set_append_right _ _ (by omega)]; congr 2; omega
def z55 : PObj := ⟨64, [.str [], .str [], .int .i64 0, .slice 0 [] (some 5), .slice 0 [] (some 5), .str [], .str [], .int .i64 0, .int .i64 0], 0⟩
def z57 : PObj := ⟨30, [.str [], .str [], .str [], .str [], .int .i64 0, .slice 0 [] (some 5), .slice 0 [] (some 5)], 0⟩
def z59 : PObj := ⟨98, [.str [], .str [], .int .i64 0, .slice 0 [] (some 5), .slice 0 [] (some 5)], 0⟩
def D163 (n : Nat) : Draw := { imp := [9, 10, 11], robs := [z55, z57, z59], res := [(6, 0), (7, 1), (8, 2)], base := n, win := [(2, 0, 1), (3, 0, 1), (4, 0, 2), (5, 0, 2), (10, 1, 1), (11, 2, 2)] }
theorem fitA (a b c d : List UInt8) (x y : Int) : FitP ttG 6 41 [.str a, .str b, .str c, .str d, .int .i64 x, .int .i64 y] :=
 ⟨rfl, ⟨by show 2 ≤ 6; omega, ⟨rfl, ⟨by show 1 ≤ 2; omega, a, rfl⟩, rfl, ⟨by show 1 ≤ 1; omega, b, rfl⟩, rfl⟩⟩, rfl, ⟨by show 2 ≤ 4; omega, ⟨rfl, ⟨by show 1 ≤ 2; omega, c, rfl⟩, rfl, ⟨by show 1 ≤ 1; omega, d, rfl⟩, rfl⟩⟩, rfl, ⟨by show 1 ≤ 2; omega, x, rfl⟩, rfl, ⟨by show 1 ≤ 1; omega, y, rfl⟩, rfl⟩
theorem fitF (x y : Int) : FitP ttG 6 100 [.int .i64 x, .int .i64 y] := ⟨rfl, ⟨by show 1 ≤ 2; omega, x, rfl⟩, rfl, ⟨by show 1 ≤ 1; omega, y, rfl⟩, rfl⟩
theorem as_eq {a b c d : List UInt8} {x y : Int} : ([PV.str a, PV.str b, PV.str c, PV.str d, PV.int .i64 x, PV.int .i64 y] = [PV.str [], PV.str [], PV.str [], PV.str [], PV.int .i64 0, PV.int .i64 0]) ↔ (a = [] ∧ b = [] ∧ c = [] ∧ d = [] ∧ x = 0 ∧ y = 0) := by simp
theorem fl_eq {x y : Int} : ([PV.int .i64 x, PV.int .i64 y] = [PV.int .i64 0, PV.int .i64 0]) ↔ (x = 0 ∧ y = 0) := by simp
theorem nat0 {n : Nat} : ((n : Int) = 0) ↔ n = 0 := by omega
theorem c163x (m : Msg) (H : PH) : CallOk prog 163 [.agg m.cells] H fun r H' => r = .bool (othersB m) ∧ ∃ ext, H' = H ++ ext := by
 (refine fnS (imm := imm163) ttG_ok func163 ?_; (conv => whnf))
 refine drawK_of2 (D163 H.length) [H ++ [z55, z57, z59], H ++ [PObj.mk 64 (m.tgs.map dem) 1, z57, z59], H ++ [PObj.mk 64 (m.tgs.map dem) 1, PObj.mk 30 (m.rep.map dem) 1, z59], H ++ [PObj.mk 64 (m.tgs.map dem) 1, PObj.mk 30 (m.rep.map dem) 1, PObj.mk 98 (m.ap.map dem) 1]] (by kernel_rfl) ⟨rfl, rfl⟩ trivial ?_
 conv => whnf
 iterate 2 (refine dS ?_; (conv => whnf))
 iterate 2 (refine dS2 ?_; (conv => whnf))
 iterate 2 (apply Exists.intro; apply And.intro; (focus ((conv => whnf); apply And.intro; (focus ((conv => whnf); exact oS)); (conv => whnf); apply And.intro; (focus ((conv => whnf); exact oS)); ((conv => whnf); exact oS))); (conv => whnf))
 refine ⟨_, ⟨⟨rfl, rfl, trivial⟩, app_get H [z55, z57, z59] 0⟩, ?_⟩
 conv => whnf
 refine ⟨_, ⟨⟨rfl, rfl, trivial⟩, app_get H [z55, z57, z59] 1⟩, ?_⟩
 conv => whnf
 refine ⟨_, ⟨⟨rfl, rfl, trivial⟩, app_get H [z55, z57, z59] 2⟩, ?_⟩
 conv => whnf
 apply Exists.intro
 apply And.intro
 focus
  conv => whnf
  ((conv in (_[_]?) => tactic => exact app_get H [z55, z57, z59] 0); (conv => whnf))
  conv => whnf
  exact ⟨rfl, app_set H [z55, z57, z59] 0 (PObj.mk 64 (m.tgs.map dem) 1), trivial⟩
 conv => whnf
 apply Exists.intro
 apply And.intro
 focus
  conv => whnf
  ((conv in (_[_]?) => tactic => exact app_get H [PObj.mk 64 (m.tgs.map dem) 1, z57, z59] 1); (conv => whnf))
  conv => whnf
  exact ⟨rfl, app_set H [PObj.mk 64 (m.tgs.map dem) 1, z57, z59] 1 (PObj.mk 30 (m.rep.map dem) 1), trivial⟩
 conv => whnf
 apply Exists.intro
 apply And.intro
 focus
  conv => whnf
  ((conv in (_[_]?) => tactic => exact app_get H [PObj.mk 64 (m.tgs.map dem) 1, PObj.mk 30 (m.rep.map dem) 1, z59] 2); (conv => whnf))
  conv => whnf
  exact ⟨rfl, app_set H [PObj.mk 64 (m.tgs.map dem) 1, PObj.mk 30 (m.rep.map dem) 1, z59] 2 (PObj.mk 98 (m.ap.map dem) 1), trivial⟩
 conv => whnf
 by_cases h1 : m.kind = 1
 ·have hk := h1
  have n2 : ¬ m.kind = 2 := by omega
  have n3 : ¬ m.kind = 3 := by omega
  have n4 : ¬ m.kind = 4 := by omega
  have n5 : ¬ m.kind = 5 := by omega
  have e1 : decide (m.kind = 1) = true := decide_eq_true hk
  have e2 : decide (m.kind = 2) = false := decide_eq_false n2
  have e3 : decide (m.kind = 3) = false := decide_eq_false n3
  have e4 : decide (m.kind = 4) = false := decide_eq_false n4
  have e5 : decide (m.kind = 5) = false := decide_eq_false n5
  refine ⟨fun h => ?_, fun h => ?_⟩
  rotate_left
  ·exact (h hk).elim
  conv => whnf
  refine ⟨fun h => ?_, fun h => ?_⟩
  ·exact (n2 h).elim
  conv => whnf
  ((conv in (_[_]?) => tactic => exact app_get H [PObj.mk 64 (m.tgs.map dem) 1, PObj.mk 30 (m.rep.map dem) 1, PObj.mk 98 (m.ap.map dem) 1] 0); (conv => whnf))
  refine callK_pure (c218 m.t1 m.t2 m.tKv m.tB none) ?_
  cases f1 : noTk m.t1 m.t2 m.tKv m.tB.length
  ·conv => whnf
   exact ⟨congrArg PV.bool (by unfold othersB noTgs noRep noAp noFail; simp only [e1, e2, e3, e4, e5, f1, Bool.and_true, Bool.true_and, Bool.or_false, Bool.false_or, Bool.true_or, Bool.or_true, Bool.and_false, Bool.false_and]), _, rfl⟩
  conv => whnf
  ((conv in (_[_]?) => tactic => exact app_get H [PObj.mk 64 (m.tgs.map dem) 1, PObj.mk 30 (m.rep.map dem) 1, PObj.mk 98 (m.ap.map dem) 1] 0); (conv => whnf))
  refine ⟨fun h => ?_, fun h => ?_⟩
  rotate_left
  ·have f2 : decide (m.tAu.length = 0) = false := decide_eq_false fun hh => h (Iff.mpr nat0 hh)
   conv => whnf
   exact ⟨congrArg PV.bool (by unfold othersB noTgs noRep noAp noFail; simp only [e1, e2, e3, e4, e5, f1, f2, Bool.and_true, Bool.true_and, Bool.or_false, Bool.false_or, Bool.true_or, Bool.or_true, Bool.and_false, Bool.false_and]), _, rfl⟩
  have f2 : decide (m.tAu.length = 0) = true := decide_eq_true (Iff.mp nat0 h)
  conv => whnf
  ((conv in (_[_]?) => tactic => exact app_get H [PObj.mk 64 (m.tgs.map dem) 1, PObj.mk 30 (m.rep.map dem) 1, PObj.mk 98 (m.ap.map dem) 1] 0); (conv => whnf))
  refine ⟨⟨fitG _ _, fitG [] []⟩, ?_⟩
  conv => whnf
  refine ⟨fun h => ?_, fun h => ?_⟩
  rotate_left
  ·have f3 : decide (m.t3 = [] ∧ m.t4 = []) = false := decide_eq_false fun hh => h (Iff.mpr pr_eq hh)
   conv => whnf
   exact ⟨congrArg PV.bool (by unfold othersB noTgs noRep noAp noFail; simp only [e1, e2, e3, e4, e5, f1, f2, f3, Bool.and_true, Bool.true_and, Bool.or_false, Bool.false_or, Bool.true_or, Bool.or_true, Bool.and_false, Bool.false_and]), _, rfl⟩
  have f3 : decide (m.t3 = [] ∧ m.t4 = []) = true := decide_eq_true (Iff.mp pr_eq h)
  conv => whnf
  ((conv in (_[_]?) => tactic => exact app_get H [PObj.mk 64 (m.tgs.map dem) 1, PObj.mk 30 (m.rep.map dem) 1, PObj.mk 98 (m.ap.map dem) 1] 0); (conv => whnf))
  refine ⟨fun h => ?_, fun h => ?_⟩
  rotate_left
  ·have f4 : decide (m.tTill = 0) = false := decide_eq_false fun hh => h (Iff.mpr Iff.rfl hh)
   conv => whnf
   exact ⟨congrArg PV.bool (by unfold othersB noTgs noRep noAp noFail; simp only [e1, e2, e3, e4, e5, f1, f2, f3, f4, Bool.and_true, Bool.true_and, Bool.or_false, Bool.false_or, Bool.true_or, Bool.or_true, Bool.and_false, Bool.false_and]), _, rfl⟩
  have f4 : decide (m.tTill = 0) = true := decide_eq_true (Iff.mp Iff.rfl h)
  conv => whnf
  ((conv in (_[_]?) => tactic => exact app_get H [PObj.mk 64 (m.tgs.map dem) 1, PObj.mk 30 (m.rep.map dem) 1, PObj.mk 98 (m.ap.map dem) 1] 0); (conv => whnf))
  refine ⟨fun h => ?_, fun h => ?_⟩
  rotate_left
  ·have f5 : decide (m.tNonce = 0) = false := decide_eq_false fun hh => h (Iff.mpr Iff.rfl hh)
   conv => whnf
   exact ⟨congrArg PV.bool (by unfold othersB noTgs noRep noAp noFail; simp only [e1, e2, e3, e4, e5, f1, f2, f3, f4, f5, Bool.and_true, Bool.true_and, Bool.or_false, Bool.false_or, Bool.true_or, Bool.or_true, Bool.and_false, Bool.false_and]), _, rfl⟩
  have f5 : decide (m.tNonce = 0) = true := decide_eq_true (Iff.mp Iff.rfl h)
  conv => whnf
  refine ⟨fun h => ?_, fun h => ?_⟩
  ·exact (n3 h).elim
  conv => whnf
  ((conv in (_[_]?) => tactic => exact app_get H [PObj.mk 64 (m.tgs.map dem) 1, PObj.mk 30 (m.rep.map dem) 1, PObj.mk 98 (m.ap.map dem) 1] 1); (conv => whnf))
  refine ⟨⟨fitG _ _, fitG [] []⟩, ?_⟩
  conv => whnf
  refine ⟨fun h => ?_, fun h => ?_⟩
  rotate_left
  ·have f6 : decide (m.r1 = [] ∧ m.r2 = []) = false := decide_eq_false fun hh => h (Iff.mpr pr_eq hh)
   conv => whnf
   exact ⟨congrArg PV.bool (by unfold othersB noTgs noRep noAp noFail; simp only [e1, e2, e3, e4, e5, f1, f2, f3, f4, f5, f6, Bool.and_true, Bool.true_and, Bool.or_false, Bool.false_or, Bool.true_or, Bool.or_true, Bool.and_false, Bool.false_and]), _, rfl⟩
  have f6 : decide (m.r1 = [] ∧ m.r2 = []) = true := decide_eq_true (Iff.mp pr_eq h)
  conv => whnf
  ((conv in (_[_]?) => tactic => exact app_get H [PObj.mk 64 (m.tgs.map dem) 1, PObj.mk 30 (m.rep.map dem) 1, PObj.mk 98 (m.ap.map dem) 1] 1); (conv => whnf))
  refine callK_pure (c218 m.r3 m.r4 m.rKv m.rB none) ?_
  cases f7 : noTk m.r3 m.r4 m.rKv m.rB.length
  ·conv => whnf
   exact ⟨congrArg PV.bool (by unfold othersB noTgs noRep noAp noFail; simp only [e1, e2, e3, e4, e5, f1, f2, f3, f4, f5, f6, f7, Bool.and_true, Bool.true_and, Bool.or_false, Bool.false_or, Bool.true_or, Bool.or_true, Bool.and_false, Bool.false_and]), _, rfl⟩
  conv => whnf
  ((conv in (_[_]?) => tactic => exact app_get H [PObj.mk 64 (m.tgs.map dem) 1, PObj.mk 30 (m.rep.map dem) 1, PObj.mk 98 (m.ap.map dem) 1] 1); (conv => whnf))
  refine ⟨fun h => ?_, fun h => ?_⟩
  rotate_left
  ·have f8 : decide (m.rBl.length = 0) = false := decide_eq_false fun hh => h (Iff.mpr nat0 hh)
   conv => whnf
   exact ⟨congrArg PV.bool (by unfold othersB noTgs noRep noAp noFail; simp only [e1, e2, e3, e4, e5, f1, f2, f3, f4, f5, f6, f7, f8, Bool.and_true, Bool.true_and, Bool.or_false, Bool.false_or, Bool.true_or, Bool.or_true, Bool.and_false, Bool.false_and]), _, rfl⟩
  have f8 : decide (m.rBl.length = 0) = true := decide_eq_true (Iff.mp nat0 h)
  conv => whnf
  refine ⟨fun h => ?_, fun h => ?_⟩
  ·exact (n4 h).elim
  conv => whnf
  ((conv in (_[_]?) => tactic => exact app_get H [PObj.mk 64 (m.tgs.map dem) 1, PObj.mk 30 (m.rep.map dem) 1, PObj.mk 98 (m.ap.map dem) 1] 2); (conv => whnf))
  refine callK_pure (c218 m.p1 m.p2 m.pKv m.pB none) ?_
  cases f9 : noTk m.p1 m.p2 m.pKv m.pB.length
  ·conv => whnf
   exact ⟨congrArg PV.bool (by unfold othersB noTgs noRep noAp noFail; simp only [e1, e2, e3, e4, e5, f1, f2, f3, f4, f5, f6, f7, f8, f9, Bool.and_true, Bool.true_and, Bool.or_false, Bool.false_or, Bool.true_or, Bool.or_true, Bool.and_false, Bool.false_and]), _, rfl⟩
  conv => whnf
  ((conv in (_[_]?) => tactic => exact app_get H [PObj.mk 64 (m.tgs.map dem) 1, PObj.mk 30 (m.rep.map dem) 1, PObj.mk 98 (m.ap.map dem) 1] 2); (conv => whnf))
  refine ⟨fun h => ?_, fun h => ?_⟩
  rotate_left
  ·have f10 : decide (m.pAu.length = 0) = false := decide_eq_false fun hh => h (Iff.mpr nat0 hh)
   conv => whnf
   exact ⟨congrArg PV.bool (by unfold othersB noTgs noRep noAp noFail; simp only [e1, e2, e3, e4, e5, f1, f2, f3, f4, f5, f6, f7, f8, f9, f10, Bool.and_true, Bool.true_and, Bool.or_false, Bool.false_or, Bool.true_or, Bool.or_true, Bool.and_false, Bool.false_and]), _, rfl⟩
  have f10 : decide (m.pAu.length = 0) = true := decide_eq_true (Iff.mp nat0 h)
  conv => whnf
  refine ⟨fun h => ?_, fun h => ?_⟩
  ·exact (n5 h).elim
  conv => whnf
  refine ⟨⟨fitF _ _, fitF 0 0⟩, ?_⟩
  conv => whnf
  refine ⟨fun h => ?_, fun h => ?_⟩
  rotate_left
  ·have f11 : decide (m.fErr = 0 ∧ m.fNonce = 0) = false := decide_eq_false fun hh => h (Iff.mpr fl_eq hh)
   conv => whnf
   exact ⟨congrArg PV.bool (by unfold othersB noTgs noRep noAp noFail; simp only [e1, e2, e3, e4, e5, f1, f2, f3, f4, f5, f6, f7, f8, f9, f10, f11, Bool.and_true, Bool.true_and, Bool.or_false, Bool.false_or, Bool.true_or, Bool.or_true, Bool.and_false, Bool.false_and]), _, rfl⟩
  have f11 : decide (m.fErr = 0 ∧ m.fNonce = 0) = true := decide_eq_true (Iff.mp fl_eq h)
  conv => whnf
  exact ⟨congrArg PV.bool (by unfold othersB noTgs noRep noAp noFail; simp only [e1, e2, e3, e4, e5, f1, f2, f3, f4, f5, f6, f7, f8, f9, f10, f11, Bool.and_true, Bool.true_and, Bool.or_false, Bool.false_or, Bool.true_or, Bool.or_true, Bool.and_false, Bool.false_and]), _, rfl⟩
 by_cases h2 : m.kind = 2
 ·have hk := h2
  have n1 : ¬ m.kind = 1 := by omega
  have n3 : ¬ m.kind = 3 := by omega
  have n4 : ¬ m.kind = 4 := by omega
  have n5 : ¬ m.kind = 5 := by omega
  have e1 : decide (m.kind = 1) = false := decide_eq_false n1
  have e2 : decide (m.kind = 2) = true := decide_eq_true hk
  have e3 : decide (m.kind = 3) = false := decide_eq_false n3
  have e4 : decide (m.kind = 4) = false := decide_eq_false n4
  have e5 : decide (m.kind = 5) = false := decide_eq_false n5
  refine ⟨fun h => ?_, fun h => ?_⟩
  ·exact (n1 h).elim
  conv => whnf
  refine ⟨⟨fitA _ _ _ _ _ _, fitA [] [] [] [] 0 0⟩, ?_⟩
  conv => whnf
  refine ⟨fun h => ?_, fun h => ?_⟩
  rotate_left
  ·have f12 : noAs m = false := decide_eq_false fun hh => h (Iff.mpr as_eq hh)
   conv => whnf
   exact ⟨congrArg PV.bool (by unfold othersB noTgs noRep noAp noFail; simp only [e1, e2, e3, e4, e5, f12, Bool.and_true, Bool.true_and, Bool.or_false, Bool.false_or, Bool.true_or, Bool.or_true, Bool.and_false, Bool.false_and]), _, rfl⟩
  have f12 : noAs m = true := decide_eq_true (Iff.mp as_eq h)
  conv => whnf
  refine ⟨fun h => ?_, fun h => ?_⟩
  rotate_left
  ·exact (h hk).elim
  conv => whnf
  refine ⟨fun h => ?_, fun h => ?_⟩
  ·exact (n3 h).elim
  conv => whnf
  ((conv in (_[_]?) => tactic => exact app_get H [PObj.mk 64 (m.tgs.map dem) 1, PObj.mk 30 (m.rep.map dem) 1, PObj.mk 98 (m.ap.map dem) 1] 1); (conv => whnf))
  refine ⟨⟨fitG _ _, fitG [] []⟩, ?_⟩
  conv => whnf
  refine ⟨fun h => ?_, fun h => ?_⟩
  rotate_left
  ·have f13 : decide (m.r1 = [] ∧ m.r2 = []) = false := decide_eq_false fun hh => h (Iff.mpr pr_eq hh)
   conv => whnf
   exact ⟨congrArg PV.bool (by unfold othersB noTgs noRep noAp noFail; simp only [e1, e2, e3, e4, e5, f12, f13, Bool.and_true, Bool.true_and, Bool.or_false, Bool.false_or, Bool.true_or, Bool.or_true, Bool.and_false, Bool.false_and]), _, rfl⟩
  have f13 : decide (m.r1 = [] ∧ m.r2 = []) = true := decide_eq_true (Iff.mp pr_eq h)
  conv => whnf
  ((conv in (_[_]?) => tactic => exact app_get H [PObj.mk 64 (m.tgs.map dem) 1, PObj.mk 30 (m.rep.map dem) 1, PObj.mk 98 (m.ap.map dem) 1] 1); (conv => whnf))
  refine callK_pure (c218 m.r3 m.r4 m.rKv m.rB none) ?_
  cases f14 : noTk m.r3 m.r4 m.rKv m.rB.length
  ·conv => whnf
   exact ⟨congrArg PV.bool (by unfold othersB noTgs noRep noAp noFail; simp only [e1, e2, e3, e4, e5, f12, f13, f14, Bool.and_true, Bool.true_and, Bool.or_false, Bool.false_or, Bool.true_or, Bool.or_true, Bool.and_false, Bool.false_and]), _, rfl⟩
  conv => whnf
  ((conv in (_[_]?) => tactic => exact app_get H [PObj.mk 64 (m.tgs.map dem) 1, PObj.mk 30 (m.rep.map dem) 1, PObj.mk 98 (m.ap.map dem) 1] 1); (conv => whnf))
  refine ⟨fun h => ?_, fun h => ?_⟩
  rotate_left
  ·have f15 : decide (m.rBl.length = 0) = false := decide_eq_false fun hh => h (Iff.mpr nat0 hh)
   conv => whnf
   exact ⟨congrArg PV.bool (by unfold othersB noTgs noRep noAp noFail; simp only [e1, e2, e3, e4, e5, f12, f13, f14, f15, Bool.and_true, Bool.true_and, Bool.or_false, Bool.false_or, Bool.true_or, Bool.or_true, Bool.and_false, Bool.false_and]), _, rfl⟩
  have f15 : decide (m.rBl.length = 0) = true := decide_eq_true (Iff.mp nat0 h)
  conv => whnf
  refine ⟨fun h => ?_, fun h => ?_⟩
  ·exact (n4 h).elim
  conv => whnf
  ((conv in (_[_]?) => tactic => exact app_get H [PObj.mk 64 (m.tgs.map dem) 1, PObj.mk 30 (m.rep.map dem) 1, PObj.mk 98 (m.ap.map dem) 1] 2); (conv => whnf))
  refine callK_pure (c218 m.p1 m.p2 m.pKv m.pB none) ?_
  cases f16 : noTk m.p1 m.p2 m.pKv m.pB.length
  ·conv => whnf
   exact ⟨congrArg PV.bool (by unfold othersB noTgs noRep noAp noFail; simp only [e1, e2, e3, e4, e5, f12, f13, f14, f15, f16, Bool.and_true, Bool.true_and, Bool.or_false, Bool.false_or, Bool.true_or, Bool.or_true, Bool.and_false, Bool.false_and]), _, rfl⟩
  conv => whnf
  ((conv in (_[_]?) => tactic => exact app_get H [PObj.mk 64 (m.tgs.map dem) 1, PObj.mk 30 (m.rep.map dem) 1, PObj.mk 98 (m.ap.map dem) 1] 2); (conv => whnf))
  refine ⟨fun h => ?_, fun h => ?_⟩
  rotate_left
  ·have f17 : decide (m.pAu.length = 0) = false := decide_eq_false fun hh => h (Iff.mpr nat0 hh)
   conv => whnf
   exact ⟨congrArg PV.bool (by unfold othersB noTgs noRep noAp noFail; simp only [e1, e2, e3, e4, e5, f12, f13, f14, f15, f16, f17, Bool.and_true, Bool.true_and, Bool.or_false, Bool.false_or, Bool.true_or, Bool.or_true, Bool.and_false, Bool.false_and]), _, rfl⟩
  have f17 : decide (m.pAu.length = 0) = true := decide_eq_true (Iff.mp nat0 h)
  conv => whnf
  refine ⟨fun h => ?_, fun h => ?_⟩
  ·exact (n5 h).elim
  conv => whnf
  refine ⟨⟨fitF _ _, fitF 0 0⟩, ?_⟩
  conv => whnf
  refine ⟨fun h => ?_, fun h => ?_⟩
  rotate_left
  ·have f18 : decide (m.fErr = 0 ∧ m.fNonce = 0) = false := decide_eq_false fun hh => h (Iff.mpr fl_eq hh)
   conv => whnf
   exact ⟨congrArg PV.bool (by unfold othersB noTgs noRep noAp noFail; simp only [e1, e2, e3, e4, e5, f12, f13, f14, f15, f16, f17, f18, Bool.and_true, Bool.true_and, Bool.or_false, Bool.false_or, Bool.true_or, Bool.or_true, Bool.and_false, Bool.false_and]), _, rfl⟩
  have f18 : decide (m.fErr = 0 ∧ m.fNonce = 0) = true := decide_eq_true (Iff.mp fl_eq h)
  conv => whnf
  exact ⟨congrArg PV.bool (by unfold othersB noTgs noRep noAp noFail; simp only [e1, e2, e3, e4, e5, f12, f13, f14, f15, f16, f17, f18, Bool.and_true, Bool.true_and, Bool.or_false, Bool.false_or, Bool.true_or, Bool.or_true, Bool.and_false, Bool.false_and]), _, rfl⟩
 by_cases h3 : m.kind = 3
 ·have hk := h3
  have n1 : ¬ m.kind = 1 := by omega
  have n2 : ¬ m.kind = 2 := by omega
  have n4 : ¬ m.kind = 4 := by omega
  have n5 : ¬ m.kind = 5 := by omega
  have e1 : decide (m.kind = 1) = false := decide_eq_false n1
  have e2 : decide (m.kind = 2) = false := decide_eq_false n2
  have e3 : decide (m.kind = 3) = true := decide_eq_true hk
  have e4 : decide (m.kind = 4) = false := decide_eq_false n4
  have e5 : decide (m.kind = 5) = false := decide_eq_false n5
  refine ⟨fun h => ?_, fun h => ?_⟩
  ·exact (n1 h).elim
  conv => whnf
  refine ⟨⟨fitA _ _ _ _ _ _, fitA [] [] [] [] 0 0⟩, ?_⟩
  conv => whnf
  refine ⟨fun h => ?_, fun h => ?_⟩
  rotate_left
  ·have f19 : noAs m = false := decide_eq_false fun hh => h (Iff.mpr as_eq hh)
   conv => whnf
   exact ⟨congrArg PV.bool (by unfold othersB noTgs noRep noAp noFail; simp only [e1, e2, e3, e4, e5, f19, Bool.and_true, Bool.true_and, Bool.or_false, Bool.false_or, Bool.true_or, Bool.or_true, Bool.and_false, Bool.false_and]), _, rfl⟩
  have f19 : noAs m = true := decide_eq_true (Iff.mp as_eq h)
  conv => whnf
  refine ⟨fun h => ?_, fun h => ?_⟩
  ·exact (n2 h).elim
  conv => whnf
  ((conv in (_[_]?) => tactic => exact app_get H [PObj.mk 64 (m.tgs.map dem) 1, PObj.mk 30 (m.rep.map dem) 1, PObj.mk 98 (m.ap.map dem) 1] 0); (conv => whnf))
  refine callK_pure (c218 m.t1 m.t2 m.tKv m.tB none) ?_
  cases f20 : noTk m.t1 m.t2 m.tKv m.tB.length
  ·conv => whnf
   exact ⟨congrArg PV.bool (by unfold othersB noTgs noRep noAp noFail; simp only [e1, e2, e3, e4, e5, f19, f20, Bool.and_true, Bool.true_and, Bool.or_false, Bool.false_or, Bool.true_or, Bool.or_true, Bool.and_false, Bool.false_and]), _, rfl⟩
  conv => whnf
  ((conv in (_[_]?) => tactic => exact app_get H [PObj.mk 64 (m.tgs.map dem) 1, PObj.mk 30 (m.rep.map dem) 1, PObj.mk 98 (m.ap.map dem) 1] 0); (conv => whnf))
  refine ⟨fun h => ?_, fun h => ?_⟩
  rotate_left
  ·have f21 : decide (m.tAu.length = 0) = false := decide_eq_false fun hh => h (Iff.mpr nat0 hh)
   conv => whnf
   exact ⟨congrArg PV.bool (by unfold othersB noTgs noRep noAp noFail; simp only [e1, e2, e3, e4, e5, f19, f20, f21, Bool.and_true, Bool.true_and, Bool.or_false, Bool.false_or, Bool.true_or, Bool.or_true, Bool.and_false, Bool.false_and]), _, rfl⟩
  have f21 : decide (m.tAu.length = 0) = true := decide_eq_true (Iff.mp nat0 h)
  conv => whnf
  ((conv in (_[_]?) => tactic => exact app_get H [PObj.mk 64 (m.tgs.map dem) 1, PObj.mk 30 (m.rep.map dem) 1, PObj.mk 98 (m.ap.map dem) 1] 0); (conv => whnf))
  refine ⟨⟨fitG _ _, fitG [] []⟩, ?_⟩
  conv => whnf
  refine ⟨fun h => ?_, fun h => ?_⟩
  rotate_left
  ·have f22 : decide (m.t3 = [] ∧ m.t4 = []) = false := decide_eq_false fun hh => h (Iff.mpr pr_eq hh)
   conv => whnf
   exact ⟨congrArg PV.bool (by unfold othersB noTgs noRep noAp noFail; simp only [e1, e2, e3, e4, e5, f19, f20, f21, f22, Bool.and_true, Bool.true_and, Bool.or_false, Bool.false_or, Bool.true_or, Bool.or_true, Bool.and_false, Bool.false_and]), _, rfl⟩
  have f22 : decide (m.t3 = [] ∧ m.t4 = []) = true := decide_eq_true (Iff.mp pr_eq h)
  conv => whnf
  ((conv in (_[_]?) => tactic => exact app_get H [PObj.mk 64 (m.tgs.map dem) 1, PObj.mk 30 (m.rep.map dem) 1, PObj.mk 98 (m.ap.map dem) 1] 0); (conv => whnf))
  refine ⟨fun h => ?_, fun h => ?_⟩
  rotate_left
  ·have f23 : decide (m.tTill = 0) = false := decide_eq_false fun hh => h (Iff.mpr Iff.rfl hh)
   conv => whnf
   exact ⟨congrArg PV.bool (by unfold othersB noTgs noRep noAp noFail; simp only [e1, e2, e3, e4, e5, f19, f20, f21, f22, f23, Bool.and_true, Bool.true_and, Bool.or_false, Bool.false_or, Bool.true_or, Bool.or_true, Bool.and_false, Bool.false_and]), _, rfl⟩
  have f23 : decide (m.tTill = 0) = true := decide_eq_true (Iff.mp Iff.rfl h)
  conv => whnf
  ((conv in (_[_]?) => tactic => exact app_get H [PObj.mk 64 (m.tgs.map dem) 1, PObj.mk 30 (m.rep.map dem) 1, PObj.mk 98 (m.ap.map dem) 1] 0); (conv => whnf))
  refine ⟨fun h => ?_, fun h => ?_⟩
  rotate_left
  ·have f24 : decide (m.tNonce = 0) = false := decide_eq_false fun hh => h (Iff.mpr Iff.rfl hh)
   conv => whnf
   exact ⟨congrArg PV.bool (by unfold othersB noTgs noRep noAp noFail; simp only [e1, e2, e3, e4, e5, f19, f20, f21, f22, f23, f24, Bool.and_true, Bool.true_and, Bool.or_false, Bool.false_or, Bool.true_or, Bool.or_true, Bool.and_false, Bool.false_and]), _, rfl⟩
  have f24 : decide (m.tNonce = 0) = true := decide_eq_true (Iff.mp Iff.rfl h)
  conv => whnf
  refine ⟨fun h => ?_, fun h => ?_⟩
  rotate_left
  ·exact (h hk).elim
  conv => whnf
  refine ⟨fun h => ?_, fun h => ?_⟩
  ·exact (n4 h).elim
  conv => whnf
  ((conv in (_[_]?) => tactic => exact app_get H [PObj.mk 64 (m.tgs.map dem) 1, PObj.mk 30 (m.rep.map dem) 1, PObj.mk 98 (m.ap.map dem) 1] 2); (conv => whnf))
  refine callK_pure (c218 m.p1 m.p2 m.pKv m.pB none) ?_
  cases f25 : noTk m.p1 m.p2 m.pKv m.pB.length
  ·conv => whnf
   exact ⟨congrArg PV.bool (by unfold othersB noTgs noRep noAp noFail; simp only [e1, e2, e3, e4, e5, f19, f20, f21, f22, f23, f24, f25, Bool.and_true, Bool.true_and, Bool.or_false, Bool.false_or, Bool.true_or, Bool.or_true, Bool.and_false, Bool.false_and]), _, rfl⟩
  conv => whnf
  ((conv in (_[_]?) => tactic => exact app_get H [PObj.mk 64 (m.tgs.map dem) 1, PObj.mk 30 (m.rep.map dem) 1, PObj.mk 98 (m.ap.map dem) 1] 2); (conv => whnf))
  refine ⟨fun h => ?_, fun h => ?_⟩
  rotate_left
  ·have f26 : decide (m.pAu.length = 0) = false := decide_eq_false fun hh => h (Iff.mpr nat0 hh)
   conv => whnf
   exact ⟨congrArg PV.bool (by unfold othersB noTgs noRep noAp noFail; simp only [e1, e2, e3, e4, e5, f19, f20, f21, f22, f23, f24, f25, f26, Bool.and_true, Bool.true_and, Bool.or_false, Bool.false_or, Bool.true_or, Bool.or_true, Bool.and_false, Bool.false_and]), _, rfl⟩
  have f26 : decide (m.pAu.length = 0) = true := decide_eq_true (Iff.mp nat0 h)
  conv => whnf
  refine ⟨fun h => ?_, fun h => ?_⟩
  ·exact (n5 h).elim
  conv => whnf
  refine ⟨⟨fitF _ _, fitF 0 0⟩, ?_⟩
  conv => whnf
  refine ⟨fun h => ?_, fun h => ?_⟩
  rotate_left
  ·have f27 : decide (m.fErr = 0 ∧ m.fNonce = 0) = false := decide_eq_false fun hh => h (Iff.mpr fl_eq hh)
   conv => whnf
   exact ⟨congrArg PV.bool (by unfold othersB noTgs noRep noAp noFail; simp only [e1, e2, e3, e4, e5, f19, f20, f21, f22, f23, f24, f25, f26, f27, Bool.and_true, Bool.true_and, Bool.or_false, Bool.false_or, Bool.true_or, Bool.or_true, Bool.and_false, Bool.false_and]), _, rfl⟩
  have f27 : decide (m.fErr = 0 ∧ m.fNonce = 0) = true := decide_eq_true (Iff.mp fl_eq h)
  conv => whnf
  exact ⟨congrArg PV.bool (by unfold othersB noTgs noRep noAp noFail; simp only [e1, e2, e3, e4, e5, f19, f20, f21, f22, f23, f24, f25, f26, f27, Bool.and_true, Bool.true_and, Bool.or_false, Bool.false_or, Bool.true_or, Bool.or_true, Bool.and_false, Bool.false_and]), _, rfl⟩
 by_cases h4 : m.kind = 4
 ·have hk := h4
  have n1 : ¬ m.kind = 1 := by omega
  have n2 : ¬ m.kind = 2 := by omega
  have n3 : ¬ m.kind = 3 := by omega
  have n5 : ¬ m.kind = 5 := by omega
  have e1 : decide (m.kind = 1) = false := decide_eq_false n1
  have e2 : decide (m.kind = 2) = false := decide_eq_false n2
  have e3 : decide (m.kind = 3) = false := decide_eq_false n3
  have e4 : decide (m.kind = 4) = true := decide_eq_true hk
  have e5 : decide (m.kind = 5) = false := decide_eq_false n5
  refine ⟨fun h => ?_, fun h => ?_⟩
  ·exact (n1 h).elim
  conv => whnf
  refine ⟨⟨fitA _ _ _ _ _ _, fitA [] [] [] [] 0 0⟩, ?_⟩
  conv => whnf
  refine ⟨fun h => ?_, fun h => ?_⟩
  rotate_left
  ·have f28 : noAs m = false := decide_eq_false fun hh => h (Iff.mpr as_eq hh)
   conv => whnf
   exact ⟨congrArg PV.bool (by unfold othersB noTgs noRep noAp noFail; simp only [e1, e2, e3, e4, e5, f28, Bool.and_true, Bool.true_and, Bool.or_false, Bool.false_or, Bool.true_or, Bool.or_true, Bool.and_false, Bool.false_and]), _, rfl⟩
  have f28 : noAs m = true := decide_eq_true (Iff.mp as_eq h)
  conv => whnf
  refine ⟨fun h => ?_, fun h => ?_⟩
  ·exact (n2 h).elim
  conv => whnf
  ((conv in (_[_]?) => tactic => exact app_get H [PObj.mk 64 (m.tgs.map dem) 1, PObj.mk 30 (m.rep.map dem) 1, PObj.mk 98 (m.ap.map dem) 1] 0); (conv => whnf))
  refine callK_pure (c218 m.t1 m.t2 m.tKv m.tB none) ?_
  cases f29 : noTk m.t1 m.t2 m.tKv m.tB.length
  ·conv => whnf
   exact ⟨congrArg PV.bool (by unfold othersB noTgs noRep noAp noFail; simp only [e1, e2, e3, e4, e5, f28, f29, Bool.and_true, Bool.true_and, Bool.or_false, Bool.false_or, Bool.true_or, Bool.or_true, Bool.and_false, Bool.false_and]), _, rfl⟩
  conv => whnf
  ((conv in (_[_]?) => tactic => exact app_get H [PObj.mk 64 (m.tgs.map dem) 1, PObj.mk 30 (m.rep.map dem) 1, PObj.mk 98 (m.ap.map dem) 1] 0); (conv => whnf))
  refine ⟨fun h => ?_, fun h => ?_⟩
  rotate_left
  ·have f30 : decide (m.tAu.length = 0) = false := decide_eq_false fun hh => h (Iff.mpr nat0 hh)
   conv => whnf
   exact ⟨congrArg PV.bool (by unfold othersB noTgs noRep noAp noFail; simp only [e1, e2, e3, e4, e5, f28, f29, f30, Bool.and_true, Bool.true_and, Bool.or_false, Bool.false_or, Bool.true_or, Bool.or_true, Bool.and_false, Bool.false_and]), _, rfl⟩
  have f30 : decide (m.tAu.length = 0) = true := decide_eq_true (Iff.mp nat0 h)
  conv => whnf
  ((conv in (_[_]?) => tactic => exact app_get H [PObj.mk 64 (m.tgs.map dem) 1, PObj.mk 30 (m.rep.map dem) 1, PObj.mk 98 (m.ap.map dem) 1] 0); (conv => whnf))
  refine ⟨⟨fitG _ _, fitG [] []⟩, ?_⟩
  conv => whnf
  refine ⟨fun h => ?_, fun h => ?_⟩
  rotate_left
  ·have f31 : decide (m.t3 = [] ∧ m.t4 = []) = false := decide_eq_false fun hh => h (Iff.mpr pr_eq hh)
   conv => whnf
   exact ⟨congrArg PV.bool (by unfold othersB noTgs noRep noAp noFail; simp only [e1, e2, e3, e4, e5, f28, f29, f30, f31, Bool.and_true, Bool.true_and, Bool.or_false, Bool.false_or, Bool.true_or, Bool.or_true, Bool.and_false, Bool.false_and]), _, rfl⟩
  have f31 : decide (m.t3 = [] ∧ m.t4 = []) = true := decide_eq_true (Iff.mp pr_eq h)
  conv => whnf
  ((conv in (_[_]?) => tactic => exact app_get H [PObj.mk 64 (m.tgs.map dem) 1, PObj.mk 30 (m.rep.map dem) 1, PObj.mk 98 (m.ap.map dem) 1] 0); (conv => whnf))
  refine ⟨fun h => ?_, fun h => ?_⟩
  rotate_left
  ·have f32 : decide (m.tTill = 0) = false := decide_eq_false fun hh => h (Iff.mpr Iff.rfl hh)
   conv => whnf
   exact ⟨congrArg PV.bool (by unfold othersB noTgs noRep noAp noFail; simp only [e1, e2, e3, e4, e5, f28, f29, f30, f31, f32, Bool.and_true, Bool.true_and, Bool.or_false, Bool.false_or, Bool.true_or, Bool.or_true, Bool.and_false, Bool.false_and]), _, rfl⟩
  have f32 : decide (m.tTill = 0) = true := decide_eq_true (Iff.mp Iff.rfl h)
  conv => whnf
  ((conv in (_[_]?) => tactic => exact app_get H [PObj.mk 64 (m.tgs.map dem) 1, PObj.mk 30 (m.rep.map dem) 1, PObj.mk 98 (m.ap.map dem) 1] 0); (conv => whnf))
  refine ⟨fun h => ?_, fun h => ?_⟩
  rotate_left
  ·have f33 : decide (m.tNonce = 0) = false := decide_eq_false fun hh => h (Iff.mpr Iff.rfl hh)
   conv => whnf
   exact ⟨congrArg PV.bool (by unfold othersB noTgs noRep noAp noFail; simp only [e1, e2, e3, e4, e5, f28, f29, f30, f31, f32, f33, Bool.and_true, Bool.true_and, Bool.or_false, Bool.false_or, Bool.true_or, Bool.or_true, Bool.and_false, Bool.false_and]), _, rfl⟩
  have f33 : decide (m.tNonce = 0) = true := decide_eq_true (Iff.mp Iff.rfl h)
  conv => whnf
  refine ⟨fun h => ?_, fun h => ?_⟩
  ·exact (n3 h).elim
  conv => whnf
  ((conv in (_[_]?) => tactic => exact app_get H [PObj.mk 64 (m.tgs.map dem) 1, PObj.mk 30 (m.rep.map dem) 1, PObj.mk 98 (m.ap.map dem) 1] 1); (conv => whnf))
  refine ⟨⟨fitG _ _, fitG [] []⟩, ?_⟩
  conv => whnf
  refine ⟨fun h => ?_, fun h => ?_⟩
  rotate_left
  ·have f34 : decide (m.r1 = [] ∧ m.r2 = []) = false := decide_eq_false fun hh => h (Iff.mpr pr_eq hh)
   conv => whnf
   exact ⟨congrArg PV.bool (by unfold othersB noTgs noRep noAp noFail; simp only [e1, e2, e3, e4, e5, f28, f29, f30, f31, f32, f33, f34, Bool.and_true, Bool.true_and, Bool.or_false, Bool.false_or, Bool.true_or, Bool.or_true, Bool.and_false, Bool.false_and]), _, rfl⟩
  have f34 : decide (m.r1 = [] ∧ m.r2 = []) = true := decide_eq_true (Iff.mp pr_eq h)
  conv => whnf
  ((conv in (_[_]?) => tactic => exact app_get H [PObj.mk 64 (m.tgs.map dem) 1, PObj.mk 30 (m.rep.map dem) 1, PObj.mk 98 (m.ap.map dem) 1] 1); (conv => whnf))
  refine callK_pure (c218 m.r3 m.r4 m.rKv m.rB none) ?_
  cases f35 : noTk m.r3 m.r4 m.rKv m.rB.length
  ·conv => whnf
   exact ⟨congrArg PV.bool (by unfold othersB noTgs noRep noAp noFail; simp only [e1, e2, e3, e4, e5, f28, f29, f30, f31, f32, f33, f34, f35, Bool.and_true, Bool.true_and, Bool.or_false, Bool.false_or, Bool.true_or, Bool.or_true, Bool.and_false, Bool.false_and]), _, rfl⟩
  conv => whnf
  ((conv in (_[_]?) => tactic => exact app_get H [PObj.mk 64 (m.tgs.map dem) 1, PObj.mk 30 (m.rep.map dem) 1, PObj.mk 98 (m.ap.map dem) 1] 1); (conv => whnf))
  refine ⟨fun h => ?_, fun h => ?_⟩
  rotate_left
  ·have f36 : decide (m.rBl.length = 0) = false := decide_eq_false fun hh => h (Iff.mpr nat0 hh)
   conv => whnf
   exact ⟨congrArg PV.bool (by unfold othersB noTgs noRep noAp noFail; simp only [e1, e2, e3, e4, e5, f28, f29, f30, f31, f32, f33, f34, f35, f36, Bool.and_true, Bool.true_and, Bool.or_false, Bool.false_or, Bool.true_or, Bool.or_true, Bool.and_false, Bool.false_and]), _, rfl⟩
  have f36 : decide (m.rBl.length = 0) = true := decide_eq_true (Iff.mp nat0 h)
  conv => whnf
  refine ⟨fun h => ?_, fun h => ?_⟩
  rotate_left
  ·exact (h hk).elim
  conv => whnf
  refine ⟨fun h => ?_, fun h => ?_⟩
  ·exact (n5 h).elim
  conv => whnf
  refine ⟨⟨fitF _ _, fitF 0 0⟩, ?_⟩
  conv => whnf
  refine ⟨fun h => ?_, fun h => ?_⟩
  rotate_left
  ·have f37 : decide (m.fErr = 0 ∧ m.fNonce = 0) = false := decide_eq_false fun hh => h (Iff.mpr fl_eq hh)
   conv => whnf
   exact ⟨congrArg PV.bool (by unfold othersB noTgs noRep noAp noFail; simp only [e1, e2, e3, e4, e5, f28, f29, f30, f31, f32, f33, f34, f35, f36, f37, Bool.and_true, Bool.true_and, Bool.or_false, Bool.false_or, Bool.true_or, Bool.or_true, Bool.and_false, Bool.false_and]), _, rfl⟩
  have f37 : decide (m.fErr = 0 ∧ m.fNonce = 0) = true := decide_eq_true (Iff.mp fl_eq h)
  conv => whnf
  exact ⟨congrArg PV.bool (by unfold othersB noTgs noRep noAp noFail; simp only [e1, e2, e3, e4, e5, f28, f29, f30, f31, f32, f33, f34, f35, f36, f37, Bool.and_true, Bool.true_and, Bool.or_false, Bool.false_or, Bool.true_or, Bool.or_true, Bool.and_false, Bool.false_and]), _, rfl⟩
 by_cases h5 : m.kind = 5
 ·have hk := h5
  have n1 : ¬ m.kind = 1 := by omega
  have n2 : ¬ m.kind = 2 := by omega
  have n3 : ¬ m.kind = 3 := by omega
  have n4 : ¬ m.kind = 4 := by omega
  have e1 : decide (m.kind = 1) = false := decide_eq_false n1
  have e2 : decide (m.kind = 2) = false := decide_eq_false n2
  have e3 : decide (m.kind = 3) = false := decide_eq_false n3
  have e4 : decide (m.kind = 4) = false := decide_eq_false n4
  have e5 : decide (m.kind = 5) = true := decide_eq_true hk
  refine ⟨fun h => ?_, fun h => ?_⟩
  ·exact (n1 h).elim
  conv => whnf
  refine ⟨⟨fitA _ _ _ _ _ _, fitA [] [] [] [] 0 0⟩, ?_⟩
  conv => whnf
  refine ⟨fun h => ?_, fun h => ?_⟩
  rotate_left
  ·have f38 : noAs m = false := decide_eq_false fun hh => h (Iff.mpr as_eq hh)
   conv => whnf
   exact ⟨congrArg PV.bool (by unfold othersB noTgs noRep noAp noFail; simp only [e1, e2, e3, e4, e5, f38, Bool.and_true, Bool.true_and, Bool.or_false, Bool.false_or, Bool.true_or, Bool.or_true, Bool.and_false, Bool.false_and]), _, rfl⟩
  have f38 : noAs m = true := decide_eq_true (Iff.mp as_eq h)
  conv => whnf
  refine ⟨fun h => ?_, fun h => ?_⟩
  ·exact (n2 h).elim
  conv => whnf
  ((conv in (_[_]?) => tactic => exact app_get H [PObj.mk 64 (m.tgs.map dem) 1, PObj.mk 30 (m.rep.map dem) 1, PObj.mk 98 (m.ap.map dem) 1] 0); (conv => whnf))
  refine callK_pure (c218 m.t1 m.t2 m.tKv m.tB none) ?_
  cases f39 : noTk m.t1 m.t2 m.tKv m.tB.length
  ·conv => whnf
   exact ⟨congrArg PV.bool (by unfold othersB noTgs noRep noAp noFail; simp only [e1, e2, e3, e4, e5, f38, f39, Bool.and_true, Bool.true_and, Bool.or_false, Bool.false_or, Bool.true_or, Bool.or_true, Bool.and_false, Bool.false_and]), _, rfl⟩
  conv => whnf
  ((conv in (_[_]?) => tactic => exact app_get H [PObj.mk 64 (m.tgs.map dem) 1, PObj.mk 30 (m.rep.map dem) 1, PObj.mk 98 (m.ap.map dem) 1] 0); (conv => whnf))
  refine ⟨fun h => ?_, fun h => ?_⟩
  rotate_left
  ·have f40 : decide (m.tAu.length = 0) = false := decide_eq_false fun hh => h (Iff.mpr nat0 hh)
   conv => whnf
   exact ⟨congrArg PV.bool (by unfold othersB noTgs noRep noAp noFail; simp only [e1, e2, e3, e4, e5, f38, f39, f40, Bool.and_true, Bool.true_and, Bool.or_false, Bool.false_or, Bool.true_or, Bool.or_true, Bool.and_false, Bool.false_and]), _, rfl⟩
  have f40 : decide (m.tAu.length = 0) = true := decide_eq_true (Iff.mp nat0 h)
  conv => whnf
  ((conv in (_[_]?) => tactic => exact app_get H [PObj.mk 64 (m.tgs.map dem) 1, PObj.mk 30 (m.rep.map dem) 1, PObj.mk 98 (m.ap.map dem) 1] 0); (conv => whnf))
  refine ⟨⟨fitG _ _, fitG [] []⟩, ?_⟩
  conv => whnf
  refine ⟨fun h => ?_, fun h => ?_⟩
  rotate_left
  ·have f41 : decide (m.t3 = [] ∧ m.t4 = []) = false := decide_eq_false fun hh => h (Iff.mpr pr_eq hh)
   conv => whnf
   exact ⟨congrArg PV.bool (by unfold othersB noTgs noRep noAp noFail; simp only [e1, e2, e3, e4, e5, f38, f39, f40, f41, Bool.and_true, Bool.true_and, Bool.or_false, Bool.false_or, Bool.true_or, Bool.or_true, Bool.and_false, Bool.false_and]), _, rfl⟩
  have f41 : decide (m.t3 = [] ∧ m.t4 = []) = true := decide_eq_true (Iff.mp pr_eq h)
  conv => whnf
  ((conv in (_[_]?) => tactic => exact app_get H [PObj.mk 64 (m.tgs.map dem) 1, PObj.mk 30 (m.rep.map dem) 1, PObj.mk 98 (m.ap.map dem) 1] 0); (conv => whnf))
  refine ⟨fun h => ?_, fun h => ?_⟩
  rotate_left
  ·have f42 : decide (m.tTill = 0) = false := decide_eq_false fun hh => h (Iff.mpr Iff.rfl hh)
   conv => whnf
   exact ⟨congrArg PV.bool (by unfold othersB noTgs noRep noAp noFail; simp only [e1, e2, e3, e4, e5, f38, f39, f40, f41, f42, Bool.and_true, Bool.true_and, Bool.or_false, Bool.false_or, Bool.true_or, Bool.or_true, Bool.and_false, Bool.false_and]), _, rfl⟩
  have f42 : decide (m.tTill = 0) = true := decide_eq_true (Iff.mp Iff.rfl h)
  conv => whnf
  ((conv in (_[_]?) => tactic => exact app_get H [PObj.mk 64 (m.tgs.map dem) 1, PObj.mk 30 (m.rep.map dem) 1, PObj.mk 98 (m.ap.map dem) 1] 0); (conv => whnf))
  refine ⟨fun h => ?_, fun h => ?_⟩
  rotate_left
  ·have f43 : decide (m.tNonce = 0) = false := decide_eq_false fun hh => h (Iff.mpr Iff.rfl hh)
   conv => whnf
   exact ⟨congrArg PV.bool (by unfold othersB noTgs noRep noAp noFail; simp only [e1, e2, e3, e4, e5, f38, f39, f40, f41, f42, f43, Bool.and_true, Bool.true_and, Bool.or_false, Bool.false_or, Bool.true_or, Bool.or_true, Bool.and_false, Bool.false_and]), _, rfl⟩
  have f43 : decide (m.tNonce = 0) = true := decide_eq_true (Iff.mp Iff.rfl h)
  conv => whnf
  refine ⟨fun h => ?_, fun h => ?_⟩
  ·exact (n3 h).elim
  conv => whnf
  ((conv in (_[_]?) => tactic => exact app_get H [PObj.mk 64 (m.tgs.map dem) 1, PObj.mk 30 (m.rep.map dem) 1, PObj.mk 98 (m.ap.map dem) 1] 1); (conv => whnf))
  refine ⟨⟨fitG _ _, fitG [] []⟩, ?_⟩
  conv => whnf
  refine ⟨fun h => ?_, fun h => ?_⟩
  rotate_left
  ·have f44 : decide (m.r1 = [] ∧ m.r2 = []) = false := decide_eq_false fun hh => h (Iff.mpr pr_eq hh)
   conv => whnf
   exact ⟨congrArg PV.bool (by unfold othersB noTgs noRep noAp noFail; simp only [e1, e2, e3, e4, e5, f38, f39, f40, f41, f42, f43, f44, Bool.and_true, Bool.true_and, Bool.or_false, Bool.false_or, Bool.true_or, Bool.or_true, Bool.and_false, Bool.false_and]), _, rfl⟩
  have f44 : decide (m.r1 = [] ∧ m.r2 = []) = true := decide_eq_true (Iff.mp pr_eq h)
  conv => whnf
  ((conv in (_[_]?) => tactic => exact app_get H [PObj.mk 64 (m.tgs.map dem) 1, PObj.mk 30 (m.rep.map dem) 1, PObj.mk 98 (m.ap.map dem) 1] 1); (conv => whnf))
  refine callK_pure (c218 m.r3 m.r4 m.rKv m.rB none) ?_
  cases f45 : noTk m.r3 m.r4 m.rKv m.rB.length
  ·conv => whnf
   exact ⟨congrArg PV.bool (by unfold othersB noTgs noRep noAp noFail; simp only [e1, e2, e3, e4, e5, f38, f39, f40, f41, f42, f43, f44, f45, Bool.and_true, Bool.true_and, Bool.or_false, Bool.false_or, Bool.true_or, Bool.or_true, Bool.and_false, Bool.false_and]), _, rfl⟩
  conv => whnf
  ((conv in (_[_]?) => tactic => exact app_get H [PObj.mk 64 (m.tgs.map dem) 1, PObj.mk 30 (m.rep.map dem) 1, PObj.mk 98 (m.ap.map dem) 1] 1); (conv => whnf))
  refine ⟨fun h => ?_, fun h => ?_⟩
  rotate_left
  ·have f46 : decide (m.rBl.length = 0) = false := decide_eq_false fun hh => h (Iff.mpr nat0 hh)
   conv => whnf
   exact ⟨congrArg PV.bool (by unfold othersB noTgs noRep noAp noFail; simp only [e1, e2, e3, e4, e5, f38, f39, f40, f41, f42, f43, f44, f45, f46, Bool.and_true, Bool.true_and, Bool.or_false, Bool.false_or, Bool.true_or, Bool.or_true, Bool.and_false, Bool.false_and]), _, rfl⟩
  have f46 : decide (m.rBl.length = 0) = true := decide_eq_true (Iff.mp nat0 h)
  conv => whnf
  refine ⟨fun h => ?_, fun h => ?_⟩
  ·exact (n4 h).elim
  conv => whnf
  ((conv in (_[_]?) => tactic => exact app_get H [PObj.mk 64 (m.tgs.map dem) 1, PObj.mk 30 (m.rep.map dem) 1, PObj.mk 98 (m.ap.map dem) 1] 2); (conv => whnf))
  refine callK_pure (c218 m.p1 m.p2 m.pKv m.pB none) ?_
  cases f47 : noTk m.p1 m.p2 m.pKv m.pB.length
  ·conv => whnf
   exact ⟨congrArg PV.bool (by unfold othersB noTgs noRep noAp noFail; simp only [e1, e2, e3, e4, e5, f38, f39, f40, f41, f42, f43, f44, f45, f46, f47, Bool.and_true, Bool.true_and, Bool.or_false, Bool.false_or, Bool.true_or, Bool.or_true, Bool.and_false, Bool.false_and]), _, rfl⟩
  conv => whnf
  ((conv in (_[_]?) => tactic => exact app_get H [PObj.mk 64 (m.tgs.map dem) 1, PObj.mk 30 (m.rep.map dem) 1, PObj.mk 98 (m.ap.map dem) 1] 2); (conv => whnf))
  refine ⟨fun h => ?_, fun h => ?_⟩
  rotate_left
  ·have f48 : decide (m.pAu.length = 0) = false := decide_eq_false fun hh => h (Iff.mpr nat0 hh)
   conv => whnf
   exact ⟨congrArg PV.bool (by unfold othersB noTgs noRep noAp noFail; simp only [e1, e2, e3, e4, e5, f38, f39, f40, f41, f42, f43, f44, f45, f46, f47, f48, Bool.and_true, Bool.true_and, Bool.or_false, Bool.false_or, Bool.true_or, Bool.or_true, Bool.and_false, Bool.false_and]), _, rfl⟩
  have f48 : decide (m.pAu.length = 0) = true := decide_eq_true (Iff.mp nat0 h)
  conv => whnf
  refine ⟨fun h => ?_, fun h => ?_⟩
  rotate_left
  ·exact (h hk).elim
  conv => whnf
  exact ⟨congrArg PV.bool (by unfold othersB noTgs noRep noAp noFail; simp only [e1, e2, e3, e4, e5, f38, f39, f40, f41, f42, f43, f44, f45, f46, f47, f48, Bool.and_true, Bool.true_and, Bool.or_false, Bool.false_or, Bool.true_or, Bool.or_true, Bool.and_false, Bool.false_and]), _, rfl⟩
 have n1 : ¬ m.kind = 1 := h1
 have n2 : ¬ m.kind = 2 := h2
 have n3 : ¬ m.kind = 3 := h3
 have n4 : ¬ m.kind = 4 := h4
 have n5 : ¬ m.kind = 5 := h5
 have e1 : decide (m.kind = 1) = false := decide_eq_false n1
 have e2 : decide (m.kind = 2) = false := decide_eq_false n2
 have e3 : decide (m.kind = 3) = false := decide_eq_false n3
 have e4 : decide (m.kind = 4) = false := decide_eq_false n4
 have e5 : decide (m.kind = 5) = false := decide_eq_false n5
 refine ⟨fun h => ?_, fun h => ?_⟩
 ·exact (n1 h).elim
 conv => whnf
 refine ⟨⟨fitA _ _ _ _ _ _, fitA [] [] [] [] 0 0⟩, ?_⟩
 conv => whnf
 refine ⟨fun h => ?_, fun h => ?_⟩
 rotate_left
 ·have f49 : noAs m = false := decide_eq_false fun hh => h (Iff.mpr as_eq hh)
  conv => whnf
  exact ⟨congrArg PV.bool (by unfold othersB noTgs noRep noAp noFail; simp only [e1, e2, e3, e4, e5, f49, Bool.and_true, Bool.true_and, Bool.or_false, Bool.false_or, Bool.true_or, Bool.or_true, Bool.and_false, Bool.false_and]), _, rfl⟩
 have f49 : noAs m = true := decide_eq_true (Iff.mp as_eq h)
 conv => whnf
 refine ⟨fun h => ?_, fun h => ?_⟩
 ·exact (n2 h).elim
 conv => whnf
 ((conv in (_[_]?) => tactic => exact app_get H [PObj.mk 64 (m.tgs.map dem) 1, PObj.mk 30 (m.rep.map dem) 1, PObj.mk 98 (m.ap.map dem) 1] 0); (conv => whnf))
 refine callK_pure (c218 m.t1 m.t2 m.tKv m.tB none) ?_
 cases f50 : noTk m.t1 m.t2 m.tKv m.tB.length
 ·conv => whnf
  exact ⟨congrArg PV.bool (by unfold othersB noTgs noRep noAp noFail; simp only [e1, e2, e3, e4, e5, f49, f50, Bool.and_true, Bool.true_and, Bool.or_false, Bool.false_or, Bool.true_or, Bool.or_true, Bool.and_false, Bool.false_and]), _, rfl⟩
 conv => whnf
 ((conv in (_[_]?) => tactic => exact app_get H [PObj.mk 64 (m.tgs.map dem) 1, PObj.mk 30 (m.rep.map dem) 1, PObj.mk 98 (m.ap.map dem) 1] 0); (conv => whnf))
 refine ⟨fun h => ?_, fun h => ?_⟩
 rotate_left
 ·have f51 : decide (m.tAu.length = 0) = false := decide_eq_false fun hh => h (Iff.mpr nat0 hh)
  conv => whnf
  exact ⟨congrArg PV.bool (by unfold othersB noTgs noRep noAp noFail; simp only [e1, e2, e3, e4, e5, f49, f50, f51, Bool.and_true, Bool.true_and, Bool.or_false, Bool.false_or, Bool.true_or, Bool.or_true, Bool.and_false, Bool.false_and]), _, rfl⟩
 have f51 : decide (m.tAu.length = 0) = true := decide_eq_true (Iff.mp nat0 h)
 conv => whnf
 ((conv in (_[_]?) => tactic => exact app_get H [PObj.mk 64 (m.tgs.map dem) 1, PObj.mk 30 (m.rep.map dem) 1, PObj.mk 98 (m.ap.map dem) 1] 0); (conv => whnf))
 refine ⟨⟨fitG _ _, fitG [] []⟩, ?_⟩
 conv => whnf
 refine ⟨fun h => ?_, fun h => ?_⟩
 rotate_left
 ·have f52 : decide (m.t3 = [] ∧ m.t4 = []) = false := decide_eq_false fun hh => h (Iff.mpr pr_eq hh)
  conv => whnf
  exact ⟨congrArg PV.bool (by unfold othersB noTgs noRep noAp noFail; simp only [e1, e2, e3, e4, e5, f49, f50, f51, f52, Bool.and_true, Bool.true_and, Bool.or_false, Bool.false_or, Bool.true_or, Bool.or_true, Bool.and_false, Bool.false_and]), _, rfl⟩
 have f52 : decide (m.t3 = [] ∧ m.t4 = []) = true := decide_eq_true (Iff.mp pr_eq h)
 conv => whnf
 ((conv in (_[_]?) => tactic => exact app_get H [PObj.mk 64 (m.tgs.map dem) 1, PObj.mk 30 (m.rep.map dem) 1, PObj.mk 98 (m.ap.map dem) 1] 0); (conv => whnf))
 refine ⟨fun h => ?_, fun h => ?_⟩
 rotate_left
 ·have f53 : decide (m.tTill = 0) = false := decide_eq_false fun hh => h (Iff.mpr Iff.rfl hh)
  conv => whnf
  exact ⟨congrArg PV.bool (by unfold othersB noTgs noRep noAp noFail; simp only [e1, e2, e3, e4, e5, f49, f50, f51, f52, f53, Bool.and_true, Bool.true_and, Bool.or_false, Bool.false_or, Bool.true_or, Bool.or_true, Bool.and_false, Bool.false_and]), _, rfl⟩
 have f53 : decide (m.tTill = 0) = true := decide_eq_true (Iff.mp Iff.rfl h)
 conv => whnf
 ((conv in (_[_]?) => tactic => exact app_get H [PObj.mk 64 (m.tgs.map dem) 1, PObj.mk 30 (m.rep.map dem) 1, PObj.mk 98 (m.ap.map dem) 1] 0); (conv => whnf))
 refine ⟨fun h => ?_, fun h => ?_⟩
 rotate_left
 ·have f54 : decide (m.tNonce = 0) = false := decide_eq_false fun hh => h (Iff.mpr Iff.rfl hh)
  conv => whnf
  exact ⟨congrArg PV.bool (by unfold othersB noTgs noRep noAp noFail; simp only [e1, e2, e3, e4, e5, f49, f50, f51, f52, f53, f54, Bool.and_true, Bool.true_and, Bool.or_false, Bool.false_or, Bool.true_or, Bool.or_true, Bool.and_false, Bool.false_and]), _, rfl⟩
 have f54 : decide (m.tNonce = 0) = true := decide_eq_true (Iff.mp Iff.rfl h)
 conv => whnf
 refine ⟨fun h => ?_, fun h => ?_⟩
 ·exact (n3 h).elim
 conv => whnf
 ((conv in (_[_]?) => tactic => exact app_get H [PObj.mk 64 (m.tgs.map dem) 1, PObj.mk 30 (m.rep.map dem) 1, PObj.mk 98 (m.ap.map dem) 1] 1); (conv => whnf))
 refine ⟨⟨fitG _ _, fitG [] []⟩, ?_⟩
 conv => whnf
 refine ⟨fun h => ?_, fun h => ?_⟩
 rotate_left
 ·have f55 : decide (m.r1 = [] ∧ m.r2 = []) = false := decide_eq_false fun hh => h (Iff.mpr pr_eq hh)
  conv => whnf
  exact ⟨congrArg PV.bool (by unfold othersB noTgs noRep noAp noFail; simp only [e1, e2, e3, e4, e5, f49, f50, f51, f52, f53, f54, f55, Bool.and_true, Bool.true_and, Bool.or_false, Bool.false_or, Bool.true_or, Bool.or_true, Bool.and_false, Bool.false_and]), _, rfl⟩
 have f55 : decide (m.r1 = [] ∧ m.r2 = []) = true := decide_eq_true (Iff.mp pr_eq h)
 conv => whnf
 ((conv in (_[_]?) => tactic => exact app_get H [PObj.mk 64 (m.tgs.map dem) 1, PObj.mk 30 (m.rep.map dem) 1, PObj.mk 98 (m.ap.map dem) 1] 1); (conv => whnf))
 refine callK_pure (c218 m.r3 m.r4 m.rKv m.rB none) ?_
 cases f56 : noTk m.r3 m.r4 m.rKv m.rB.length
 ·conv => whnf
  exact ⟨congrArg PV.bool (by unfold othersB noTgs noRep noAp noFail; simp only [e1, e2, e3, e4, e5, f49, f50, f51, f52, f53, f54, f55, f56, Bool.and_true, Bool.true_and, Bool.or_false, Bool.false_or, Bool.true_or, Bool.or_true, Bool.and_false, Bool.false_and]), _, rfl⟩
 conv => whnf
 ((conv in (_[_]?) => tactic => exact app_get H [PObj.mk 64 (m.tgs.map dem) 1, PObj.mk 30 (m.rep.map dem) 1, PObj.mk 98 (m.ap.map dem) 1] 1); (conv => whnf))
 refine ⟨fun h => ?_, fun h => ?_⟩
 rotate_left
 ·have f57 : decide (m.rBl.length = 0) = false := decide_eq_false fun hh => h (Iff.mpr nat0 hh)
  conv => whnf
  exact ⟨congrArg PV.bool (by unfold othersB noTgs noRep noAp noFail; simp only [e1, e2, e3, e4, e5, f49, f50, f51, f52, f53, f54, f55, f56, f57, Bool.and_true, Bool.true_and, Bool.or_false, Bool.false_or, Bool.true_or, Bool.or_true, Bool.and_false, Bool.false_and]), _, rfl⟩
 have f57 : decide (m.rBl.length = 0) = true := decide_eq_true (Iff.mp nat0 h)
 conv => whnf
 refine ⟨fun h => ?_, fun h => ?_⟩
 ·exact (n4 h).elim
 conv => whnf
 ((conv in (_[_]?) => tactic => exact app_get H [PObj.mk 64 (m.tgs.map dem) 1, PObj.mk 30 (m.rep.map dem) 1, PObj.mk 98 (m.ap.map dem) 1] 2); (conv => whnf))
 refine callK_pure (c218 m.p1 m.p2 m.pKv m.pB none) ?_
 cases f58 : noTk m.p1 m.p2 m.pKv m.pB.length
 ·conv => whnf
  exact ⟨congrArg PV.bool (by unfold othersB noTgs noRep noAp noFail; simp only [e1, e2, e3, e4, e5, f49, f50, f51, f52, f53, f54, f55, f56, f57, f58, Bool.and_true, Bool.true_and, Bool.or_false, Bool.false_or, Bool.true_or, Bool.or_true, Bool.and_false, Bool.false_and]), _, rfl⟩
 conv => whnf
 ((conv in (_[_]?) => tactic => exact app_get H [PObj.mk 64 (m.tgs.map dem) 1, PObj.mk 30 (m.rep.map dem) 1, PObj.mk 98 (m.ap.map dem) 1] 2); (conv => whnf))
 refine ⟨fun h => ?_, fun h => ?_⟩
 rotate_left
 ·have f59 : decide (m.pAu.length = 0) = false := decide_eq_false fun hh => h (Iff.mpr nat0 hh)
  conv => whnf
  exact ⟨congrArg PV.bool (by unfold othersB noTgs noRep noAp noFail; simp only [e1, e2, e3, e4, e5, f49, f50, f51, f52, f53, f54, f55, f56, f57, f58, f59, Bool.and_true, Bool.true_and, Bool.or_false, Bool.false_or, Bool.true_or, Bool.or_true, Bool.and_false, Bool.false_and]), _, rfl⟩
 have f59 : decide (m.pAu.length = 0) = true := decide_eq_true (Iff.mp nat0 h)
 conv => whnf
 refine ⟨fun h => ?_, fun h => ?_⟩
 ·exact (n5 h).elim
 conv => whnf
 refine ⟨⟨fitF _ _, fitF 0 0⟩, ?_⟩
 conv => whnf
 refine ⟨fun h => ?_, fun h => ?_⟩
 rotate_left
 ·have f60 : decide (m.fErr = 0 ∧ m.fNonce = 0) = false := decide_eq_false fun hh => h (Iff.mpr fl_eq hh)
  conv => whnf
  exact ⟨congrArg PV.bool (by unfold othersB noTgs noRep noAp noFail; simp only [e1, e2, e3, e4, e5, f49, f50, f51, f52, f53, f54, f55, f56, f57, f58, f59, f60, Bool.and_true, Bool.true_and, Bool.or_false, Bool.false_or, Bool.true_or, Bool.or_true, Bool.and_false, Bool.false_and]), _, rfl⟩
 have f60 : decide (m.fErr = 0 ∧ m.fNonce = 0) = true := decide_eq_true (Iff.mp fl_eq h)
 conv => whnf
 exact ⟨congrArg PV.bool (by unfold othersB noTgs noRep noAp noFail; simp only [e1, e2, e3, e4, e5, f49, f50, f51, f52, f53, f54, f55, f56, f57, f58, f59, f60, Bool.and_true, Bool.true_and, Bool.or_false, Bool.false_or, Bool.true_or, Bool.or_true, Bool.and_false, Bool.false_and]), _, rfl⟩
theorem c163 (m : Msg) : Pure prog 163 [.agg m.cells] (.bool (othersB m)) := Pure.of_gc rfl (c163x m)
def Msg.fits (m : Msg) : Prop := m.a1.length ≤ 1099511620000 ∧ m.a2.length ≤ 1099511620000 ∧ m.a3.length ≤ 1099511620000 ∧ m.a4.length ≤ 1099511620000 ∧ m.t1.length ≤ 1099511620000 ∧ m.t2.length ≤ 1099511620000 ∧ m.t3.length ≤ 1099511620000 ∧ m.t4.length ≤ 1099511620000 ∧ m.r1.length ≤ 1099511620000 ∧ m.r2.length ≤ 1099511620000 ∧ m.r3.length ≤ 1099511620000 ∧ m.r4.length ≤ 1099511620000 ∧ m.p1.length ≤ 1099511620000 ∧ m.p2.length ≤ 1099511620000
def isB (m : Msg) : Bool :=
  (if m.kind = 1 then isPrincB m.a1 m.a2 && isPrincB m.a3 m.a4 && inZ m.aTill 0 1073741824 && inZ m.aNonce 0 1073741824
   else if m.kind = 2 then tickB m.t1 m.t2 m.tKv m.tB.length && inZ m.tAu.length 1 800 && isPrincB m.t3 m.t4 && inZ m.tTill 0 1073741824 && inZ m.tNonce 0 1073741824
   else if m.kind = 3 then isPrincB m.r1 m.r2 && tickB m.r3 m.r4 m.rKv m.rB.length && inZ m.rBl.length 1 800
   else if m.kind = 4 then tickB m.p1 m.p2 m.pKv m.pB.length && inZ m.pAu.length 1 800
   else if m.kind = 5 then inZ m.fErr 1 255 && inZ m.fNonce 0 1073741824
   else false) && othersB m
def Msg.d (m : Msg) : Msg := { m with tBo := none, tAuo := none, rBo := none, rBlo := none, pBo := none, pAuo := none }
theorem od {m : Msg} : othersB m.d = othersB m := rfl
theorem c158a (n : Int) : Pure prog 158 [.slice 1 [.int .i64 n] none] (.bool (inZ n 0 1073741824)) := (c158 [n] (by show 1 ≤ _; omega)).of_eq (by show PV.bool (inZ n 0 1073741824 && true) = _; rw [Bool.and_true])
theorem c102x (m : Msg) (hm : m.fits) (H : PH) : CallOk prog 102 [.agg m.cells] H fun r H' => r = .bool (isB m) ∧ ∃ ext, H' = H ++ ext := by
 (refine fnS (imm := imm102) ttG_ok func102 ?_; (conv => whnf))
 conv => whnf
 by_cases h1 : m.kind = 1
 ·have hk := h1
  have n2 : ¬ m.kind = 2 := by omega
  have n3 : ¬ m.kind = 3 := by omega
  have n4 : ¬ m.kind = 4 := by omega
  have n5 : ¬ m.kind = 5 := by omega
  refine ⟨fun h => ?_, fun h => ?_⟩
  rotate_left
  ·exact (h hk).elim
  conv => whnf
  ((conv in (_[_]?) => tactic => exact get_last _ _); (conv => whnf))
  ((conv in (_[_]?) => tactic => exact get_set (get_last _ _)); (conv => whnf))
  refine callK_pure (c97 m.a1 m.a2 (by have := hm.1; omega) (by have := hm.2.1; omega)) ?_
  cases f1 : isPrincB m.a1 m.a2
  ·conv => whnf
   exact ⟨congrArg PV.bool (by unfold isB; rw [if_pos hk]; simp only [f1, od, Bool.and_true, Bool.true_and, Bool.and_false, Bool.false_and]), (Ext.refl _).push _ |>.set (Ext.refl _).len _⟩
  conv => whnf
  ((conv in (_[_]?) => tactic => exact get_set (get_last _ _)); (conv => whnf))
  refine callK_pure (c97 m.a3 m.a4 (by have := hm.2.2.1; omega) (by have := hm.2.2.2.1; omega)) ?_
  cases f2 : isPrincB m.a3 m.a4
  ·conv => whnf
   exact ⟨congrArg PV.bool (by unfold isB; rw [if_pos hk]; simp only [f1, f2, od, Bool.and_true, Bool.true_and, Bool.and_false, Bool.false_and]), (Ext.refl _).push _ |>.set (Ext.refl _).len _⟩
  conv => whnf
  ((conv in (_[_]?) => tactic => exact get_set (get_last _ _)); (conv => whnf))
  refine callK_pure (c158a m.aTill) ?_
  cases f3 : inZ m.aTill 0 1073741824
  ·conv => whnf
   exact ⟨congrArg PV.bool (by unfold isB; rw [if_pos hk]; simp only [f1, f2, f3, od, Bool.and_true, Bool.true_and, Bool.and_false, Bool.false_and]), (Ext.refl _).push _ |>.set (Ext.refl _).len _⟩
  conv => whnf
  ((conv in (_[_]?) => tactic => exact get_set (get_last _ _)); (conv => whnf))
  refine callK_pure (c159 m.aNonce) ?_
  cases f4 : inZ m.aNonce 0 1073741824
  ·conv => whnf
   exact ⟨congrArg PV.bool (by unfold isB; rw [if_pos hk]; simp only [f1, f2, f3, f4, od, Bool.and_true, Bool.true_and, Bool.and_false, Bool.false_and]), (Ext.refl _).push _ |>.set (Ext.refl _).len _⟩
  conv => whnf
  refine callK_pure (c163 m.d) ?_
  conv => whnf
  exact ⟨congrArg PV.bool (by unfold isB; rw [if_pos hk]; simp only [f1, f2, f3, f4, od, Bool.and_true, Bool.true_and, Bool.and_false, Bool.false_and]), (Ext.refl _).push _ |>.set (Ext.refl _).len _⟩
 by_cases h2 : m.kind = 2
 ·have hk := h2
  have n1 : ¬ m.kind = 1 := by omega
  have n3 : ¬ m.kind = 3 := by omega
  have n4 : ¬ m.kind = 4 := by omega
  have n5 : ¬ m.kind = 5 := by omega
  refine ⟨fun h => ?_, fun h => ?_⟩
  ·exact (n1 h).elim
  conv => whnf
  refine ⟨fun h => ?_, fun h => ?_⟩
  rotate_left
  ·exact (h hk).elim
  conv => whnf
  ((conv in (_[_]?) => tactic => exact get_last _ _); (conv => whnf))
  ((conv in (_[_]?) => tactic => exact get_set (get_last _ _)); (conv => whnf))
  refine callK_pure (c160 m.t1 m.t2 m.tKv m.tB none (by have := hm.2.2.2.2.1; omega) (by have := hm.2.2.2.2.2.1; omega)) ?_
  cases f5 : tickB m.t1 m.t2 m.tKv m.tB.length
  ·conv => whnf
   exact ⟨congrArg PV.bool (by unfold isB; rw [if_neg n1]; rw [if_pos hk]; simp only [f5, od, Bool.and_true, Bool.true_and, Bool.and_false, Bool.false_and]), (Ext.refl _).push _ |>.set (Ext.refl _).len _⟩
  conv => whnf
  ((conv in (_[_]?) => tactic => exact get_set (get_last _ _)); (conv => whnf))
  refine callK_pure (c161 m.tAu.length _ _) ?_
  cases f6 : inZ m.tAu.length 1 800
  ·conv => whnf
   exact ⟨congrArg PV.bool (by unfold isB; rw [if_neg n1]; rw [if_pos hk]; simp only [f5, f6, od, Bool.and_true, Bool.true_and, Bool.and_false, Bool.false_and]), (Ext.refl _).push _ |>.set (Ext.refl _).len _⟩
  conv => whnf
  ((conv in (_[_]?) => tactic => exact get_set (get_last _ _)); (conv => whnf))
  refine callK_pure (c97 m.t3 m.t4 (by have := hm.2.2.2.2.2.2.1; omega) (by have := hm.2.2.2.2.2.2.2.1; omega)) ?_
  cases f7 : isPrincB m.t3 m.t4
  ·conv => whnf
   exact ⟨congrArg PV.bool (by unfold isB; rw [if_neg n1]; rw [if_pos hk]; simp only [f5, f6, f7, od, Bool.and_true, Bool.true_and, Bool.and_false, Bool.false_and]), (Ext.refl _).push _ |>.set (Ext.refl _).len _⟩
  conv => whnf
  ((conv in (_[_]?) => tactic => exact get_set (get_last _ _)); (conv => whnf))
  refine callK_pure (c158a m.tTill) ?_
  cases f8 : inZ m.tTill 0 1073741824
  ·conv => whnf
   exact ⟨congrArg PV.bool (by unfold isB; rw [if_neg n1]; rw [if_pos hk]; simp only [f5, f6, f7, f8, od, Bool.and_true, Bool.true_and, Bool.and_false, Bool.false_and]), (Ext.refl _).push _ |>.set (Ext.refl _).len _⟩
  conv => whnf
  ((conv in (_[_]?) => tactic => exact get_set (get_last _ _)); (conv => whnf))
  refine callK_pure (c159 m.tNonce) ?_
  cases f9 : inZ m.tNonce 0 1073741824
  ·conv => whnf
   exact ⟨congrArg PV.bool (by unfold isB; rw [if_neg n1]; rw [if_pos hk]; simp only [f5, f6, f7, f8, f9, od, Bool.and_true, Bool.true_and, Bool.and_false, Bool.false_and]), (Ext.refl _).push _ |>.set (Ext.refl _).len _⟩
  conv => whnf
  refine callK_pure (c163 m.d) ?_
  conv => whnf
  exact ⟨congrArg PV.bool (by unfold isB; rw [if_neg n1]; rw [if_pos hk]; simp only [f5, f6, f7, f8, f9, od, Bool.and_true, Bool.true_and, Bool.and_false, Bool.false_and]), (Ext.refl _).push _ |>.set (Ext.refl _).len _⟩
 by_cases h3 : m.kind = 3
 ·have hk := h3
  have n1 : ¬ m.kind = 1 := by omega
  have n2 : ¬ m.kind = 2 := by omega
  have n4 : ¬ m.kind = 4 := by omega
  have n5 : ¬ m.kind = 5 := by omega
  refine ⟨fun h => ?_, fun h => ?_⟩
  ·exact (n1 h).elim
  conv => whnf
  refine ⟨fun h => ?_, fun h => ?_⟩
  ·exact (n2 h).elim
  conv => whnf
  refine ⟨fun h => ?_, fun h => ?_⟩
  rotate_left
  ·exact (h hk).elim
  conv => whnf
  refine callK_pure (c97 m.r1 m.r2 (by have := hm.2.2.2.2.2.2.2.2.1; omega) (by have := hm.2.2.2.2.2.2.2.2.2.1; omega)) ?_
  cases f10 : isPrincB m.r1 m.r2
  ·conv => whnf
   exact ⟨congrArg PV.bool (by unfold isB; rw [if_neg n1]; rw [if_neg n2]; rw [if_pos hk]; simp only [f10, od, Bool.and_true, Bool.true_and, Bool.and_false, Bool.false_and]), Ext.refl _⟩
  conv => whnf
  refine callK_pure (c160 m.r3 m.r4 m.rKv m.rB none (by have := hm.2.2.2.2.2.2.2.2.2.2.1; omega) (by have := hm.2.2.2.2.2.2.2.2.2.2.2.1; omega)) ?_
  cases f11 : tickB m.r3 m.r4 m.rKv m.rB.length
  ·conv => whnf
   exact ⟨congrArg PV.bool (by unfold isB; rw [if_neg n1]; rw [if_neg n2]; rw [if_pos hk]; simp only [f10, f11, od, Bool.and_true, Bool.true_and, Bool.and_false, Bool.false_and]), Ext.refl _⟩
  conv => whnf
  refine callK_pure (c161 m.rBl.length _ _) ?_
  cases f12 : inZ m.rBl.length 1 800
  ·conv => whnf
   exact ⟨congrArg PV.bool (by unfold isB; rw [if_neg n1]; rw [if_neg n2]; rw [if_pos hk]; simp only [f10, f11, f12, od, Bool.and_true, Bool.true_and, Bool.and_false, Bool.false_and]), Ext.refl _⟩
  conv => whnf
  refine callK_pure (c163 m.d) ?_
  conv => whnf
  exact ⟨congrArg PV.bool (by unfold isB; rw [if_neg n1]; rw [if_neg n2]; rw [if_pos hk]; simp only [f10, f11, f12, od, Bool.and_true, Bool.true_and, Bool.and_false, Bool.false_and]), Ext.refl _⟩
 by_cases h4 : m.kind = 4
 ·have hk := h4
  have n1 : ¬ m.kind = 1 := by omega
  have n2 : ¬ m.kind = 2 := by omega
  have n3 : ¬ m.kind = 3 := by omega
  have n5 : ¬ m.kind = 5 := by omega
  refine ⟨fun h => ?_, fun h => ?_⟩
  ·exact (n1 h).elim
  conv => whnf
  refine ⟨fun h => ?_, fun h => ?_⟩
  ·exact (n2 h).elim
  conv => whnf
  refine ⟨fun h => ?_, fun h => ?_⟩
  ·exact (n3 h).elim
  conv => whnf
  refine ⟨fun h => ?_, fun h => ?_⟩
  rotate_left
  ·exact (h hk).elim
  conv => whnf
  refine callK_pure (c160 m.p1 m.p2 m.pKv m.pB none (by have := hm.2.2.2.2.2.2.2.2.2.2.2.2.1; omega) (by have := hm.2.2.2.2.2.2.2.2.2.2.2.2.2; omega)) ?_
  cases f13 : tickB m.p1 m.p2 m.pKv m.pB.length
  ·conv => whnf
   exact ⟨congrArg PV.bool (by unfold isB; rw [if_neg n1]; rw [if_neg n2]; rw [if_neg n3]; rw [if_pos hk]; simp only [f13, od, Bool.and_true, Bool.true_and, Bool.and_false, Bool.false_and]), Ext.refl _⟩
  conv => whnf
  refine callK_pure (c161 m.pAu.length _ _) ?_
  cases f14 : inZ m.pAu.length 1 800
  ·conv => whnf
   exact ⟨congrArg PV.bool (by unfold isB; rw [if_neg n1]; rw [if_neg n2]; rw [if_neg n3]; rw [if_pos hk]; simp only [f13, f14, od, Bool.and_true, Bool.true_and, Bool.and_false, Bool.false_and]), Ext.refl _⟩
  conv => whnf
  refine callK_pure (c163 m.d) ?_
  conv => whnf
  exact ⟨congrArg PV.bool (by unfold isB; rw [if_neg n1]; rw [if_neg n2]; rw [if_neg n3]; rw [if_pos hk]; simp only [f13, f14, od, Bool.and_true, Bool.true_and, Bool.and_false, Bool.false_and]), Ext.refl _⟩
 by_cases h5 : m.kind = 5
 ·have hk := h5
  have n1 : ¬ m.kind = 1 := by omega
  have n2 : ¬ m.kind = 2 := by omega
  have n3 : ¬ m.kind = 3 := by omega
  have n4 : ¬ m.kind = 4 := by omega
  refine ⟨fun h => ?_, fun h => ?_⟩
  ·exact (n1 h).elim
  conv => whnf
  refine ⟨fun h => ?_, fun h => ?_⟩
  ·exact (n2 h).elim
  conv => whnf
  refine ⟨fun h => ?_, fun h => ?_⟩
  ·exact (n3 h).elim
  conv => whnf
  refine ⟨fun h => ?_, fun h => ?_⟩
  ·exact (n4 h).elim
  conv => whnf
  refine ⟨fun h => ?_, fun h => ?_⟩
  rotate_left
  ·exact (h hk).elim
  conv => whnf
  refine callK_pure (c162 m.fErr 1 255) ?_
  cases f15 : inZ m.fErr 1 255
  ·conv => whnf
   exact ⟨congrArg PV.bool (by unfold isB; rw [if_neg n1]; rw [if_neg n2]; rw [if_neg n3]; rw [if_neg n4]; rw [if_pos hk]; simp only [f15, od, Bool.and_true, Bool.true_and, Bool.and_false, Bool.false_and]), Ext.refl _⟩
  conv => whnf
  refine callK_pure (c159 m.fNonce) ?_
  cases f16 : inZ m.fNonce 0 1073741824
  ·conv => whnf
   exact ⟨congrArg PV.bool (by unfold isB; rw [if_neg n1]; rw [if_neg n2]; rw [if_neg n3]; rw [if_neg n4]; rw [if_pos hk]; simp only [f15, f16, od, Bool.and_true, Bool.true_and, Bool.and_false, Bool.false_and]), Ext.refl _⟩
  conv => whnf
  refine callK_pure (c163 m.d) ?_
  conv => whnf
  exact ⟨congrArg PV.bool (by unfold isB; rw [if_neg n1]; rw [if_neg n2]; rw [if_neg n3]; rw [if_neg n4]; rw [if_pos hk]; simp only [f15, f16, od, Bool.and_true, Bool.true_and, Bool.and_false, Bool.false_and]), Ext.refl _⟩
 have n1 : ¬ m.kind = 1 := h1
 have n2 : ¬ m.kind = 2 := h2
 have n3 : ¬ m.kind = 3 := h3
 have n4 : ¬ m.kind = 4 := h4
 have n5 : ¬ m.kind = 5 := h5
 refine ⟨fun h => ?_, fun h => ?_⟩
 ·exact (n1 h).elim
 conv => whnf
 refine ⟨fun h => ?_, fun h => ?_⟩
 ·exact (n2 h).elim
 conv => whnf
 refine ⟨fun h => ?_, fun h => ?_⟩
 ·exact (n3 h).elim
 conv => whnf
 refine ⟨fun h => ?_, fun h => ?_⟩
 ·exact (n4 h).elim
 conv => whnf
 refine ⟨fun h => ?_, fun h => ?_⟩
 ·exact (n5 h).elim
 conv => whnf
 exact ⟨congrArg PV.bool (by unfold isB; rw [if_neg n1]; rw [if_neg n2]; rw [if_neg n3]; rw [if_neg n4]; rw [if_neg n5]; simp only [od, Bool.and_true, Bool.true_and, Bool.and_false, Bool.false_and]), Ext.refl _⟩
theorem c102 (m : Msg) (hm : m.fits) : Pure prog 102 [.agg m.cells] (.bool (isB m)) := Pure.of_gc rfl (c102x m hm)
def imm64 : List Nat := []
theorem c64 (n lo hi : Int) : Pure prog 64 [.int .i64 n, .int .i64 lo, .int .i64 hi] (.bool (inZ n lo hi)) := by
 intro H
 (refine fnS (imm := imm64) ttG_ok func64 ?_; (conv => whnf))
 unfold inZ
 refine ⟨fun h => ?_, fun h => ?_⟩
 ·conv => whnf
  have h : n ≥ lo := h
  rw [decide_eq_true (show lo ≤ n by omega)]
  refine ⟨fun h2 => ?_, fun h2 => ?_⟩
  ·conv => whnf
   rw [decide_eq_true h2]
   exact ⟨rfl, rfl⟩
  ·conv => whnf
   rw [decide_eq_false h2]
   exact ⟨rfl, rfl⟩
 ·conv => whnf
  have h : ¬ n ≥ lo := h
  rw [decide_eq_false (show ¬ lo ≤ n by omega)]
  exact ⟨rfl, rfl⟩
set_option maxHeartbeats 2000000
theorem splitB_sum (c : UInt8) : ∀ (s : List UInt8), ((splitB c s).map (fun x => x.length + 1)).sum = s.length + 1
 | [] => by simp [splitB]
 | x :: s => by
  have ih := splitB_sum c s
  have hne : splitB c s ≠ [] := fun e => by rw [e] at ih; simp at ih
  simp only [splitB]
  split
  ·simp [ih]; omega
  ·cases hs : splitB c s with
   | nil => exact absurd hs hne
   | cons a l => rw [hs] at ih; simp at ih ⊢; omega
theorem sum_le (k : Nat) : ∀ (l : List (List UInt8)), (∀ x ∈ l, x.length ≤ k) → (l.map (fun x => x.length + 1)).sum ≤ l.length * (k + 1)
 | [], _ => by simp
 | a :: l, h => by
  have := sum_le k l fun x hx => h x (List.mem_cons_of_mem _ hx)
  have := h a List.mem_cons_self
  simp only [List.map_cons, List.sum_cons, List.length_cons, Nat.add_mul]; omega
theorem badL_len {c : UInt8} {s : List UInt8} (h : badL (splitB c s) = false) : s.length ≤ 35 := by
 unfold badL at h
 rw [Bool.or_eq_false_iff] at h
 have h1 : (splitB c s).length ≤ 4 := by have := of_decide_eq_false h.1; omega
 have h2 := sum_le 8 (splitB c s) fun x hx => by
  have := List.any_eq_false.1 h.2 x hx
  have : isWordB x upperB = true := by simpa using this
  unfold isWordB at this
  rw [Bool.and_eq_true, Bool.and_eq_true] at this
  exact of_decide_eq_true this.2.1
 rw [splitB_sum] at h2
 have : (splitB c s).length * (8 + 1) ≤ 4 * (8 + 1) := Nat.mul_le_mul_right _ h1
 omega
theorem realm_len {r : List UInt8} (h : isRealmB r = true) : r.length ≤ 36 := by
 replace h : (labelsB r).1 ≠ 0 := of_decide_eq_true h
 unfold labelsB at h
 split at h
 ·split at h
  ·exact absurd rfl h
  ·rename_i t hb
   have := badL_len (c := 47) (s := t) (by simpa using hb)
   simp; omega
 ·split at h
  ·exact absurd rfl h
  ·rename_i hb
   have := badL_len (c := 46) (s := r) (by simpa using hb)
   omega
theorem princ_len {r n : List UInt8} (h : isPrincB r n = true) : r.length ≤ 36 ∧ n.length ≤ 43 := by
 unfold isPrincB at h
 rw [Bool.and_eq_true, Bool.or_eq_true] at h
 refine ⟨realm_len h.1, ?_⟩
 rcases h.2 with h2 | h2
 ·unfold targetB at h2
  split at h2
  ·rename_i hc
   rw [Bool.and_eq_true] at hc
   have := realm_len hc.2
   rw [List.length_drop] at this
   omega
  ·cases h2
 ·unfold isWordB at h2
  rw [Bool.and_eq_true, Bool.and_eq_true] at h2
  have := of_decide_eq_true h2.2.1
  omega
theorem inZ_le {n lo hi : Int} (h : inZ n lo hi = true) : lo ≤ n ∧ n ≤ hi := by
 unfold inZ at h
 rw [Bool.and_eq_true] at h
 exact ⟨of_decide_eq_true h.1, of_decide_eq_true h.2⟩
theorem tick_len {r n : List UInt8} {kv : Int} {k : Nat} (h : tickB r n kv k = true) : r.length ≤ 36 ∧ n.length ≤ 43 ∧ k ≤ 800 := by
 unfold tickB at h
 rw [Bool.and_eq_true, Bool.and_eq_true] at h
 have h1 := princ_len h.1.1
 have h2 := inZ_le h.2
 exact ⟨h1.1, h1.2, by omega⟩
theorem wrapB_len (t : UInt8) (b : List UInt8) : (wrapB t b).length ≤ b.length + 4 := by
 have := lenB_len b.length
 unfold wrapB
 simp; omega
def princE (r n : List UInt8) : List UInt8 := wrapB 48 [wrapB 27 r, wrapB 27 n].flatten
def intE (n : Int) : List UInt8 := wrapB 2 (intB (clampI n))
def ticketE (r n : List UInt8) (kv : Int) (b : List UInt8) : List UInt8 := wrapB 97 [princE r n, intE kv, wrapB 4 b].flatten
theorem intE_len (n : Int) : (intE n).length ≤ 14 := by
 have h1 := wrapB_len 2 (intB (clampI n))
 have h2 := le_len 9 (clampI n)
 have h3 : (intB (clampI n)).length ≤ 10 := by
  unfold intB padB
  rw [List.length_reverse]
  split
  ·rw [List.length_append, List.length_singleton]; omega
  ·omega
 unfold intE; omega
theorem princE_len (r n : List UInt8) : (princE r n).length ≤ r.length + n.length + 12 := by
 have h := wrapB_len 48 [wrapB 27 r, wrapB 27 n].flatten
 have h1 := wrapB_len 27 r
 have h2 := wrapB_len 27 n
 simp only [List.flatten_cons, List.flatten_nil, List.length_append, List.length_nil] at h
 unfold princE; simp only [List.flatten_cons, List.flatten_nil] at h ⊢; omega
theorem ticketE_len (r n : List UInt8) (kv : Int) (b : List UInt8) : (ticketE r n kv b).length ≤ r.length + n.length + b.length + 34 := by
 have h := wrapB_len 97 [princE r n, intE kv, wrapB 4 b].flatten
 have h1 := princE_len r n
 have h2 := intE_len kv
 have h3 := wrapB_len 4 b
 simp only [List.flatten_cons, List.flatten_nil, List.length_append, List.length_nil] at h
 unfold ticketE; simp only [List.flatten_cons, List.flatten_nil] at h ⊢; omega
theorem c164p (tag : UInt8) (ls : List (List UInt8)) (hn : ls.length ≤ 1099511627776) (ht : ls.flatten.length ≤ 1099511627000) :
  Pure prog 164 [byteC tag, .slice ls.length (ls.map sl) none] (sl (wrapB tag ls.flatten)) := fun H => c164 tag ls hn ht (Reps.sl H ls)
theorem c168p (p : List UInt8) (hp : p.length ≤ 1099511627000) : Pure prog 168 [sl p] (sl (wrapB 4 p)) := fun H => c168 p hp H
theorem c170p (p : List UInt8) (hp : p.length ≤ 1099511627000) : Pure prog 170 [.str p] (sl (wrapB 27 p)) := fun H => c170 p hp H
def limV (ok : Bool) (b : List UInt8) : PV := if ok = true ∧ b.length ≤ 2000 then .tup [sl b, .int .i64 0] else .tup [.slice 0 [] (some 5), .int .i64 1]
theorem c103 (ok : Bool) (b : List UInt8) : Pure prog 103 [.bool ok, sl b] (limV ok b) := by
 intro H
 (refine fnS (imm := imm103) ttG_ok func103 ?_; (conv => whnf))
 cases ok
 ·conv => whnf
  exact ⟨by unfold limV; rw [if_neg (by simp)]; rfl, rfl⟩
 ·conv => whnf
  refine ⟨fun h => ?_, fun h => ?_⟩
  ·conv => whnf
   have h : (2000 : Int) < (b.length : Int) := h
   exact ⟨by unfold limV; rw [if_neg (by omega)]; rfl, rfl⟩
  ·conv => whnf
   have h : ¬ (2000 : Int) < (b.length : Int) := h
   exact ⟨by unfold limV; rw [if_pos ⟨rfl, by omega⟩]; rfl, rfl⟩
theorem c165 (r n : List UInt8) (hr : r.length ≤ 1000000) (hn : n.length ≤ 1000000) : Pure prog 165 [.agg [.str r, .str n]] (sl (princE r n)) := by
 intro H
 have h1 := wrapB_len 27 r
 have h2 := wrapB_len 27 n
 (refine fnS (imm := imm165) ttG_ok func165 ?_; (conv => whnf))
 refine drawK_pure2 (by kernel_rfl) ?_
 conv => whnf
 iterate 2 (refine dS ?_; (conv => whnf))
 refine ⟨_, callK_pure (c170p r (by omega)) ⟨rfl, rfl, trivial⟩, ?_⟩
 conv => whnf
 iterate 2 (refine dS ?_; (conv => whnf))
 refine ⟨_, callK_pure (c170p n (by omega)) ⟨rfl, rfl, trivial⟩, ?_⟩
 conv => whnf
 (refine dS ?_; (conv => whnf))
 refine ⟨_, callK_pure (c164p 48 [wrapB 27 r, wrapB 27 n] (by simp) (by simp only [List.flatten_cons, List.flatten_nil, List.length_append, List.length_nil]; omega)) ⟨rfl, rfl, trivial⟩, ?_⟩
 conv => whnf
 (refine dS ?_; (conv => whnf))
 exact ⟨rfl, rfl⟩
theorem c167 (r n : List UInt8) (kv : Int) (b : List UInt8) (o : Option Nat) (hr : r.length ≤ 1000000) (hn : n.length ≤ 1000000) (hb : b.length ≤ 1000000) : Pure prog 167 [.agg [.str r, .str n, .int .i64 kv, slo b o]] (sl (ticketE r n kv b)) := by
 intro H
 have h1 := princE_len r n
 have h2 := intE_len kv
 have h3 := wrapB_len 4 b
 (refine fnS (imm := imm167) ttG_ok func167 ?_; (conv => whnf))
 refine drawK_pure2 (by kernel_rfl) ?_
 conv => whnf
 iterate 2 (refine dS ?_; (conv => whnf))
 refine ⟨_, callK_pure (c165 r n hr hn) ⟨rfl, rfl, trivial⟩, ?_⟩
 conv => whnf
 iterate 2 (refine dS ?_; (conv => whnf))
 refine ⟨_, callK_pure (c166 kv) ⟨rfl, rfl, trivial⟩, ?_⟩
 conv => whnf
 iterate 2 (refine dS ?_; (conv => whnf))
 refine ⟨_, callK_pure (c168p b (by omega)) ⟨rfl, rfl, trivial⟩, ?_⟩
 conv => whnf
 (refine dS ?_; (conv => whnf))
 refine ⟨_, callK_pure (c164p 97 [princE r n, intE kv, wrapB 4 b] (by simp) (by simp only [List.flatten_cons, List.flatten_nil, List.length_append, List.length_nil]; omega)) ⟨rfl, rfl, trivial⟩, ?_⟩
 conv => whnf
 (refine dS ?_; (conv => whnf))
 exact ⟨rfl, rfl⟩
def laidB (m : Msg) : List UInt8 :=
 if m.kind = 1 then wrapB 106 [princE m.a1 m.a2, princE m.a3 m.a4, intE m.aTill, intE m.aNonce].flatten
 else if m.kind = 2 then wrapB 108 [ticketE m.t1 m.t2 m.tKv m.tB, wrapB 4 m.tAu, princE m.t3 m.t4, intE m.tTill, intE m.tNonce].flatten
 else if m.kind = 3 then wrapB 107 [princE m.r1 m.r2, ticketE m.r3 m.r4 m.rKv m.rB, wrapB 4 m.rBl].flatten
 else if m.kind = 4 then wrapB 110 [ticketE m.p1 m.p2 m.pKv m.pB, wrapB 4 m.pAu].flatten
 else wrapB 126 [intE m.fErr, intE m.fNonce].flatten
theorem c104x (m : Msg) (hm : isB m = true) (H : PH) : CallOk prog 104 [.agg m.cells] H fun r H' => r = sl (laidB m) ∧ ∃ ext, H' = H ++ ext := by
 have hm := (Bool.and_eq_true _ _ ▸ hm : _ ∧ _).1
 (refine fnS (imm := imm104) ttG_ok func104 ?_; (conv => whnf))
 conv => whnf
 by_cases h1 : m.kind = 1
 ·have hk := h1
  have n2 : ¬ m.kind = 2 := by omega
  have n3 : ¬ m.kind = 3 := by omega
  have n4 : ¬ m.kind = 4 := by omega
  have n5 : ¬ m.kind = 5 := by omega
  rw [if_pos hk] at hm
  simp only [Bool.and_eq_true] at hm
  have g1 := princ_len hm.1.1.1
  have g2 := princ_len hm.1.1.2
  have g3 := princE_len m.a1 m.a2
  have g4 := princE_len m.a3 m.a4
  have g5 := intE_len m.aTill
  have g6 := intE_len m.aNonce
  refine ⟨fun h => ?_, fun h => ?_⟩
  rotate_left
  ·exact (h hk).elim
  conv => whnf
  ((conv in (_[_]?) => tactic => exact get_last _ _); (conv => whnf))
  refine drawK_pure2 (by kernel_rfl) ?_
  conv => whnf
  (refine dS ?_; (conv => whnf))
  apply Exists.intro
  apply And.intro
  focus
   conv => whnf
   ((conv in (_[_]?) => tactic => exact get_set (get_last _ _)); (conv => whnf))
   exact ⟨rfl, rfl, trivial⟩
  conv => whnf
  refine ⟨_, callK_pure (c165 m.a1 m.a2 (by omega) (by omega)) ⟨rfl, rfl, trivial⟩, ?_⟩
  conv => whnf
  (refine dS ?_; (conv => whnf))
  apply Exists.intro
  apply And.intro
  focus
   conv => whnf
   ((conv in (_[_]?) => tactic => exact get_set (get_last _ _)); (conv => whnf))
   exact ⟨rfl, rfl, trivial⟩
  conv => whnf
  refine ⟨_, callK_pure (c165 m.a3 m.a4 (by omega) (by omega)) ⟨rfl, rfl, trivial⟩, ?_⟩
  conv => whnf
  (refine dS ?_; (conv => whnf))
  apply Exists.intro
  apply And.intro
  focus
   conv => whnf
   ((conv in (_[_]?) => tactic => exact get_set (get_last _ _)); (conv => whnf))
   exact ⟨rfl, rfl, trivial⟩
  conv => whnf
  refine ⟨_, callK_pure (c166 m.aTill) ⟨rfl, rfl, trivial⟩, ?_⟩
  conv => whnf
  (refine dS ?_; (conv => whnf))
  apply Exists.intro
  apply And.intro
  focus
   conv => whnf
   ((conv in (_[_]?) => tactic => exact get_set (get_last _ _)); (conv => whnf))
   exact ⟨rfl, rfl, trivial⟩
  conv => whnf
  refine ⟨_, callK_pure (c166 m.aNonce) ⟨rfl, rfl, trivial⟩, ?_⟩
  conv => whnf
  (refine dS ?_; (conv => whnf))
  refine ⟨_, callK_pure (c164p 106 [princE m.a1 m.a2, princE m.a3 m.a4, intE m.aTill, intE m.aNonce] (by simp) (by simp only [List.flatten_cons, List.flatten_nil, List.length_append, List.length_nil]; omega)) ⟨rfl, rfl, trivial⟩, ?_⟩
  conv => whnf
  (refine dS ?_; (conv => whnf))
  exact ⟨by unfold laidB; rw [if_pos hk]; rfl, (Ext.refl _).push _ |>.set (Ext.refl _).len _⟩
 by_cases h2 : m.kind = 2
 ·have hk := h2
  have n1 : ¬ m.kind = 1 := by omega
  have n3 : ¬ m.kind = 3 := by omega
  have n4 : ¬ m.kind = 4 := by omega
  have n5 : ¬ m.kind = 5 := by omega
  rw [if_neg n1] at hm
  rw [if_pos hk] at hm
  simp only [Bool.and_eq_true] at hm
  have g1 := tick_len hm.1.1.1.1
  have g2 := inZ_le hm.1.1.1.2
  have g3 := princ_len hm.1.1.2
  have g4 := ticketE_len m.t1 m.t2 m.tKv m.tB
  have g5 := wrapB_len 4 m.tAu
  have g6 := princE_len m.t3 m.t4
  have g7 := intE_len m.tTill
  have g8 := intE_len m.tNonce
  refine ⟨fun h => ?_, fun h => ?_⟩
  ·exact (n1 h).elim
  conv => whnf
  refine ⟨fun h => ?_, fun h => ?_⟩
  rotate_left
  ·exact (h hk).elim
  conv => whnf
  ((conv in (_[_]?) => tactic => exact get_last _ _); (conv => whnf))
  refine drawK_pure2 (by kernel_rfl) ?_
  conv => whnf
  (refine dS ?_; (conv => whnf))
  apply Exists.intro
  apply And.intro
  focus
   conv => whnf
   ((conv in (_[_]?) => tactic => exact get_set (get_last _ _)); (conv => whnf))
   exact ⟨rfl, rfl, trivial⟩
  conv => whnf
  refine ⟨_, callK_pure (c167 m.t1 m.t2 m.tKv m.tB none (by omega) (by omega) (by omega)) ⟨rfl, rfl, trivial⟩, ?_⟩
  conv => whnf
  (refine dS ?_; (conv => whnf))
  apply Exists.intro
  apply And.intro
  focus
   conv => whnf
   ((conv in (_[_]?) => tactic => exact get_set (get_last _ _)); (conv => whnf))
   exact ⟨rfl, rfl, trivial⟩
  conv => whnf
  refine ⟨_, callK_pure (c168p m.tAu (by omega)) ⟨rfl, rfl, trivial⟩, ?_⟩
  conv => whnf
  (refine dS ?_; (conv => whnf))
  apply Exists.intro
  apply And.intro
  focus
   conv => whnf
   ((conv in (_[_]?) => tactic => exact get_set (get_last _ _)); (conv => whnf))
   exact ⟨rfl, rfl, trivial⟩
  conv => whnf
  refine ⟨_, callK_pure (c165 m.t3 m.t4 (by omega) (by omega)) ⟨rfl, rfl, trivial⟩, ?_⟩
  conv => whnf
  (refine dS ?_; (conv => whnf))
  apply Exists.intro
  apply And.intro
  focus
   conv => whnf
   ((conv in (_[_]?) => tactic => exact get_set (get_last _ _)); (conv => whnf))
   exact ⟨rfl, rfl, trivial⟩
  conv => whnf
  refine ⟨_, callK_pure (c166 m.tTill) ⟨rfl, rfl, trivial⟩, ?_⟩
  conv => whnf
  (refine dS ?_; (conv => whnf))
  apply Exists.intro
  apply And.intro
  focus
   conv => whnf
   ((conv in (_[_]?) => tactic => exact get_set (get_last _ _)); (conv => whnf))
   exact ⟨rfl, rfl, trivial⟩
  conv => whnf
  refine ⟨_, callK_pure (c166 m.tNonce) ⟨rfl, rfl, trivial⟩, ?_⟩
  conv => whnf
  (refine dS ?_; (conv => whnf))
  refine ⟨_, callK_pure (c164p 108 [ticketE m.t1 m.t2 m.tKv m.tB, wrapB 4 m.tAu, princE m.t3 m.t4, intE m.tTill, intE m.tNonce] (by simp) (by simp only [List.flatten_cons, List.flatten_nil, List.length_append, List.length_nil]; omega)) ⟨rfl, rfl, trivial⟩, ?_⟩
  conv => whnf
  (refine dS ?_; (conv => whnf))
  exact ⟨by unfold laidB; rw [if_neg n1]; rw [if_pos hk]; rfl, (Ext.refl _).push _ |>.set (Ext.refl _).len _⟩
 by_cases h3 : m.kind = 3
 ·have hk := h3
  have n1 : ¬ m.kind = 1 := by omega
  have n2 : ¬ m.kind = 2 := by omega
  have n4 : ¬ m.kind = 4 := by omega
  have n5 : ¬ m.kind = 5 := by omega
  rw [if_neg n1] at hm
  rw [if_neg n2] at hm
  rw [if_pos hk] at hm
  simp only [Bool.and_eq_true] at hm
  have g1 := princ_len hm.1.1
  have g2 := tick_len hm.1.2
  have g3 := inZ_le hm.2
  have g4 := princE_len m.r1 m.r2
  have g5 := ticketE_len m.r3 m.r4 m.rKv m.rB
  have g6 := wrapB_len 4 m.rBl
  refine ⟨fun h => ?_, fun h => ?_⟩
  ·exact (n1 h).elim
  conv => whnf
  refine ⟨fun h => ?_, fun h => ?_⟩
  ·exact (n2 h).elim
  conv => whnf
  refine ⟨fun h => ?_, fun h => ?_⟩
  rotate_left
  ·exact (h hk).elim
  conv => whnf
  refine drawK_pure2 (by kernel_rfl) ?_
  conv => whnf
  iterate 3 (refine dS ?_; (conv => whnf))
  refine ⟨_, callK_pure (c165 m.r1 m.r2 (by omega) (by omega)) ⟨rfl, rfl, trivial⟩, ?_⟩
  conv => whnf
  iterate 3 (refine dS ?_; (conv => whnf))
  refine ⟨_, callK_pure (c167 m.r3 m.r4 m.rKv m.rB none (by omega) (by omega) (by omega)) ⟨rfl, rfl, trivial⟩, ?_⟩
  conv => whnf
  iterate 3 (refine dS ?_; (conv => whnf))
  refine ⟨_, callK_pure (c168p m.rBl (by omega)) ⟨rfl, rfl, trivial⟩, ?_⟩
  conv => whnf
  (refine dS ?_; (conv => whnf))
  refine ⟨_, callK_pure (c164p 107 [princE m.r1 m.r2, ticketE m.r3 m.r4 m.rKv m.rB, wrapB 4 m.rBl] (by simp) (by simp only [List.flatten_cons, List.flatten_nil, List.length_append, List.length_nil]; omega)) ⟨rfl, rfl, trivial⟩, ?_⟩
  conv => whnf
  (refine dS ?_; (conv => whnf))
  exact ⟨by unfold laidB; rw [if_neg n1]; rw [if_neg n2]; rw [if_pos hk]; rfl, Ext.refl _⟩
 by_cases h4 : m.kind = 4
 ·have hk := h4
  have n1 : ¬ m.kind = 1 := by omega
  have n2 : ¬ m.kind = 2 := by omega
  have n3 : ¬ m.kind = 3 := by omega
  have n5 : ¬ m.kind = 5 := by omega
  rw [if_neg n1] at hm
  rw [if_neg n2] at hm
  rw [if_neg n3] at hm
  rw [if_pos hk] at hm
  simp only [Bool.and_eq_true] at hm
  have g1 := tick_len hm.1
  have g2 := inZ_le hm.2
  have g3 := ticketE_len m.p1 m.p2 m.pKv m.pB
  have g4 := wrapB_len 4 m.pAu
  refine ⟨fun h => ?_, fun h => ?_⟩
  ·exact (n1 h).elim
  conv => whnf
  refine ⟨fun h => ?_, fun h => ?_⟩
  ·exact (n2 h).elim
  conv => whnf
  refine ⟨fun h => ?_, fun h => ?_⟩
  ·exact (n3 h).elim
  conv => whnf
  refine ⟨fun h => ?_, fun h => ?_⟩
  rotate_left
  ·exact (h hk).elim
  conv => whnf
  refine drawK_pure2 (by kernel_rfl) ?_
  conv => whnf
  iterate 3 (refine dS ?_; (conv => whnf))
  refine ⟨_, callK_pure (c167 m.p1 m.p2 m.pKv m.pB none (by omega) (by omega) (by omega)) ⟨rfl, rfl, trivial⟩, ?_⟩
  conv => whnf
  iterate 3 (refine dS ?_; (conv => whnf))
  refine ⟨_, callK_pure (c168p m.pAu (by omega)) ⟨rfl, rfl, trivial⟩, ?_⟩
  conv => whnf
  (refine dS ?_; (conv => whnf))
  refine ⟨_, callK_pure (c164p 110 [ticketE m.p1 m.p2 m.pKv m.pB, wrapB 4 m.pAu] (by simp) (by simp only [List.flatten_cons, List.flatten_nil, List.length_append, List.length_nil]; omega)) ⟨rfl, rfl, trivial⟩, ?_⟩
  conv => whnf
  (refine dS ?_; (conv => whnf))
  exact ⟨by unfold laidB; rw [if_neg n1]; rw [if_neg n2]; rw [if_neg n3]; rw [if_pos hk]; rfl, Ext.refl _⟩
 have n1 : ¬ m.kind = 1 := h1
 have n2 : ¬ m.kind = 2 := h2
 have n3 : ¬ m.kind = 3 := h3
 have n4 : ¬ m.kind = 4 := h4
 have g1 := intE_len m.fErr
 have g2 := intE_len m.fNonce
 refine ⟨fun h => ?_, fun h => ?_⟩
 ·exact (n1 h).elim
 conv => whnf
 refine ⟨fun h => ?_, fun h => ?_⟩
 ·exact (n2 h).elim
 conv => whnf
 refine ⟨fun h => ?_, fun h => ?_⟩
 ·exact (n3 h).elim
 conv => whnf
 refine ⟨fun h => ?_, fun h => ?_⟩
 ·exact (n4 h).elim
 conv => whnf
 refine drawK_pure2 (by kernel_rfl) ?_
 conv => whnf
 iterate 3 (refine dS ?_; (conv => whnf))
 refine ⟨_, callK_pure (c166 m.fErr) ⟨rfl, rfl, trivial⟩, ?_⟩
 conv => whnf
 iterate 3 (refine dS ?_; (conv => whnf))
 refine ⟨_, callK_pure (c166 m.fNonce) ⟨rfl, rfl, trivial⟩, ?_⟩
 conv => whnf
 (refine dS ?_; (conv => whnf))
 refine ⟨_, callK_pure (c164p 126 [intE m.fErr, intE m.fNonce] (by simp) (by simp only [List.flatten_cons, List.flatten_nil, List.length_append, List.length_nil]; omega)) ⟨rfl, rfl, trivial⟩, ?_⟩
 conv => whnf
 (refine dS ?_; (conv => whnf))
 exact ⟨by unfold laidB; rw [if_neg n1]; rw [if_neg n2]; rw [if_neg n3]; rw [if_neg n4]; rfl, Ext.refl _⟩
theorem c104 (m : Msg) (hm : isB m = true) : Pure prog 104 [.agg m.cells] (sl (laidB m)) := Pure.of_gc (oldPs_bytes _) (c104x m hm)
def encV (m : Msg) : PV := limV (isB m) (laidB m)
theorem c47 (m : Msg) (hm : m.fits) : Pure prog 47 [.agg m.cells] (encV m) := by
 intro H
 (refine fnS (imm := imm47) ttG_ok func47 ?_; (conv => whnf))
 refine callK_pure ((c102 m.d hm).of_eq (show PV.bool (isB m.d) = .bool (isB m) from rfl)) ?_
 unfold encV
 cases hb : isB m
 ·conv => whnf
  exact ⟨by unfold limV; rw [if_neg (by simp)]; rfl, rfl⟩
 ·conv => whnf
  refine callK_pure ((c104 m.d hb).of_eq (show sl (laidB m.d) = sl (laidB m) from rfl)) ?_
  conv => whnf
  refine callK_pure (c103 true (laidB m)) ?_
  unfold limV
  by_cases hl : (laidB m).length ≤ 2000
  ·rw [if_pos ⟨rfl, hl⟩]
   conv => whnf
   exact ⟨rfl, rfl⟩
  ·rw [if_neg (by simp [hl])]
   conv => whnf
   exact ⟨rfl, rfl⟩
open Go Ps Go.Shelf Go.RowKit
def ρ67 : Ren := ⟨fun n => if n = 15 then 222 else 256, fun n => if n = 23 then 327 else if n = 21 then 21 else n, fun n => n⟩
def imm169 : List Nat := []
theorem lays222 : LaysGw.n15 prog ρ67 where
 mixed := by kernel_rfl
 f15 := by kernel_rfl
 f20 := by kernel_rfl
 t0 := by kernel_rfl
 a0 := fun w => by rfl
 z0 := fun w => by rfl
 v0 := fun w => by rfl
 i0 := by kernel_rfl
 t3 := by kernel_rfl
 a3 := fun w => by rfl
 z3 := fun w => by rfl
 v3 := fun w => by rfl
 i3 := by kernel_rfl
 t4 := by kernel_rfl
 a4 := fun w => by rfl
 z4 := fun w => by rfl
 v4 := fun w => by rfl
 i4 := by kernel_rfl
 t9 := by kernel_rfl
 a9 := fun w => by rfl
 z9 := fun w => by rfl
 v9 := fun w => by rfl
 i9 := by kernel_rfl
 t21 := by kernel_rfl
 a21 := fun w => by rfl
 z21 := fun w => by rfl
 v21 := fun w => by rfl
 i21 := by kernel_rfl
 t23 := by kernel_rfl
 a23 := fun w => by rfl
 z23 := fun w => by rfl
 v23 := fun w => by rfl
 i23 := by kernel_rfl
def badR (x : Nat) : Bool := decide (x < 32) || decide (126 < x)
def okT8 (b : UInt8) : Bool := decide (32 ≤ b.toNat) && decide (b.toNat ≤ 126)
theorem dec_low (s : ByteArray) (i : Nat) (h : (s.get! i).toNat < 128) : Utf8.decode s i = ((s.get! i).toNat, 1) := by
 unfold Utf8.decode
 simp only [Nat.add_zero]
 rw [if_pos h]
theorem dec_high (s : ByteArray) (i : Nat) (h : ¬ (s.get! i).toNat < 128) : 128 ≤ (Utf8.decode s i).1 := by
 unfold Utf8.decode
 simp only [Nat.add_zero]
 rw [if_neg h]
 have e : Utf8.runeError = 65533 := rfl
 split
 ·split
  ·assumption
  ·rw [e]; decide
 ·split
  ·split
   ·rename_i h2
    have : (decide (2048 ≤ _) && _) = true := h2
    rw [Bool.and_eq_true] at this
    have := of_decide_eq_true this.1
    omega
   ·rw [e]; decide
  ·split
   ·split
    ·rename_i h2
     have : (decide (65536 ≤ _) && _) = true := h2
     rw [Bool.and_eq_true] at this
     have := of_decide_eq_true this.1
     omega
    ·rw [e]; decide
   ·rw [e]; decide
theorem dec_bad (s : ByteArray) (i : Nat) : badR (Utf8.decode s i).1 = !okT8 (s.get! i) := by
 by_cases h : (s.get! i).toNat < 128
 ·rw [dec_low s i h]
  unfold badR okT8
  by_cases h1 : (s.get! i).toNat < 32 <;> by_cases h2 : 126 < (s.get! i).toNat <;> simp [h1, h2] <;> omega
 ·have := dec_high s i h
  unfold badR okT8
  have h1 : ¬ (s.get! i).toNat ≤ 126 := by omega
  have h2 : 126 < (Utf8.decode s i).1 := by omega
  simp [h1, h2]
theorem idx_from (s : ByteArray) : ∀ (f pos : Nat), s.size ≤ pos + f → (Lib.idxFuncFrom badR true s f pos < 0 ↔ ∀ i, pos ≤ i → i < s.size → okT8 (s.get! i) = true)
 | 0, pos, h => by
  rw [Lib.idxFuncFrom_end _ _ _ _ _ (by omega)]
  exact ⟨fun _ i h1 h2 => by omega, fun _ => by decide⟩
 | f + 1, pos, h => by
  unfold Lib.idxFuncFrom
  split
  ·rename_i hp
   rw [dec_bad]
   cases hb : okT8 (s.get! pos)
   ·simp only [Bool.not_false, if_true]
    exact ⟨fun h => by omega, fun h => by rw [h pos (Nat.le_refl _) hp] at hb; cases hb⟩
   ·simp only [Bool.not_true, Bool.false_eq_true, if_false]
    have hlt : (s.get! pos).toNat < 128 := by
     unfold okT8 at hb
     rw [Bool.and_eq_true] at hb
     have := of_decide_eq_true hb.2
     omega
    rw [dec_low s pos hlt, idx_from s f (pos + 1) (by omega)]
    refine ⟨fun h i h1 h2 => ?_, fun h i h1 h2 => h i (by omega) h2⟩
    by_cases e : i = pos
    ·rw [e]; exact hb
    ·exact h i (by omega) h2
  ·rename_i hp
   exact ⟨fun _ i h1 h2 => by omega, fun _ => by decide⟩
theorem idx_text (s : List UInt8) : (Lib.idxFunc badR true ⟨⟨s⟩⟩ < 0) ↔ s.all okT8 = true := by
 unfold Lib.idxFunc
 rw [idx_from _ _ _ (by omega), List.all_eq_true]
 have hg : ∀ i (h : i < s.length), (⟨⟨s⟩⟩ : ByteArray).get! i = s[i] := fun i h => by
  show (Array.mk s)[i]! = s[i]
  simp [h]
 refine ⟨fun h x hx => ?_, fun h i _ hi => ?_⟩
 ·obtain ⟨i, hi, rfl⟩ := List.getElem_of_mem hx
  rw [← hg i hi]
  exact h i (Nat.zero_le _) hi
 ·have hi : i < s.length := hi
  rw [hg i hi]
  exact h _ (List.getElem_mem hi)
theorem pred223 (W : World) (x : Nat) (hx : x ≤ 1114111) : FnGives prog 223 #[] #[.int .i32 (x : Int)] (.bool (badR x)) W := by
 unfold FnGives
 go_enter Tryz.func223, Tryz.ntmps223
 go_wp2
 ·rename_i h
  go_ret
  refine ⟨congrArg Ending.returned (show Value.bool (decide ((x : Int) < 32) || decide (126 < (x : Int))) = Value.bool (badR x) from congrArg Value.bool ?_), 0, rfl⟩
  unfold badR
  rw [decide_eq_decide.2 (show (x : Int) < 32 ↔ x < 32 by omega), decide_eq_decide.2 (show 126 < (x : Int) ↔ 126 < x by omega)]
 ·rename_i h
  go_ret
  refine ⟨congrArg Ending.returned (show Value.bool true = Value.bool (badR x) from congrArg Value.bool ?_), 0, rfl⟩
  unfold badR
  have h2 : x < 32 := by omega
  rw [decide_eq_true h2, Bool.true_or]
theorem c222 (s : List UInt8) : Pure prog 222 [.str s, .func 223 [] []] (.int .i64 (Lib.idxFunc badR true ⟨⟨s⟩⟩)) := fun H =>
 CallOk.of_below (fun g w => .int _ _) fun g w vs hs hv => by
  have h0 : VC prog g w (Ps.valOf vs 0) (.str s) := hv 0
  have h1 : VC prog g w (Ps.valOf vs 1) (.func 223 [] []) := hv 1
  have hvs : vs = #[.string ⟨⟨s⟩⟩, .func (.func 223) #[] #[]] := by
   have e0 := h0.str
   obtain ⟨a, b, e1, z1, z2, _⟩ := (plain_of h1 (by simp) (by simp)).inv_func
   have z1 : a = #[] := Array.eq_empty_of_size_eq_zero z1
   have z2 : b = #[] := Array.eq_empty_of_size_eq_zero z2
   subst z1; subst z2
   match vs, hs with
   | ⟨[x, y]⟩, _ =>
    simp [Ps.valOf] at e0 e1
    rw [e0, e1]; rfl
  subst hvs
  exact ⟨run_callFunc_body func222 (by kernel_rfl) (by kernel_rfl), Any.strings_IndexFunc_runes lays222 223 #[] (fun args w => run_callFunc_body func223 (by kernel_rfl) (by kernel_rfl)) badR ⟨⟨s⟩⟩ w fun W x hx _ => pred223 W x hx⟩
def isTextB (s : List UInt8) : Bool := decide (s.length ≤ 300) && s.all okT8
theorem c169 (s : List UInt8) : Pure prog 169 [.str s] (.bool (isTextB s)) := by
 intro H
 (refine fnS (imm := imm169) ttG_ok func169 ?_; (conv => whnf))
 refine ⟨fun h => ?_, fun h => ?_⟩
 ·conv => whnf
  refine callK_pure (c222 s) ?_
  conv => whnf
  have e : decide (s.length ≤ 300) = true := decide_eq_true (by have h : (s.length : Int) ≤ 300 := h; omega)
  unfold isTextB
  rw [e, Bool.true_and]
  refine ⟨fun h2 => ?_, fun h2 => ?_⟩
  ·conv => whnf
   rw [(idx_text s).1 h2]
   exact ⟨rfl, rfl⟩
  ·conv => whnf
   cases hb : s.all okT8
   ·exact ⟨rfl, rfl⟩
   ·exact absurd ((idx_text s).2 hb) h2
 ·conv => whnf
  have e : decide (s.length ≤ 300) = false := decide_eq_false (by have h : ¬ (s.length : Int) ≤ 300 := h; omega)
  unfold isTextB
  rw [e]
  exact ⟨rfl, rfl⟩
set_option maxHeartbeats 1000000
open Go Ps
def ttC : TT := [(3, ⟨.int .i64, 1, 8, [.int .i64 0]⟩), (4, ⟨.bool, 1, 1, [.bool false]⟩), (5, ⟨.int .u8, 1, 1, [.int .u8 0]⟩), (9, ⟨.str, 1, 16, [.str []]⟩), (25, ⟨.strct [(9, 0), (9, 1)], 2, 32, [.str [], .str []]⟩), (31, ⟨.int .i64, 1, 8, [.int .i64 0]⟩), (43, ⟨.arr 32 5, 32, 32, List.replicate 32 (.int .u8 0)⟩), (323, ⟨.slice 3, 1, 24, [.slice 0 [] (some 3)]⟩), (26, ⟨.slice 5, 1, 24, [.slice 0 [] (some 5)]⟩), (50, ⟨.strct [(25, 0), (43, 2), (9, 34), (3, 35), (3, 36)], 37, 96, [.str [], .str []] ++ List.replicate 32 (.int .u8 0) ++ [.str [], .int .i64 0, .int .i64 0]⟩), (214, ⟨.fn, 1, 8, [.nilF]⟩), (285, ⟨.ptr, 1, 8, [.ptr none]⟩), (287, ⟨.strct [(285, 0)], 1, 8, [.ptr none]⟩), (327, ⟨.fn, 1, 8, [.nilF]⟩), (255, ⟨.slice 26, 1, 24, [.slice 0 [] (some 26)]⟩), (360, ⟨.strct [(26, 0), (4, 1)], 2, 32, [.slice 0 [] (some 5), .bool false]⟩)]
theorem ttC_ok : ttOk prog ttC = true := by kernel_rfl
def imm106 : List Nat := [1]
def Upd (X : Nat → Prop) (H H' : PH) : Prop := H.length ≤ H'.length ∧ ∀ i, i < H.length → ¬ X i → H'[i]? = H[i]?
theorem Upd.refl {X : Nat → Prop} (H : PH) : Upd X H H := ⟨Nat.le_refl _, fun _ _ _ => rfl⟩
theorem Upd.trans {X : Nat → Prop} {H H1 H2 : PH} (h : Upd X H H1) (k : Upd X H1 H2) : Upd X H H2 := ⟨Nat.le_trans h.1 k.1, fun i hi hx => (k.2 i (Nat.lt_of_lt_of_le hi h.1) hx).trans (h.2 i hi hx)⟩
theorem Upd.set {X : Nat → Prop} {H H1 : PH} (h : Upd X H H1) {c : Nat} (hc : X c ∨ H.length ≤ c) (o : PObj) : Upd X H (H1.set c o) := ⟨by rw [List.length_set]; exact h.1, fun i hi hx => by
 rw [List.getElem?_set_ne (fun e => by subst e; rcases hc with hc | hc; exact hx hc; omega)]; exact h.2 i hi hx⟩
theorem Upd.push {X : Nat → Prop} {H H1 : PH} (h : Upd X H H1) (o : PObj) : Upd X H (H1 ++ [o]) := ⟨by rw [List.length_append]; exact Nat.le_add_right_of_le h.1, fun i hi hx => by
 rw [List.getElem?_append_left (Nat.lt_of_lt_of_le hi h.1)]; exact h.2 i hi hx⟩
theorem Upd.ext {H H' : PH} (h : Upd (fun _ => False) H H') : ∃ ext, H' = H ++ ext := by
 refine ⟨H'.drop H.length, ?_⟩
 apply List.ext_getElem?
 intro i
 by_cases hi : i < H.length
 ·rw [List.getElem?_append_left hi, h.2 i hi (fun f => f)]
 ·rw [List.getElem?_append_right (by omega), List.getElem?_drop]
  congr 1; omega
def headB : List UInt8 → Nat × Nat × Bool
 | [] => (0, 0, false)
 | [x] => if x.toNat < 128 then (1, x.toNat, true) else (0, 0, false)
 | [x, y] => if x.toNat < 128 then (1, x.toNat, true) else if x.toNat = 129 ∧ 128 ≤ y.toNat then (2, y.toNat, true) else (0, 0, false)
 | x :: y :: z :: _ => if x.toNat < 128 then (1, x.toNat, true) else if x.toNat = 129 ∧ 128 ≤ y.toNat then (2, y.toNat, true)
  else if x.toNat = 130 ∧ 0 < y.toNat then (3, y.toNat * 256 + z.toNat, true) else (0, 0, false)
theorem head_1 (x : UInt8) : headB [x] = if x.toNat < 128 then (1, x.toNat, true) else (0, 0, false) := rfl
theorem head_2 (x y : UInt8) : headB [x, y] = if x.toNat < 128 then (1, x.toNat, true) else if x.toNat = 129 ∧ 128 ≤ y.toNat then (2, y.toNat, true) else (0, 0, false) := rfl
theorem head_3 (x y z : UInt8) (r : List UInt8) : headB (x :: y :: z :: r) = if x.toNat < 128 then (1, x.toNat, true) else if x.toNat = 129 ∧ 128 ≤ y.toNat then (2, y.toNat, true)
  else if x.toNat = 130 ∧ 0 < y.toNat then (3, y.toNat * 256 + z.toNat, true) else (0, 0, false) := rfl
theorem at1 {cs : List PV} {k : Nat} {x : PV} (h : cs[k]? = some x) : ∀ (j : Nat) (c : PV), [x][j]? = some c → cs[k + j]? = some c := by
 intro j c hj
 match j with
 | 0 => simpa using h.trans hj
 | j + 1 => simp at hj
theorem wrapB1 (x : UInt8) : IntKind.i64.wrap (x.toNat : Int) = (x.toNat : Int) := by
 have := x.toNat_lt
 rw [wrap64 (by omega) (by omega)]
def isNumB : List UInt8 → Bool
 | [] => false
 | [x] => decide (x.toNat < 128)
 | x :: y :: t => decide (t.length ≤ 6) && (decide (x.toNat < 128) && (decide (x.toNat ≠ 0) || decide (128 ≤ y.toNat)))
def elemB (tag : UInt8) : List UInt8 → Option (List UInt8 × List UInt8)
 | [] => none
 | t :: b => if t = tag then (if (headB b).2.2 = true ∧ (headB b).1 + (headB b).2.1 ≤ b.length then some ((b.drop (headB b).1).take (headB b).2.1, b.drop ((headB b).1 + (headB b).2.1)) else none) else none
def elemC (tag : UInt8) (s : Option (List UInt8)) : Option (List UInt8) × Option (List UInt8) := match s with
 | none => (none, none)
 | some l => match elemB tag l with
  | none => (none, none)
  | some (x, r) => (some r, some x)
theorem head_le (b : List UInt8) : (headB b).2.2 = true → (headB b).1 ≤ 3 ∧ (headB b).1 ≤ b.length ∧ (headB b).2.1 ≤ 65535 := by
 match b with
 | [] => intro h; cases h
 | [x] =>
  rw [head_1]
  have := x.toNat_lt
  split <;> intro h <;> first | (cases h; done) | (simp; omega)
 | [x, y] =>
  rw [head_2]
  have := x.toNat_lt
  have := y.toNat_lt
  split <;> (try split) <;> intro h <;> first | (cases h; done) | (simp; omega)
 | x :: y :: z :: t =>
  rw [head_3]
  have := x.toNat_lt
  have := y.toNat_lt
  have := z.toNat_lt
  split <;> (try split) <;> (try split) <;> intro h <;> first | (cases h; done) | (simp; omega)
theorem sl_cut (b : List UInt8) (l h : Int) (h0 : 0 ≤ l ∧ l ≤ h ∧ h ≤ b.length) :
  PV.slice (h.toNat - l.toNat) (((b.map byteC).take (h.toNat * 1)).drop (l.toNat * 1)) none = sl ((b.take h.toNat).drop l.toNat) := by
 unfold sl
 have : ((b.take h.toNat).drop l.toNat).length = h.toNat - l.toNat := by rw [List.length_drop, List.length_take]; omega
 rw [this, List.map_drop, List.map_take, Nat.mul_one, Nat.mul_one]
theorem elemC_bad {tag : UInt8} {l : List UInt8} (h : elemB tag l = none) : elemC tag (some l) = (none, none) := by
 show (match elemB tag l with | none => (none, none) | some (x, r) => (some r, some x)) = _
 rw [h]
def numW (l : List UInt8) : Int := l.foldl (fun n x => IntKind.i64.wrap (ishl .i64 n 8 + IntKind.i64.wrap (x.toNat : Int))) 0
def intR (s' : Option (List UInt8)) : Option (List UInt8) → Option (List UInt8) × Int
 | none => (s', 0)
 | some b => if isNumB b = true ∧ numW (b.take 8) ≤ 4611686018427387904 then (s', numW (b.take 8)) else (none, 0)
def intC (s : Option (List UInt8)) : Option (List UInt8) × Int := intR (elemC 2 s).1 (elemC 2 s).2
theorem intR_yes {s' : Option (List UInt8)} {b : List UInt8} (h : isNumB b = true ∧ numW (b.take 8) ≤ 4611686018427387904) : intR s' (some b) = (s', numW (b.take 8)) := if_pos h
theorem lenB_head (n : Nat) (hn : n ≤ 65535) (r : List UInt8) : headB (lenB n ++ r) = ((lenB n).length, n, true) := by
 unfold lenB
 split
 ·rename_i h
  have e : (UInt8.ofNat n).toNat = n := by rw [UInt8.toNat_ofNat']; omega
  match r with
  | [] => show headB [_] = _; rw [head_1, e, if_pos h]; rfl
  | [y] => show headB [_, _] = _; rw [head_2, e, if_pos h]; rfl
  | y :: z :: t => show headB (_ :: _ :: _ :: _) = _; rw [head_3, e, if_pos h]; rfl
 ·rename_i h
  split
  ·rename_i h2
   have e : (UInt8.ofNat n).toNat = n := by rw [UInt8.toNat_ofNat']; omega
   match r with
   | [] => show headB [_, _] = _; rw [head_2, e, if_neg (by decide), if_pos ⟨by decide, by omega⟩]; rfl
   | y :: t => show headB (_ :: _ :: _ :: _) = _; rw [head_3, e, if_neg (by decide), if_pos ⟨by decide, by omega⟩]; rfl
  ·rename_i h2
   have e1 : (UInt8.ofNat (n / 256)).toNat = n / 256 := by rw [UInt8.toNat_ofNat']; omega
   have e2 : (UInt8.ofNat n).toNat = n % 256 := by rw [UInt8.toNat_ofNat']
   show headB (_ :: _ :: _ :: _) = _
   rw [head_3, e1, e2, if_neg (by decide), if_neg (fun hh => absurd hh.1 (by decide)), if_pos ⟨by decide, by omega⟩]
   show (3, n / 256 * 256 + n % 256, true) = (3, n, true)
   rw [show n / 256 * 256 + n % 256 = n by omega]
theorem elem_wrap (tag : UInt8) (x rest : List UInt8) (hx : x.length ≤ 65535) : elemB tag (wrapB tag x ++ rest) = some (x, rest) := by
 have e : wrapB tag x ++ rest = tag :: (lenB x.length ++ (x ++ rest)) := by unfold wrapB; simp
 rw [e]
 show (if tag = tag then (if (headB (lenB x.length ++ (x ++ rest))).2.2 = true ∧ (headB (lenB x.length ++ (x ++ rest))).1 + (headB (lenB x.length ++ (x ++ rest))).2.1 ≤ (lenB x.length ++ (x ++ rest)).length then some (((lenB x.length ++ (x ++ rest)).drop (headB (lenB x.length ++ (x ++ rest))).1).take (headB (lenB x.length ++ (x ++ rest))).2.1, (lenB x.length ++ (x ++ rest)).drop ((headB (lenB x.length ++ (x ++ rest))).1 + (headB (lenB x.length ++ (x ++ rest))).2.1)) else none) else none) = _
 rw [if_pos rfl, lenB_head _ hx]
 rw [if_pos ⟨rfl, by show (lenB x.length).length + x.length ≤ _; simp⟩]
 show some (((lenB x.length ++ (x ++ rest)).drop (lenB x.length).length).take x.length, (lenB x.length ++ (x ++ rest)).drop ((lenB x.length).length + x.length)) = _
 rw [List.drop_left, List.take_left, ← List.drop_drop, List.drop_left, List.drop_left]
theorem elemC_wrap (tag : UInt8) (x rest : List UInt8) (hx : x.length ≤ 65535) : elemC tag (some (wrapB tag x ++ rest)) = (some rest, some x) := by
 show (match elemB tag (wrapB tag x ++ rest) with | none => (none, none) | some (x, r) => (some r, some x)) = _
 rw [elem_wrap tag x rest hx]
theorem ishl8 (v : Int) : ishl .i64 v 8 = IntKind.i64.wrap (v * 256) := by
 unfold ishl
 rw [show (2 : Int) ^ (min (Int.toNat 8) IntKind.i64.bits) = 256 from rfl]
def stepV (n : Nat) (x : UInt8) : Nat := n * 256 + x.toNat
def valB (l : List UInt8) : Nat := l.foldl stepV 0
theorem fold_pow : ∀ (l : List UInt8) (a : Nat), a * 256 ^ l.length ≤ l.foldl stepV a
 | [], a => by simp
 | x :: l, a => by
  have h := fold_pow l (stepV a x)
  refine Nat.le_trans ?_ h
  unfold stepV
  rw [List.length_cons, Nat.pow_succ, Nat.mul_comm (256 ^ l.length) 256, ← Nat.mul_assoc]
  exact Nat.mul_le_mul_right _ (Nat.le_add_right _ _)
theorem fold_ge (l : List UInt8) (a : Nat) : a ≤ l.foldl stepV a :=
 Nat.le_trans (Nat.le_mul_of_pos_right _ (Nat.pow_pos (by decide))) (fold_pow l a)
theorem numW_fold : ∀ (l : List UInt8) (a : Nat), l.foldl stepV a < 9223372036854775808 → l.foldl (fun n x => IntKind.i64.wrap (ishl .i64 n 8 + IntKind.i64.wrap (x.toNat : Int))) (a : Int) = ((l.foldl stepV a : Nat) : Int)
 | [], a, _ => rfl
 | x :: l, a, h => by
  have h : l.foldl stepV (stepV a x) < 9223372036854775808 := h
  have h1 := fold_ge l (stepV a x)
  have h2 : stepV a x = a * 256 + x.toNat := rfl
  have hx := x.toNat_lt
  show l.foldl _ (IntKind.i64.wrap (ishl .i64 (a : Int) 8 + IntKind.i64.wrap (x.toNat : Int))) = ((l.foldl stepV (stepV a x) : Nat) : Int)
  rw [← numW_fold l (stepV a x) h]
  congr 1
  rw [ishl8, wrapB1, wrap64 (x := (a : Int) * 256) (by omega) (by omega), wrap64 (by omega) (by omega), h2]
  omega
theorem numW_val (l : List UInt8) (h : valB l < 9223372036854775808) : numW l = (valB l : Int) := numW_fold l 0 h
theorem le_val : ∀ (f n : Nat), n < 256 ^ f → valB (le f n).reverse = n
 | 0, n, h => by simp at h; subst h; rfl
 | f + 1, n, h => by
  unfold le
  split
  ·rename_i e; rw [e]; rfl
  ·rw [List.reverse_cons]
   unfold valB
   rw [List.foldl_append]
   have ih : (le f (n / 256)).reverse.foldl stepV 0 = n / 256 := le_val f (n / 256) (by rw [Nat.pow_succ] at h; omega)
   rw [ih]
   show n / 256 * 256 + (UInt8.ofNat n).toNat = n
   rw [UInt8.toNat_ofNat']; omega
theorem le_top : ∀ (f n : Nat), n < 256 ^ f → ∀ x t, (le f n).reverse = x :: t → 0 < x.toNat
 | 0, n, _ => fun x t e => by simp [le] at e
 | f + 1, n, h => fun x t e => by
  have h' : n / 256 < 256 ^ f := by rw [Nat.pow_succ] at h; omega
  unfold le at e
  split at e
  ·cases e
  ·rename_i hn
   rw [List.reverse_cons] at e
   cases hd : (le f (n / 256)).reverse with
   | nil =>
    have hv := le_val f (n / 256) h'
    rw [hd] at hv
    have hv : 0 = n / 256 := hv
    rw [hd] at e
    cases e
    rw [UInt8.toNat_ofNat']; omega
   | cons y u =>
    rw [hd] at e
    cases e
    exact le_top f (n / 256) h' _ _ hd
theorem le_nil (f n : Nat) (h : n < 256 ^ f) (e : le f n = []) : n = 0 := by
 have := le_val f n h
 rw [e] at this
 exact this.symm
theorem intB_ok (n : Nat) (hn : n ≤ 4611686018427387904) : isNumB (intB n) = true ∧ valB (intB n) = n ∧ (intB n).length ≤ 8 := by
  have h9 : n < 256 ^ 9 := by omega
  have hv := le_val 9 n h9
  have ht := le_top 9 n h9
  unfold intB padB
  generalize hd : (le 9 n).reverse = b at hv ht
  have hl : le 9 n = b.reverse := by rw [← hd, List.reverse_reverse]
  rw [hl]
  cases b with
  | nil => exact ⟨by decide, by rw [← hv]; rfl, by decide⟩
  | cons x t =>
    have hx := ht x t rfl
    have hp : x.toNat * 256 ^ t.length ≤ n := by
      have h := fold_pow t (stepV 0 x)
      have e : t.foldl stepV (stepV 0 x) = n := hv
      rw [e] at h
      have e2 : stepV 0 x = x.toNat := by unfold stepV; omega
      rw [e2] at h; exact h
    have hg : ((x :: t).reverse.getLast?.getD 0) = x := by simp
    rw [hg]
    have p7 : 7 ≤ t.length → 256 ^ 7 ≤ 256 ^ t.length := fun h => Nat.pow_le_pow_right (by decide) h
    have p8 : 8 ≤ t.length → 256 ^ 8 ≤ 256 ^ t.length := fun h => Nat.pow_le_pow_right (by decide) h
    have k8 : t.length ≤ 7 := by
      refine Nat.le_of_not_lt fun h => ?_
      have := p8 h
      have : 256 ^ t.length ≤ x.toNat * 256 ^ t.length := Nat.le_mul_of_pos_left _ hx
      have e : (256 : Nat) ^ 8 = 18446744073709551616 := by decide
      omega
    by_cases hc : 128 ≤ x.toNat
    · rw [if_pos (.inr hc)]
      have k7 : t.length ≤ 6 := by
        refine Nat.le_of_not_lt fun h => ?_
        have h1 := p7 h
        have : x.toNat * 256 ^ 7 ≤ x.toNat * 256 ^ t.length := Nat.mul_le_mul_left _ h1
        have e : (256 : Nat) ^ 7 = 72057594037927936 := by decide
        rw [e] at this
        omega
      rw [List.reverse_append, List.reverse_reverse]
      refine ⟨?_, ?_, ?_⟩
      · show (decide (t.length ≤ 6) && (decide ((0 : UInt8).toNat < 128) && (decide ((0 : UInt8).toNat ≠ 0) || decide (128 ≤ x.toNat)))) = true
        rw [decide_eq_true k7, decide_eq_true hc]; rfl
      · exact hv
      · show t.length + 1 + 1 ≤ 8
        omega
    · rw [if_neg (fun hh => by rcases hh with hh | hh; · simp at hh
                               · exact hc hh)]
      rw [List.reverse_reverse]
      refine ⟨?_, hv, by show t.length + 1 ≤ 8; omega⟩
      cases t with
      | nil => exact decide_eq_true (by omega)
      | cons y u =>
        show (decide (u.length ≤ 6) && (decide (x.toNat < 128) && (decide (x.toNat ≠ 0) || decide (128 ≤ y.toNat)))) = true
        have : u.length + 1 ≤ 7 := k8
        rw [decide_eq_true (show u.length ≤ 6 by omega), decide_eq_true (show x.toNat < 128 by omega), decide_eq_true (show x.toNat ≠ 0 by omega)]; rfl
theorem intC_wrap (n : Int) (h0 : 0 ≤ n) (h1 : n ≤ 4611686018427387904) (rest : List UInt8) : intC (some (intE n ++ rest)) = (some rest, n) := by
 have hc : clampI n = n.toNat := by unfold clampI; omega
 obtain ⟨k1, k2, k3⟩ := intB_ok n.toNat (by omega)
 unfold intC intE
 rw [hc, elemC_wrap 2 _ rest (by omega)]
 have e8 : (intB n.toNat).take 8 = intB n.toNat := List.take_of_length_le k3
 have hw : numW ((intB n.toNat).take 8) = n := by rw [e8, numW_val _ (by omega), k2]; omega
 show intR (some rest) (some (intB n.toNat)) = _
 rw [intR_yes ⟨k1, by rw [hw]; exact h1⟩, hw]
def princC (s : Option (List UInt8)) : Option (List UInt8) × (List UInt8 × List UInt8) :=
 ((elemC 48 s).1, ((elemC 27 (elemC 48 s).2).2.getD [], (elemC 27 (elemC 27 (elemC 48 s).2).1).2.getD []))
theorem princC_wrap (r n rest : List UInt8) (hr : r.length ≤ 1000) (hn : n.length ≤ 1000) : princC (some (princE r n ++ rest)) = (some rest, (r, n)) := by
 have h1 := wrapB_len 27 r
 have h2 := wrapB_len 27 n
 unfold princC princE
 rw [elemC_wrap 48 _ rest (by simp only [List.flatten_cons, List.flatten_nil, List.length_append, List.length_nil]; omega)]
 show (some rest, ((elemC 27 (some [wrapB 27 r, wrapB 27 n].flatten)).2.getD [], (elemC 27 (elemC 27 (some [wrapB 27 r, wrapB 27 n].flatten)).1).2.getD [])) = _
 simp only [List.flatten_cons, List.flatten_nil]
 rw [elemC_wrap 27 r _ (by omega)]
 show (some rest, (r, (elemC 27 (some (wrapB 27 n ++ []))).2.getD [])) = _
 rw [elemC_wrap 27 n _ (by omega)]
 rfl
theorem elemB_len {tag : UInt8} {l x r : List UInt8} (h : elemB tag l = some (x, r)) : x.length ≤ l.length ∧ r.length ≤ l.length ∧ x.length ≤ 65535 := by
 cases l with
 | nil => cases h
 | cons t b =>
  have h : (if t = tag then (if (headB b).2.2 = true ∧ (headB b).1 + (headB b).2.1 ≤ b.length then some ((b.drop (headB b).1).take (headB b).2.1, b.drop ((headB b).1 + (headB b).2.1)) else none) else none) = some (x, r) := h
  split at h
  ·split at h
   ·rename_i h1 h2
    have := head_le b h2.1
    cases h
    simp only [List.length_take, List.length_drop, List.length_cons]
    omega
   ·cases h
  ·cases h
theorem elemC_len {tag : UInt8} {s : Option (List UInt8)} {B : Nat} (h : ∀ l, s = some l → l.length ≤ B) : (∀ l, (elemC tag s).1 = some l → l.length ≤ B) ∧ (∀ l, (elemC tag s).2 = some l → l.length ≤ B ∧ l.length ≤ 65535) := by
 cases s with
 | none => exact ⟨(fun l h => by cases h), (fun l h => by cases h)⟩
 | some l =>
  have hb := h l rfl
  have e : elemC tag (some l) = (match elemB tag l with | none => (none, none) | some (x, r) => (some r, some x)) := rfl
  rw [e]
  cases he : elemB tag l with
  | none => exact ⟨(fun l h => by cases h), (fun l h => by cases h)⟩
  | some p =>
   obtain ⟨x, r⟩ := p
   have hl := elemB_len he
   exact ⟨(fun l h => by cases h; omega), (fun l h => by cases h; omega)⟩
def keyC (k : Nat → UInt8) : List PV := [byteC (k 0), byteC (k 1), byteC (k 2), byteC (k 3), byteC (k 4), byteC (k 5), byteC (k 6), byteC (k 7), byteC (k 8), byteC (k 9), byteC (k 10), byteC (k 11), byteC (k 12), byteC (k 13), byteC (k 14), byteC (k 15), byteC (k 16), byteC (k 17), byteC (k 18), byteC (k 19), byteC (k 20), byteC (k 21), byteC (k 22), byteC (k 23), byteC (k 24), byteC (k 25), byteC (k 26), byteC (k 27), byteC (k 28), byteC (k 29), byteC (k 30), byteC (k 31)]
def keyB (k : Nat → UInt8) : List UInt8 := [k 0, k 1, k 2, k 3, k 4, k 5, k 6, k 7, k 8, k 9, k 10, k 11, k 12, k 13, k 14, k 15, k 16, k 17, k 18, k 19, k 20, k 21, k 22, k 23, k 24, k 25, k 26, k 27, k 28, k 29, k 30, k 31]
def keyOf (x : List UInt8) : Nat → UInt8 := fun i => x.getD i 0
theorem keyC_map (k : Nat → UInt8) : keyC k = (keyB k).map byteC := rfl
theorem keyB_len (k : Nat → UInt8) : (keyB k).length = 32 := rfl
theorem keyB_of (k : Nat → UInt8) : keyB (keyOf (keyB k)) = keyB k := rfl
structure Prt where
 r : List UInt8
 n : List UInt8
 k : Nat → UInt8
 tr : List UInt8
 st : Int
 en : Int
def Prt.cells (p : Prt) : List PV := [.str p.r, .str p.n] ++ keyC p.k ++ [.str p.tr, .int .i64 p.st, .int .i64 p.en]
def isPartB (p : Prt) : Bool := isPrincB p.r p.n && isTextB p.tr && (inZ p.st 0 1073741824 && inZ p.en 0 1073741824)
def partL (p : Prt) : List UInt8 := wrapB 99 [princE p.r p.n, wrapB 4 (keyB p.k), wrapB 27 p.tr, intE p.st, intE p.en].flatten
def encPV (p : Prt) : PV := if isPartB p = true ∧ (partL p).length ≤ 2000 then .tup [sl (partL p), .int .i64 0] else .tup [sl [], .int .i64 1]
theorem encPV_yes {p : Prt} (h : isPartB p = true ∧ (partL p).length ≤ 2000) : encPV p = .tup [sl (partL p), .int .i64 0] := if_pos h
theorem encPV_no {p : Prt} (h : ¬ (isPartB p = true ∧ (partL p).length ≤ 2000)) : encPV p = .tup [sl [], .int .i64 1] := if_neg h
def octC (s : Option (List UInt8)) : Option (List UInt8) × List UInt8 := ((elemC 4 s).1, (elemC 4 s).2.getD [])
def txtC (s : Option (List UInt8)) : Option (List UInt8) × List UInt8 := ((elemC 27 s).1, (elemC 27 s).2.getD [])
theorem octC_wrap (x rest : List UInt8) (hx : x.length ≤ 65535) : octC (some (wrapB 4 x ++ rest)) = (some rest, x) := by
 unfold octC; rw [elemC_wrap 4 x rest hx]; rfl
theorem txtC_wrap (x rest : List UInt8) (hx : x.length ≤ 65535) : txtC (some (wrapB 27 x ++ rest)) = (some rest, x) := by
 unfold txtC; rw [elemC_wrap 27 x rest hx]; rfl
def partD (s : Option (List UInt8)) : Prt :=
 ⟨(princC s).2.1, (princC s).2.2, keyOf (octC (princC s).1).2, (txtC (octC (princC s).1).1).2, (intC (txtC (octC (princC s).1).1).1).2, (intC (intC (txtC (octC (princC s).1).1).1).1).2⟩
def partC (b : List UInt8) : Prt := partD (elemC 99 (some b)).2
def Prt.same (p q : Prt) : Prop := p.r = q.r ∧ p.n = q.n ∧ keyB p.k = keyB q.k ∧ p.tr = q.tr ∧ p.st = q.st ∧ p.en = q.en
theorem part_len (p : Prt) : (partL p).length ≤ p.r.length + p.n.length + p.tr.length + 88 := by
 have h0 := wrapB_len 99 [princE p.r p.n, wrapB 4 (keyB p.k), wrapB 27 p.tr, intE p.st, intE p.en].flatten
 have h1 := princE_len p.r p.n
 have h2 := wrapB_len 4 (keyB p.k)
 have h3 := wrapB_len 27 p.tr
 have h4 := intE_len p.st
 have h5 := intE_len p.en
 have h6 := keyB_len p.k
 simp only [List.flatten_cons, List.flatten_nil, List.length_append, List.length_nil] at h0
 unfold partL
 simp only [List.flatten_cons, List.flatten_nil]
 omega
theorem isText_len {s : List UInt8} (h : isTextB s = true) : s.length ≤ 300 := by
 unfold isTextB at h
 rw [Bool.and_eq_true] at h
 exact of_decide_eq_true h.1
theorem partC_laid (p : Prt) (h : isPartB p = true) : (partC (partL p)).same p := by
 unfold isPartB at h
 simp only [Bool.and_eq_true] at h
 have g1 := princ_len h.1.1
 have g2 := isText_len h.1.2
 have g3 := inZ_le h.2.1
 have g4 := inZ_le h.2.2
 have h1 := princE_len p.r p.n
 have h2 := wrapB_len 4 (keyB p.k)
 have h3 := wrapB_len 27 p.tr
 have h4 := intE_len p.st
 have h5 := intE_len p.en
 have h6 := keyB_len p.k
 have e0 := elemC_wrap 99 [princE p.r p.n, wrapB 4 (keyB p.k), wrapB 27 p.tr, intE p.st, intE p.en].flatten [] (by simp only [List.flatten_cons, List.flatten_nil, List.length_append, List.length_nil]; omega)
 rw [List.append_nil] at e0
 have w1 := princC_wrap p.r p.n (wrapB 4 (keyB p.k) ++ (wrapB 27 p.tr ++ (intE p.st ++ (intE p.en ++ [])))) (by omega) (by omega)
 have w2 := octC_wrap (keyB p.k) (wrapB 27 p.tr ++ (intE p.st ++ (intE p.en ++ []))) (by omega)
 have w3 := txtC_wrap p.tr (intE p.st ++ (intE p.en ++ [])) (by omega)
 have w4 := intC_wrap p.st (by omega) (by omega) (intE p.en ++ [])
 have w5 := intC_wrap p.en (by omega) (by omega) []
 unfold partC partL
 rw [e0]
 show (partD (some [princE p.r p.n, wrapB 4 (keyB p.k), wrapB 27 p.tr, intE p.st, intE p.en].flatten)).same p
 simp only [List.flatten_cons, List.flatten_nil]
 unfold partD
 simp only [w1, w2, w3, w4, w5]
 exact ⟨rfl, rfl, keyB_of _, rfl, rfl, rfl⟩
theorem part_same {p q : Prt} (h : p.same q) : isPartB p = isPartB q ∧ partL p = partL q := by
 obtain ⟨h1, h2, h3, h4, h5, h6⟩ := h
 unfold isPartB partL
 rw [h1, h2, h3, h4, h5, h6]
 exact ⟨rfl, rfl⟩
def mZ : Msg := ⟨0, [], [], [], [], 0, 0, [], [], 0, [], some 5, [], some 5, [], [], 0, 0, [], [], [], [], 0, [], some 5, [], some 5, [], [], 0, [], some 5, [], some 5, 0, 0⟩
set_option maxHeartbeats 2000000
theorem Upd.over {X Y : Nat → Prop} {H H1 H2 : PH} (h : Upd X H H1) (k : Upd Y H1 H2) (hy : ∀ i, i < H.length → Y i → X i) : Upd X H H2 :=
 ⟨Nat.le_trans h.1 k.1, fun i hi hx => (k.2 i (Nat.lt_of_lt_of_le hi h.1) fun hY => hx (hy i hi hY)).trans (h.2 i hi hx)⟩
theorem keyB_range (k : Nat → UInt8) : keyB k = (List.range 32).map k := rfl
theorem limV_yes {ok : Bool} {b : List UInt8} (h : ok = true ∧ b.length ≤ 2000) : limV ok b = .tup [sl b, .int .i64 0] := if_pos h
theorem limV_no {ok : Bool} {b : List UInt8} (h : ¬ (ok = true ∧ b.length ≤ 2000)) : limV ok b = .tup [.slice 0 [] (some 5), .int .i64 1] := if_neg h
theorem c106 (p : Prt) (hr : p.r.length ≤ 1000000) (hn : p.n.length ≤ 1000000) (ht : p.tr.length ≤ 1000000) : Pure prog 106 [.agg p.cells] (encPV p) := by
 intro H
 have h1 := princE_len p.r p.n
 have h2 := wrapB_len 4 (keyB p.k)
 have h3 := wrapB_len 27 p.tr
 have h4 := intE_len p.st
 have h5 := intE_len p.en
 have h6 := keyB_len p.k
 (refine fnS (imm := imm106) ttC_ok func106 ?_; (conv => whnf))
 refine drawK_pure2 (by kernel_rfl) ?_
 conv => whnf
 iterate 2 (refine dS ?_; (conv => whnf))
 refine ⟨_, callK_pure (c97 p.r p.n (by omega) (by omega)) ⟨rfl, rfl, trivial⟩, ?_⟩
 conv => whnf
 cases f1 : isPrincB p.r p.n
 ·(refine dS ?_; (conv => whnf))
  iterate 14 (refine dS ?_; (conv => whnf))
  refine ⟨_, callK_pure (c165 p.r p.n hr hn) ⟨rfl, rfl, trivial⟩, ?_⟩
  conv => whnf
  iterate 2 (refine dS ?_; (conv => whnf))
  refine ⟨_, callK_pure (c168p (keyB p.k) (by omega)) ⟨rfl, rfl, trivial⟩, ?_⟩
  conv => whnf
  iterate 2 (refine dS ?_; (conv => whnf))
  refine ⟨_, callK_pure (c170p p.tr (by omega)) ⟨rfl, rfl, trivial⟩, ?_⟩
  conv => whnf
  iterate 2 (refine dS ?_; (conv => whnf))
  refine ⟨_, callK_pure (c166 p.st) ⟨rfl, rfl, trivial⟩, ?_⟩
  conv => whnf
  iterate 2 (refine dS ?_; (conv => whnf))
  refine ⟨_, callK_pure (c166 p.en) ⟨rfl, rfl, trivial⟩, ?_⟩
  conv => whnf
  (refine dS ?_; (conv => whnf))
  refine ⟨_, callK_pure (c164p 99 [princE p.r p.n, wrapB 4 (keyB p.k), wrapB 27 p.tr, intE p.st, intE p.en] (by simp) (by simp only [List.flatten_cons, List.flatten_nil, List.length_append, List.length_nil]; omega)) ⟨rfl, rfl, trivial⟩, ?_⟩
  conv => whnf
  have hb : isPartB p = false := by unfold isPartB; simp only [f1, Bool.and_true, Bool.true_and, Bool.and_false, Bool.false_and]
  refine ⟨_, callK_pure ((c103 false (partL p)).of_eq (limV_no (fun h => by cases h.1))) ⟨rfl, rfl, trivial⟩, ?_⟩
  conv => whnf
  iterate 4 (refine dS ?_; (conv => whnf))
  exact ⟨(encPV_no (fun h => by rw [hb] at h; cases h.1)).symm, rfl⟩
 iterate 3 (refine dS ?_; (conv => whnf))
 refine ⟨_, callK_pure (c169 p.tr) ⟨rfl, rfl, trivial⟩, ?_⟩
 conv => whnf
 cases f2 : isTextB p.tr
 ·(refine dS ?_; (conv => whnf))
  iterate 10 (refine dS ?_; (conv => whnf))
  refine ⟨_, callK_pure (c165 p.r p.n hr hn) ⟨rfl, rfl, trivial⟩, ?_⟩
  conv => whnf
  iterate 2 (refine dS ?_; (conv => whnf))
  refine ⟨_, callK_pure (c168p (keyB p.k) (by omega)) ⟨rfl, rfl, trivial⟩, ?_⟩
  conv => whnf
  iterate 2 (refine dS ?_; (conv => whnf))
  refine ⟨_, callK_pure (c170p p.tr (by omega)) ⟨rfl, rfl, trivial⟩, ?_⟩
  conv => whnf
  iterate 2 (refine dS ?_; (conv => whnf))
  refine ⟨_, callK_pure (c166 p.st) ⟨rfl, rfl, trivial⟩, ?_⟩
  conv => whnf
  iterate 2 (refine dS ?_; (conv => whnf))
  refine ⟨_, callK_pure (c166 p.en) ⟨rfl, rfl, trivial⟩, ?_⟩
  conv => whnf
  (refine dS ?_; (conv => whnf))
  refine ⟨_, callK_pure (c164p 99 [princE p.r p.n, wrapB 4 (keyB p.k), wrapB 27 p.tr, intE p.st, intE p.en] (by simp) (by simp only [List.flatten_cons, List.flatten_nil, List.length_append, List.length_nil]; omega)) ⟨rfl, rfl, trivial⟩, ?_⟩
  conv => whnf
  have hb : isPartB p = false := by unfold isPartB; simp only [f1, f2, Bool.and_true, Bool.true_and, Bool.and_false, Bool.false_and]
  refine ⟨_, callK_pure ((c103 false (partL p)).of_eq (limV_no (fun h => by cases h.1))) ⟨rfl, rfl, trivial⟩, ?_⟩
  conv => whnf
  iterate 4 (refine dS ?_; (conv => whnf))
  exact ⟨(encPV_no (fun h => by rw [hb] at h; cases h.1)).symm, rfl⟩
 iterate 7 (refine dS ?_; (conv => whnf))
 refine ⟨_, callK_pure ((c158 [p.st, p.en] (by simp)).of_eq (show PV.bool (inZ p.st 0 1073741824 && (inZ p.en 0 1073741824 && true)) = .bool (inZ p.st 0 1073741824 && inZ p.en 0 1073741824) by rw [Bool.and_true])) ⟨rfl, rfl, trivial⟩, ?_⟩
 conv => whnf
 cases f3 : (inZ p.st 0 1073741824 && inZ p.en 0 1073741824)
 ·(refine dS ?_; (conv => whnf))
  iterate 2 (refine dS ?_; (conv => whnf))
  refine ⟨_, callK_pure (c165 p.r p.n hr hn) ⟨rfl, rfl, trivial⟩, ?_⟩
  conv => whnf
  iterate 2 (refine dS ?_; (conv => whnf))
  refine ⟨_, callK_pure (c168p (keyB p.k) (by omega)) ⟨rfl, rfl, trivial⟩, ?_⟩
  conv => whnf
  iterate 2 (refine dS ?_; (conv => whnf))
  refine ⟨_, callK_pure (c170p p.tr (by omega)) ⟨rfl, rfl, trivial⟩, ?_⟩
  conv => whnf
  iterate 2 (refine dS ?_; (conv => whnf))
  refine ⟨_, callK_pure (c166 p.st) ⟨rfl, rfl, trivial⟩, ?_⟩
  conv => whnf
  iterate 2 (refine dS ?_; (conv => whnf))
  refine ⟨_, callK_pure (c166 p.en) ⟨rfl, rfl, trivial⟩, ?_⟩
  conv => whnf
  (refine dS ?_; (conv => whnf))
  refine ⟨_, callK_pure (c164p 99 [princE p.r p.n, wrapB 4 (keyB p.k), wrapB 27 p.tr, intE p.st, intE p.en] (by simp) (by simp only [List.flatten_cons, List.flatten_nil, List.length_append, List.length_nil]; omega)) ⟨rfl, rfl, trivial⟩, ?_⟩
  conv => whnf
  have hb : isPartB p = false := by unfold isPartB; simp only [f1, f2, f3, Bool.and_true, Bool.true_and, Bool.and_false, Bool.false_and]
  refine ⟨_, callK_pure ((c103 false (partL p)).of_eq (limV_no (fun h => by cases h.1))) ⟨rfl, rfl, trivial⟩, ?_⟩
  conv => whnf
  iterate 4 (refine dS ?_; (conv => whnf))
  exact ⟨(encPV_no (fun h => by rw [hb] at h; cases h.1)).symm, rfl⟩
 iterate 3 (refine dS ?_; (conv => whnf))
 refine ⟨_, callK_pure (c165 p.r p.n hr hn) ⟨rfl, rfl, trivial⟩, ?_⟩
 conv => whnf
 iterate 2 (refine dS ?_; (conv => whnf))
 refine ⟨_, callK_pure (c168p (keyB p.k) (by omega)) ⟨rfl, rfl, trivial⟩, ?_⟩
 conv => whnf
 iterate 2 (refine dS ?_; (conv => whnf))
 refine ⟨_, callK_pure (c170p p.tr (by omega)) ⟨rfl, rfl, trivial⟩, ?_⟩
 conv => whnf
 iterate 2 (refine dS ?_; (conv => whnf))
 refine ⟨_, callK_pure (c166 p.st) ⟨rfl, rfl, trivial⟩, ?_⟩
 conv => whnf
 iterate 2 (refine dS ?_; (conv => whnf))
 refine ⟨_, callK_pure (c166 p.en) ⟨rfl, rfl, trivial⟩, ?_⟩
 conv => whnf
 (refine dS ?_; (conv => whnf))
 refine ⟨_, callK_pure (c164p 99 [princE p.r p.n, wrapB 4 (keyB p.k), wrapB 27 p.tr, intE p.st, intE p.en] (by simp) (by simp only [List.flatten_cons, List.flatten_nil, List.length_append, List.length_nil]; omega)) ⟨rfl, rfl, trivial⟩, ?_⟩
 conv => whnf
 have hb : isPartB p = true := by unfold isPartB; simp only [f1, f2, f3, Bool.and_true, Bool.true_and, Bool.and_false, Bool.false_and]
 by_cases hlen : (partL p).length ≤ 2000
 ·have hlim := limV_yes (ok := true) (b := partL p) ⟨rfl, hlen⟩
  refine ⟨_, callK_pure ((c103 true (partL p)).of_eq hlim) ⟨rfl, rfl, trivial⟩, ?_⟩
  conv => whnf
  iterate 4 (refine dS ?_; (conv => whnf))
  exact ⟨(encPV_yes ⟨hb, hlen⟩).symm, rfl⟩
 ·have hlim := limV_no (ok := true) (b := partL p) (fun h => hlen h.2)
  refine ⟨_, callK_pure ((c103 true (partL p)).of_eq hlim) ⟨rfl, rfl, trivial⟩, ?_⟩
  conv => whnf
  iterate 4 (refine dS ?_; (conv => whnf))
  exact ⟨(encPV_no (fun h => hlen h.2)).symm, rfl⟩
def zPrt : Prt := ⟨[], [], fun _ => 0, [], 0, 0⟩
def okPrt (p : Prt) (b : List UInt8) : Bool := isPartB p && (decide ((partL p).length ≤ 2000) && decide (partL p = b))
theorem get_mid (H : PH) (o o' : PObj) : (H ++ [o] ++ [o'])[H.length]? = some o := by
 rw [List.getElem?_append_left (by simp)]; exact get_last _ _
def agPV (p : Prt) (b : List UInt8) : PV := match okPrt p b with
 | true => .tup [.agg p.cells, .int .i64 0]
 | false => .tup [.agg zPrt.cells, .int .i64 2]
theorem agPV_yes {p : Prt} {b : List UInt8} (h : okPrt p b = true) : agPV p b = .tup [.agg p.cells, .int .i64 0] := by unfold agPV; rw [h]
theorem agPV_no {p : Prt} {b : List UInt8} (h : okPrt p b = false) : agPV p b = .tup [.agg zPrt.cells, .int .i64 2] := by unfold agPV; rw [h]
theorem getD_len {o : Option (List UInt8)} {B : Nat} (h : ∀ l, o = some l → l.length ≤ B ∧ l.length ≤ 65535) : (o.getD []).length ≤ 65535 := by
 cases o with
 | none => exact Nat.zero_le _
 | some l => exact (h l rfl).2
set_option maxHeartbeats 4000000
theorem sl_get0 (t : UInt8) (b : List UInt8) : ∀ (j : Nat) (c : PV), [byteC t][j]? = some c → ((t :: b).map byteC)[0 * 1 + j]? = some c := by
 intro j c hj
 match j with
 | 0 => exact hj
 | j + 1 => simp at hj
theorem small (t : UInt8) (s : Option (List UInt8)) : ((elemC t s).2.getD []).length ≤ 65535 :=
 getD_len (B := (s.getD []).length) (elemC_len (fun l h => by subst h; exact Nat.le_refl _)).2
theorem encV_yes {m : Msg} (h : isB m = true ∧ (laidB m).length ≤ 2000) : encV m = .tup [sl (laidB m), .int .i64 0] := if_pos h
theorem encV_no {m : Msg} (h : ¬ (isB m = true ∧ (laidB m).length ≤ 2000)) : encV m = .tup [.slice 0 [] (some 5), .int .i64 1] := if_neg h
def ttL : TT := [(3, ⟨.int .i64, 1, 8, [.int .i64 0]⟩), (4, ⟨.bool, 1, 1, [.bool false]⟩), (5, ⟨.int .u8, 1, 1, [.int .u8 0]⟩), (9, ⟨.str, 1, 16, [.str []]⟩), (26, ⟨.slice 5, 1, 24, [.slice 0 [] (some 5)]⟩), (25, ⟨.strct [(9, 0), (9, 1)], 2, 32, [.str [], .str []]⟩), (41, ⟨.strct [(25, 0), (25, 2), (3, 4), (3, 5)], 6, 80, [.str [], .str [], .str [], .str [], .int .i64 0, .int .i64 0]⟩), (28, ⟨.strct [(25, 0), (3, 2), (26, 3)], 4, 64, [.str [], .str [], .int .i64 0, .slice 0 [] (some 5)]⟩), (64, ⟨.strct [(28, 0), (26, 4), (25, 5), (3, 7), (3, 8)], 9, 136, [.str [], .str [], .int .i64 0, .slice 0 [] (some 5), .slice 0 [] (some 5), .str [], .str [], .int .i64 0, .int .i64 0]⟩), (30, ⟨.strct [(25, 0), (28, 2), (26, 6)], 7, 120, [.str [], .str [], .str [], .str [], .int .i64 0, .slice 0 [] (some 5), .slice 0 [] (some 5)]⟩), (98, ⟨.strct [(28, 0), (26, 4)], 5, 88, [.str [], .str [], .int .i64 0, .slice 0 [] (some 5), .slice 0 [] (some 5)]⟩), (31, ⟨.int .i64, 1, 8, [.int .i64 0]⟩), (100, ⟨.strct [(31, 0), (3, 1)], 2, 16, [.int .i64 0, .int .i64 0]⟩), (102, ⟨.strct [(3, 0), (41, 1), (64, 7), (30, 16), (98, 23), (100, 28)], 30, 448, [.int .i64 0, .str [], .str [], .str [], .str [], .int .i64 0, .int .i64 0, .str [], .str [], .int .i64 0, .slice 0 [] (some 5), .slice 0 [] (some 5), .str [], .str [], .int .i64 0, .int .i64 0, .str [], .str [], .str [], .str [], .int .i64 0, .slice 0 [] (some 5), .slice 0 [] (some 5), .str [], .str [], .int .i64 0, .slice 0 [] (some 5), .slice 0 [] (some 5), .int .i64 0, .int .i64 0]⟩), (146, ⟨.ptr, 1, 8, [.ptr none]⟩), (148, ⟨.strct [(26, 0), (4, 1)], 2, 32, [.slice 0 [] (some 5), .bool false]⟩), (255, ⟨.slice 26, 1, 24, [.slice 0 [] (some 26)]⟩)]
theorem ttL_ok : ttOk prog ttL = true := by kernel_rfl
def imm182 : List Nat := []
def imm118 : List Nat := []
def imm82 : List Nat := []
def imm93 : List Nat := []
def imm120 : List Nat := []
def imm84 : List Nat := []
def imm90 : List Nat := []
def imm60 : List Nat := []
def imm117 : List Nat := []
def imm57 : List Nat := []
def imm116 : List Nat := []
def imm61 : List Nat := []
def imm58 : List Nat := []
def imm83 : List Nat := [1]
def imm81 : List Nat := []
theorem c182 (n : Nat) : Pure prog 182 [.int .i64 n] (slo (lenB n) (some 5)) := by
 intro H
 (refine fnS (imm := imm182) ttL_ok func182 ?_; (conv => whnf))
 refine ⟨fun h => ?_, fun h => ?_⟩
 ·conv => whnf
  have h : (n : Int) < 128 := h
  have e : lenB n = [UInt8.ofNat n] := by unfold lenB; rw [if_pos (by omega)]
  rw [e]
  refine ⟨?_, rfl⟩
  show PV.slice 1 [PV.int .u8 (IntKind.u8.wrap (n : Int))] (some 5) = PV.slice 1 [PV.int .u8 ((UInt8.ofNat n).toNat : Int)] (some 5)
  rw [u8w]
 ·conv => whnf
  have h : ¬ (n : Int) < 128 := h
  refine ⟨fun h2 => ?_, fun h2 => ?_⟩
  ·conv => whnf
   have h2 : (n : Int) < 256 := h2
   have e : lenB n = [129, UInt8.ofNat n] := by unfold lenB; rw [if_neg (by omega), if_pos (by omega)]
   rw [e]
   refine ⟨?_, rfl⟩
   show PV.slice 2 [PV.int .u8 129, PV.int .u8 (IntKind.u8.wrap (n : Int))] (some 5) = PV.slice 2 [PV.int .u8 129, PV.int .u8 ((UInt8.ofNat n).toNat : Int)] (some 5)
   rw [u8w]
  ·conv => whnf
   have h2 : ¬ (n : Int) < 256 := h2
   have e : lenB n = [130, UInt8.ofNat (n / 256), UInt8.ofNat n] := by unfold lenB; rw [if_neg (by omega), if_neg (by omega)]
   rw [e]
   refine ⟨by decide, ?_⟩
   conv => whnf
   refine ⟨?_, rfl⟩
   show PV.slice 3 [PV.int .u8 130, PV.int .u8 (IntKind.u8.wrap (ishr .i64 (n : Int) 8)), PV.int .u8 (IntKind.u8.wrap (n : Int))] (some 5) = PV.slice 3 [PV.int .u8 130, PV.int .u8 ((UInt8.ofNat (n / 256)).toNat : Int), PV.int .u8 ((UInt8.ofNat n).toNat : Int)] (some 5)
   rw [shr8, u8w, u8w]
theorem c118 (tag : UInt8) (p : List UInt8) (o : Option Nat) (hp : p.length ≤ 1099511627000) : Pure prog 118 [byteC tag, slo p o] (slo (wrapB tag p) (some 5)) := by
 intro H
 have hl := lenB_len p.length
 (refine fnS (imm := imm118) ttL_ok func118 ?_; (conv => whnf))
 refine callK_pure (c182 p.length) ?_
 conv => whnf
 refine ⟨⟨by show (1 + (lenB p.length).length) * 1 ≤ _; omega, by simp, allOne _⟩, ?_⟩
 conv => whnf
 refine ⟨⟨by show (1 + (lenB p.length).length + p.length) * 1 ≤ _; omega, by simp, allOne _⟩, ?_⟩
 conv => whnf
 refine ⟨?_, rfl⟩
 show PV.slice (1 + (lenB p.length).length + p.length) ([byteC tag] ++ (lenB p.length).map byteC ++ p.map byteC) (some 5) = PV.slice (wrapB tag p).length ((wrapB tag p).map byteC) (some 5)
 have e1 : (wrapB tag p).length = 1 + (lenB p.length).length + p.length := by unfold wrapB; rw [List.length_cons, List.length_append]; omega
 have e2 : (wrapB tag p).map byteC = [byteC tag] ++ (lenB p.length).map byteC ++ p.map byteC := by unfold wrapB; rw [List.map_cons, List.map_append]; rfl
 rw [e1, e2]
theorem c93 (p : List UInt8) (o : Option Nat) (hp : p.length ≤ 1099511627000) : Pure prog 93 [slo p o] (slo (wrapB 4 p) (some 5)) := by
 intro H
 (refine fnS (imm := imm93) ttL_ok func93 ?_; (conv => whnf))
 refine callK_pure (c118 4 p none hp) ?_
 conv => whnf
 exact ⟨rfl, rfl⟩
theorem c120 (p : List UInt8) (hp : p.length ≤ 1099511627000) : Pure prog 120 [.str p] (slo (wrapB 27 p) (some 5)) := by
 intro H
 (refine fnS (imm := imm120) ttL_ok func120 ?_; (conv => whnf))
 refine ⟨by omega, ?_⟩
 conv => whnf
 refine callK_pure (c118 27 p none hp) ?_
 conv => whnf
 exact ⟨rfl, rfl⟩
structure RwS where
 i : Nat
theorem flat_len (ls : List (List UInt8)) (i : Nat) : (ls.take i).flatten.length ≤ ls.flatten.length := by
 conv => rhs; rw [← List.take_append_drop i ls, List.flatten_append, List.length_append]
 omega
theorem c82 (tag : UInt8) (ls : List (List UInt8)) (hn : ls.length ≤ 1099511627776) (ht : ls.flatten.length ≤ 1099511627000) : Pure prog 82 [byteC tag, .slice ls.length (ls.map sl) none] (slo (wrapB tag ls.flatten) (some 5)) := by
 intro H
 (refine fnS (imm := imm82) ttL_ok func82 ?_; (conv => whnf))
 refine loopK_of RwS (fun x => [(0, byteC tag), (1, .slice ls.length (ls.map sl) none), (6, .int .i64 x.i), (5, slo (ls.take x.i).flatten (some 5))]) (fun _ => H) (fun x => x.i ≤ ls.length) (fun x => ls.length - x.i)
  ⟨⟨0⟩, Nat.zero_le _, ⟨rfl, rfl, rfl, rfl, trivial⟩, rfl⟩ ?_
 rintro ⟨i⟩ hi
 have hi : i ≤ ls.length := hi
 conv => whnf
 refine ⟨fun h => ?_, fun h => ?_⟩
 ·conv => whnf
  have h : (i : Int) < (ls.length : Int) := h
  have hlt : i < ls.length := by omega
  have hat : (ls.map sl)[(i : Int).toNat * 1]? = some (sl ls[i]) := by
   rw [Int.toNat_natCast, Nat.mul_one, List.getElem?_map, List.getElem?_eq_getElem hlt]; rfl
  refine ⟨⟨by show (0 : Int) ≤ (i : Int); omega, h⟩, [sl ls[i]], at1 hat, ?_⟩
  conv => whnf
  have e1 := flat_take hlt
  have e2 := flat_len ls (i + 1)
  rw [e1, List.length_append] at e2
  refine ⟨⟨by show ((ls.take i).flatten.length + ls[i].length) * 1 ≤ _; omega, by simp, allOne _⟩, ?_⟩
  conv => whnf
  refine ⟨⟨i + 1⟩, hlt, ⟨rfl, rfl, ?_, ?_, trivial⟩, rfl, by show ls.length - (i + 1) < ls.length - i; omega⟩
  ·show PV.int _ (IntKind.i64.wrap ((i : Int) + 1)) = PV.int _ ((i + 1 : Nat) : Int)
   rw [wrap64 (by omega) (by omega)]; rfl
  ·show PV.slice ((ls.take i).flatten.length + ls[i].length) ((ls.take i).flatten.map byteC ++ ls[i].map byteC) (some 5) = slo (ls.take (i + 1)).flatten (some 5)
   rw [e1]; unfold slo; rw [List.length_append, List.map_append]
 ·conv => whnf
  have h : ¬ (i : Int) < (ls.length : Int) := h
  have hi2 : i = ls.length := by omega
  subst hi2
  rw [List.take_length]
  refine callK_pure (c118 tag ls.flatten none ht) ?_
  conv => whnf
  exact ⟨rfl, rfl⟩
def digB (n : Nat) : List UInt8 := if n = 0 then [0] else (le 9 n).reverse
theorem digB_len (n : Nat) : (digB n).length ≤ 9 := by
 unfold digB
 split
 ·decide
 ·rw [List.length_reverse]; exact le_len 9 n
theorem digB_intB (n : Nat) (x : UInt8) (t : List UInt8) (h : digB n = x :: t) : intB n = if 128 ≤ x.toNat then 0 :: x :: t else x :: t := by
  unfold digB at h
  unfold intB padB
  split at h
  · rename_i e
    subst e
    cases h
    rw [le_zero, if_pos (.inl rfl), if_neg (by decide)]; rfl
  · have hl : le 9 n = (x :: t).reverse := by rw [← h, List.reverse_reverse]
    have hg : ((x :: t).reverse.getLast?.getD 0) = x := by simp
    rw [hl, hg]
    by_cases hc : 128 ≤ x.toNat
    · rw [if_pos (.inr hc), if_pos hc, List.reverse_append, List.reverse_reverse]; rfl
    · rw [if_neg (fun hh => by rcases hh with hh | hh; · simp at hh
                               · exact hc hh), if_neg hc, List.reverse_reverse]
theorem digB_ne (n : Nat) (hn : n ≤ 4611686018427387904) : digB n ≠ [] := by
 unfold digB
 split
 ·simp
 ·rename_i h0
  intro e
  have e : le 9 n = [] := by rw [← List.reverse_reverse (le 9 n), e]; rfl
  exact h0 (le_nil 9 n (by omega) e)
structure RiS where
 m : Nat
 p : List UInt8
theorem c84 (n : Int) : Pure prog 84 [.int .i64 n] (slo (intE n) (some 5)) := by
 intro H
 (refine fnS (imm := imm84) ttL_ok func84 ?_; (conv => whnf))
 have hN : min (max n 0) 4611686018427387904 = (clampI n : Int) := by unfold clampI; omega
 have hN2 : clampI n ≤ 4611686018427387904 := by unfold clampI; omega
 refine ⟨by decide, ?_⟩
 conv => whnf
 have hbw : ∀ m : Nat, PV.int .u8 (IntKind.u8.wrap (m : Int)) = byteC (UInt8.ofNat m) := fun m => congrArg (PV.int .u8) (u8w m)
 refine loopK_of RiS (fun x => [(0, .int .i64 x.m), (3, slo x.p (some 5))]) (fun _ => H)
  (fun x => ∃ f, (le f x.m).reverse ++ x.p = digB (clampI n) ∧ x.m < 256 ^ f ∧ x.m ≤ 4611686018427387904) (fun x => x.m)
  ⟨⟨clampI n / 256, [UInt8.ofNat (clampI n)]⟩, ⟨8, ?_, by show clampI n / 256 < 256 ^ 8; omega, by show clampI n / 256 ≤ _; omega⟩, ⟨?_, ?_, trivial⟩, rfl⟩ ?_
 ·show (le 8 (clampI n / 256)).reverse ++ [UInt8.ofNat (clampI n)] = _
  unfold digB
  split
  ·rename_i e
   rw [e]; rfl
  ·rename_i e
   have hle : le (8 + 1) (clampI n) = UInt8.ofNat (clampI n) :: le 8 (clampI n / 256) := by
    conv => lhs; unfold le
    rw [if_neg e]
   show _ = (le (8 + 1) (clampI n)).reverse
   rw [hle, List.reverse_cons]
 ·show PV.int .i64 (ishr .i64 (min (max n 0) 4611686018427387904) 8) = PV.int .i64 ((clampI n / 256 : Nat) : Int)
  rw [hN, shr8]
 ·show PV.slice 1 [PV.int .u8 (IntKind.u8.wrap (min (max n 0) 4611686018427387904))] (some 5) = slo [UInt8.ofNat (clampI n)] (some 5)
  rw [hN, hbw]; rfl
 rintro ⟨m, p⟩ ⟨f, g1, g2, g3⟩
 have g1 : (le f m).reverse ++ p = digB (clampI n) := g1
 have g2 : m < 256 ^ f := g2
 have g3 : m ≤ 4611686018427387904 := g3
 have hp9 : p.length ≤ 9 := by
  have := digB_len (clampI n)
  rw [← g1, List.length_append] at this
  omega
 conv => whnf
 refine ⟨fun h => ?_, fun h => ?_⟩
 ·conv => whnf
  have h : (m : Int) > 0 := h
  have hf : ∃ f', f = f' + 1 := by
   cases f with
   | zero => simp at g2; omega
   | succ f => exact ⟨f, rfl⟩
  obtain ⟨f, rfl⟩ := hf
  have hle : le (f + 1) m = UInt8.ofNat m :: le f (m / 256) := by
   conv => lhs; unfold le
   rw [if_neg (by omega)]
  refine ⟨⟨by show (1 + p.length) * 1 ≤ _; omega, by simp, allOne _⟩, ?_⟩
  conv => whnf
  refine ⟨by decide, ?_⟩
  conv => whnf
  refine ⟨⟨m / 256, UInt8.ofNat m :: p⟩, ⟨f, ?_, ?_, by show m / 256 ≤ _; omega⟩, ⟨?_, ?_, trivial⟩, rfl, by show m / 256 < m; omega⟩
  ·show (le f (m / 256)).reverse ++ (UInt8.ofNat m :: p) = _
   rw [← g1, hle, List.reverse_cons, List.append_assoc]; rfl
  ·show m / 256 < 256 ^ f
   rw [Nat.div_lt_iff_lt_mul (by omega), ← Nat.pow_succ]; exact g2
  ·show PV.int .i64 (ishr .i64 (m : Int) 8) = PV.int .i64 ((m / 256 : Nat) : Int)
   rw [shr8]
  ·show PV.slice (1 + p.length) ([PV.int .u8 (IntKind.u8.wrap (m : Int))] ++ p.map byteC) (some 5) = PV.slice (p.length + 1) (byteC (UInt8.ofNat m) :: p.map byteC) (some 5)
   rw [hbw, Nat.add_comm]; rfl
 ·conv => whnf
  have h : ¬ (m : Int) > 0 := h
  have hm : m = 0 := by omega
  subst hm
  rw [le_zero] at g1
  have g1 : p = digB (clampI n) := g1
  have hne := digB_ne (clampI n) hN2
  rw [← g1] at hne
  have hib := digB_intB (clampI n)
  cases p with
  | nil => exact absurd rfl hne
  | cons x t =>
   have hib := hib x t g1.symm
   refine ⟨⟨by decide, by first | (simp; done) | (simp; omega)⟩, [byteC x], sl_get0 x t, ?_⟩
   conv => whnf
   refine ⟨fun h => ?_, fun h => ?_⟩
   ·conv => whnf
    have h : (128 : Int) ≤ (x.toNat : Int) := h
    rw [if_pos (by omega)] at hib
    have hp9 : t.length + 1 ≤ 9 := hp9
    refine ⟨⟨by show (1 + (t.length + 1)) * 1 ≤ _; omega, by simp, allOne (x :: t)⟩, ?_⟩
    conv => whnf
    have hE : slo (0 :: x :: t) (some 5) = PV.slice (1 + (x :: t).length) ([PV.int .u8 0] ++ (x :: t).map byteC) (some 5) := by
     unfold slo
     rw [Nat.add_comm]; rfl
    refine callK_args (args' := [byteC 2, slo (0 :: x :: t) none]) (congrArg (fun n => [byteC 2, PV.slice n ([PV.int .u8 0] ++ (x :: t).map byteC) none]) (Nat.add_comm 1 _)) (callK_pure (c118 2 (0 :: x :: t) none (by simp; omega)) ?_)
    conv => whnf
    refine ⟨?_, rfl⟩
    unfold intE
    rw [hib]; rfl
   ·conv => whnf
    have h : ¬ (128 : Int) ≤ (x.toNat : Int) := h
    rw [if_neg (by omega)] at hib
    have hp9 : t.length + 1 ≤ 9 := hp9
    refine callK_pure (c118 2 (x :: t) none (by simp; omega)) ?_
    conv => whnf
    refine ⟨?_, rfl⟩
    unfold intE
    rw [hib]; rfl
theorem or8 (a b : Nat) (ha : a < 36028797018963968) (hb : b < 256) : ibits .or .i64 ((a * 256 : Nat) : Int) (b : Int) = ((a * 256 + b : Nat) : Int) := by
 show IntKind.i64.wrap ((BitVec.ofInt 64 ((a * 256 : Nat) : Int) ||| BitVec.ofInt 64 (b : Int)).toNat : Int) = _
 have e1 : (BitVec.ofInt 64 ((a * 256 : Nat) : Int)).toNat = a * 256 := by rw [BitVec.toNat_ofInt]; omega
 have e2 : (BitVec.ofInt 64 (b : Int)).toNat = b := by rw [BitVec.toNat_ofInt]; omega
 have e3 := Nat.two_pow_add_eq_or_of_lt (i := 8) (show b < 2 ^ 8 by omega) a
 have e4 : 2 ^ 8 * a = a * 256 := by rw [Nat.mul_comm]
 rw [e4] at e3
 rw [BitVec.toNat_or, e1, e2, ← e3, wrap64 (by omega) (by omega)]
def rcur (H : PH) (c : Nat) (s : Option (List UInt8)) : Prop := ∃ b v, H[c]? = some ⟨148, [sl b, .bool s.isNone], v⟩ ∧ ∀ l, s = some l → b = l
theorem rcur.lt {H : PH} {c : Nat} {s : Option (List UInt8)} (h : rcur H c s) : c < H.length := by
 obtain ⟨b, v, h, _⟩ := h
 exact (List.getElem?_eq_some_iff.1 h).1
theorem rcur.keep {X : Nat → Prop} {H H' : PH} {c : Nat} {s : Option (List UInt8)} (h : rcur H c s) (k : Upd X H H') (hc : ¬ X c) : rcur H' c s := by
 have hl := h.lt
 obtain ⟨b, v, h, h2⟩ := h
 exact ⟨b, v, (k.2 c hl hc).trans h, h2⟩
theorem rcur.set_ne {H : PH} {c j : Nat} {s : Option (List UInt8)} (h : rcur H c s) (hj : j ≠ c) (x : PObj) : rcur (H.set j x) c s := by
 obtain ⟨b, v, h1, h2⟩ := h
 exact ⟨b, v, by rw [List.getElem?_set_ne hj]; exact h1, h2⟩
theorem head_lt (y : UInt8) (r : List UInt8) (h : y.toNat < 128) : headB (y :: r) = (1, y.toNat, true) := by
 match r with
 | [] => rw [head_1, if_pos h]
 | [z] => rw [head_2, if_pos h]
 | z :: w :: u => rw [head_3, if_pos h]
theorem head_81 (y z : UInt8) (r : List UInt8) (h : y.toNat = 129) : headB (y :: z :: r) = if 128 ≤ z.toNat then (2, z.toNat, true) else (0, 0, false) := by
 match r with
 | [] =>
  rw [head_2, if_neg (by omega)]
  by_cases h2 : 128 ≤ z.toNat
  ·rw [if_pos ⟨h, h2⟩, if_pos h2]
  ·rw [if_neg (fun hh => h2 hh.2), if_neg h2]
 | w :: u =>
  rw [head_3, if_neg (by omega)]
  by_cases h2 : 128 ≤ z.toNat
  ·rw [if_pos ⟨h, h2⟩, if_pos h2]
  ·rw [if_neg (fun hh => h2 hh.2), if_neg h2, if_neg (fun hh => by omega)]
theorem head_82 (y z w : UInt8) (r : List UInt8) (h : y.toNat = 130) : headB (y :: z :: w :: r) = if 0 < z.toNat then (3, z.toNat * 256 + w.toNat, true) else (0, 0, false) := by
 rw [head_3, if_neg (by omega), if_neg (fun hh => by omega)]
 by_cases h2 : 0 < z.toNat
 ·rw [if_pos ⟨h, h2⟩, if_pos h2]
 ·rw [if_neg (fun hh => h2 hh.2), if_neg h2]
theorem head_bad (y : UInt8) (r : List UInt8) (h : 128 ≤ y.toNat) (h1 : ¬ (y.toNat = 129 ∧ r ≠ [])) (h2 : ¬ (y.toNat = 130 ∧ 2 ≤ r.length)) : (headB (y :: r)).2.2 = false := by
 match r with
 | [] => rw [head_1, if_neg (by omega)]
 | [z] => rw [head_2, if_neg (by omega), if_neg (fun hh => h1 ⟨hh.1, by simp⟩)]
 | z :: w :: u => rw [head_3, if_neg (by omega), if_neg (fun hh => h1 ⟨hh.1, by simp⟩), if_neg (fun hh => h2 ⟨hh.1, by simp⟩)]
theorem elemC_ne {t tag : UInt8} {b : List UInt8} (h : ¬ t = tag) : elemC tag (some (t :: b)) = (none, none) := by
 refine elemC_bad ?_
 show (if t = tag then _ else none) = none
 rw [if_neg h]
theorem elemC_hd {t : UInt8} {b : List UInt8} {h1 n : Nat} {ok : Bool} (h : headB b = (h1, n, ok)) (hb : ¬ (ok = true ∧ h1 + n ≤ b.length)) : elemC t (some (t :: b)) = (none, none) := by
 refine elemC_bad ?_
 show (if t = t then (if (headB b).2.2 = true ∧ (headB b).1 + (headB b).2.1 ≤ b.length then some ((b.drop (headB b).1).take (headB b).2.1, b.drop ((headB b).1 + (headB b).2.1)) else none) else none) = none
 rw [if_pos rfl, h]
 exact if_neg hb
theorem elemC_hy {t : UInt8} {b : List UInt8} {h1 n : Nat} (h : headB b = (h1, n, true)) (hb : h1 + n ≤ b.length) : elemC t (some (t :: b)) = (some (b.drop (h1 + n)), some ((b.drop h1).take n)) := by
 show (match elemB t (t :: b) with | none => (none, none) | some (x, r) => (some r, some x)) = _
 have e : elemB t (t :: b) = some ((b.drop h1).take n, b.drop (h1 + n)) := by
  show (if t = t then (if (headB b).2.2 = true ∧ (headB b).1 + (headB b).2.1 ≤ b.length then some ((b.drop (headB b).1).take (headB b).2.1, b.drop ((headB b).1 + (headB b).2.1)) else none) else none) = _
  rw [if_pos rfl, h]
  exact if_pos ⟨rfl, hb⟩
 rw [e]
theorem elemC_f {t : UInt8} {b : List UInt8} (h : (headB b).2.2 = false) : elemC t (some (t :: b)) = (none, none) := by
 refine elemC_bad ?_
 show (if t = t then (if (headB b).2.2 = true ∧ (headB b).1 + (headB b).2.1 ≤ b.length then some ((b.drop (headB b).1).take (headB b).2.1, b.drop ((headB b).1 + (headB b).2.1)) else none) else none) = none
 rw [if_pos rfl]
 exact if_neg (fun hh => by rw [h] at hh; cases hh.1)
theorem lenB_1 {n : Nat} (h : n < 128) : (lenB n).length = 1 := by unfold lenB; rw [if_pos h]; rfl
theorem lenB_2 {n : Nat} (h : 128 ≤ n) (h2 : n < 256) : (lenB n).length = 2 := by unfold lenB; rw [if_neg (by omega), if_pos (by omega)]; rfl
theorem lenB_3 {n : Nat} (h : 256 ≤ n) : (lenB n).length = 3 := by unfold lenB; rw [if_neg (by omega), if_neg (by omega)]; rfl
theorem c116 (c : Nat) (tag : UInt8) (s : Option (List UInt8)) (H : PH) (hc : rcur H c s) (hl : ∀ l, s = some l → l.length ≤ 140737488355328) :
  CallOk prog 116 [.ptr (some (c, 0)), byteC tag] H fun r H' => (∃ o, r = slo ((elemC tag s).2.getD []) o) ∧ Upd (· = c) H H' ∧ rcur H' c (elemC tag s).1 := by
 obtain ⟨b, v, hc0, hx⟩ := id hc
 (refine fnS (imm := imm116) ttL_ok func116 ?_; (conv => whnf))
 ((conv in (_[_]?) => tactic => exact hc0); (conv => whnf))
 have fin : ∀ (q : Option (List UInt8) × Option (List UInt8)), q = (none, none) → ∀ o', (∃ o, PV.slice 0 [] o' = slo (q.2.getD []) o) ∧ Upd (· = c) H (H.set c ⟨148, [sl b, .bool true], v + 1⟩) ∧ rcur (H.set c ⟨148, [sl b, .bool true], v + 1⟩) c q.1 := fun q hq o' => by
  subst hq
  exact ⟨⟨o', rfl⟩, ((Upd.refl H).set (X := (· = c)) (.inl rfl) _), b, v + 1, get_set hc0, fun l h => by cases h⟩
 cases s with
 | none =>
  ((conv in (_[_]?) => tactic => exact hc0); (conv => whnf))
  ((conv in (_[_]?) => tactic => exact hc0); (conv => whnf))
  exact fin _ rfl _
 | some l =>
  have hb := hx l rfl
  subst hb
  have hll := hl b rfl
  ((conv in (_[_]?) => tactic => exact hc0); (conv => whnf))
  match b, hc0, hll with
  | [], hc0, _ =>
   refine ⟨fun _ => ?_, fun h => absurd (by decide) h⟩
   conv => whnf
   ((conv in (_[_]?) => tactic => exact hc0); (conv => whnf))
   exact fin _ rfl _
  | [t], hc0, _ =>
   refine ⟨fun _ => ?_, fun h => absurd (by show ((1 : Nat) : Int) < 2; decide) h⟩
   conv => whnf
   ((conv in (_[_]?) => tactic => exact hc0); (conv => whnf))
   refine fin _ ?_ _
   by_cases h : t = tag
   ·subst h; exact elemC_hd (h1 := 0) (n := 0) (ok := false) rfl (fun hh => by cases hh.1)
   ·exact elemC_ne h
  | t :: y :: r, hc0, hll =>
   have hll : r.length + 2 ≤ 140737488355328 := hll
   refine ⟨fun h => absurd h (by simp; omega), fun _ => ?_⟩
   conv => whnf
   have i0 : (0 : Int) ≤ 0 ∧ (0 : Int) < (((t :: y :: r).length : Nat) : Int) := ⟨by decide, by simp; omega⟩
   have i1 : (0 : Int) ≤ 1 ∧ (1 : Int) < (((t :: y :: r).length : Nat) : Int) := ⟨by decide, by simp; omega⟩
   refine ⟨i0, [byteC t], at1 (k := 0 * 1) rfl, ?_⟩
   conv => whnf
   refine ⟨fun ht => ?_, fun ht => ?_⟩
   rotate_left
   ·have ht : ¬ t = tag := fun e => ht (show (t.toNat : Int) = (tag.toNat : Int) by rw [e])
    conv => whnf
    ((conv in (_[_]?) => tactic => exact hc0); (conv => whnf))
    exact fin _ (elemC_ne ht) _
   have ht : t = tag := by
    have ht : (t.toNat : Int) = (tag.toNat : Int) := ht
    exact UInt8.toNat_inj.1 (by omega)
   subst ht
   conv => whnf
   refine ⟨i1, [byteC y], at1 (k := 1 * 1) rfl, ?_⟩
   conv => whnf
   refine ⟨i1, [byteC y], at1 (k := 1 * 1) rfl, ?_⟩
   conv => whnf
   refine ⟨fun h6 => ?_, fun h6 => ?_⟩
   ·have h6 : (y.toNat : Int) = 129 := h6
    conv => whnf
    match r, hc0, hll, i0, i1 with
    | [], hc0, hll, i0, i1 =>
     refine ⟨fun h => absurd h (by show ¬ ((2 : Nat) : Int) ≥ 3; decide), fun _ => ?_⟩
     conv => whnf
     refine ⟨i1, [byteC y], at1 (k := 1 * 1) rfl, ?_⟩
     conv => whnf
     refine ⟨fun h => absurd (show (y.toNat : Int) = 130 from h) (by omega), fun _ => ?_⟩
     conv => whnf
     refine ⟨i1, [byteC y], at1 (k := 1 * 1) rfl, ?_⟩
     conv => whnf
     refine ⟨fun _ => ?_, fun h => absurd (show (128 : Int) ≤ (y.toNat : Int) by omega) h⟩
     conv => whnf
     ((conv in (_[_]?) => tactic => exact hc0); (conv => whnf))
     exact fin _ (elemC_f (head_bad y [] (by omega) (fun hh => hh.2 rfl) (fun hh => by omega))) _
    | z :: r, hc0, hll, i0, i1 =>
     have i2 : (0 : Int) ≤ 2 ∧ (2 : Int) < (((t :: y :: z :: r).length : Nat) : Int) := ⟨by decide, by simp; omega⟩
     have hll : r.length + 1 + 2 ≤ 140737488355328 := hll
     refine ⟨fun _ => ?_, fun h => absurd (show (((t :: y :: z :: r).length : Nat) : Int) ≥ 3 by simp; omega) h⟩
     conv => whnf
     refine ⟨i2, [byteC z], at1 (k := 2 * 1) rfl, ?_⟩
     conv => whnf
     have hz := z.toNat_lt
     rw [show IntKind.i64.wrap (z.toNat : Int) = (z.toNat : Int) from wrapB1 z]
     have hd0 := head_81 y z r (by omega)
     have hL : (((t :: y :: z :: r).length : Nat) : Int) = (((y :: z :: r).length + 1 : Nat) : Int) := rfl
     have hl2 : 2 ≤ (y :: z :: r).length := by simp <;> omega
     have hl3 : (y :: z :: r).length ≤ 140737488355327 := by simp <;> omega
     have hnw : IntKind.i64.wrap ((((t :: y :: z :: r).length : Nat) : Int) - 3) = (((t :: y :: z :: r).length : Nat) : Int) - 3 := by rw [wrap64 (by omega) (by omega)]
     have hn : z.toNat ≤ 65535 := by omega
     refine ⟨fun hg => ?_, fun hg => ?_⟩
     ·have hg : ((z.toNat : Nat) : Int) > IntKind.i64.wrap ((((t :: y :: z :: r).length : Nat) : Int) - 3) := hg
      rw [hnw, hL] at hg
      conv => whnf
      ((conv in (_[_]?) => tactic => exact hc0); (conv => whnf))
      by_cases hz8 : 128 ≤ z.toNat
      ·exact fin _ (elemC_hd (hd0.trans (if_pos hz8)) (fun hh => by have := hh.2; omega)) _
      ·exact fin _ (elemC_f (by rw [hd0, if_neg hz8])) _
     have hg : ¬ ((z.toNat : Nat) : Int) > IntKind.i64.wrap ((((t :: y :: z :: r).length : Nat) : Int) - 3) := hg
     rw [hnw, hL] at hg
     conv => whnf
     refine callK_pure (c182 (z.toNat)) ?_
     conv => whnf
     have ew : IntKind.i64.wrap (3 - 1) = 2 := by decide
     refine ⟨fun hs => ?_, fun hs => ?_⟩
     rotate_left
     ·have hs : ¬ (((lenB (z.toNat)).length : Nat) : Int) = IntKind.i64.wrap (3 - 1) := hs
      rw [ew] at hs
      conv => whnf
      ((conv in (_[_]?) => tactic => exact hc0); (conv => whnf))
      have hz8 : ¬ 128 ≤ z.toNat := fun h8 => hs (by rw [lenB_2 h8 hz]; rfl)
      exact fin _ (elemC_f (by rw [hd0, if_neg hz8])) _
     have hs : (((lenB (z.toNat)).length : Nat) : Int) = IntKind.i64.wrap (3 - 1) := hs
     rw [ew] at hs
     have hz8 : 128 ≤ z.toNat := Nat.le_of_not_lt fun h8 => by rw [lenB_1 h8] at hs; exact absurd hs (by decide)
     conv => whnf
     have haw : IntKind.i64.wrap (3 + ((z.toNat : Nat) : Int)) = ((3 + (z.toNat) : Nat) : Int) := by rw [wrap64 (by omega) (by omega)]; omega
     have hfit : 2 + (z.toNat) ≤ (y :: z :: r).length := by omega
     refine ⟨⟨by show (0 : Int) ≤ IntKind.i64.wrap (3 + ((z.toNat : Nat) : Int)); rw [haw]; omega, by show IntKind.i64.wrap (3 + ((z.toNat : Nat) : Int)) ≤ (((t :: y :: z :: r).length : Nat) : Int); rw [haw]; omega, by show (((t :: y :: z :: r).length : Nat) : Int) ≤ (((t :: y :: z :: r).length : Nat) : Int); omega⟩, ?_⟩
     conv => whnf
     ((conv in (_[_]?) => tactic => exact hc0); (conv => whnf))
     refine ⟨⟨by decide, by show (3 : Int) ≤ IntKind.i64.wrap (3 + ((z.toNat : Nat) : Int)); rw [haw]; omega, by show IntKind.i64.wrap (3 + ((z.toNat : Nat) : Int)) ≤ (((t :: y :: z :: r).length : Nat) : Int); rw [haw]; omega⟩, ?_⟩
     conv => whnf
     have e1 := sl_cut (t :: y :: z :: r) 3 (IntKind.i64.wrap (3 + ((z.toNat : Nat) : Int))) ⟨by decide, by rw [haw]; omega, by rw [haw]; omega⟩
     have e2 := sl_cut (t :: y :: z :: r) (IntKind.i64.wrap (3 + ((z.toNat : Nat) : Int))) (((t :: y :: z :: r).length : Nat) : Int) ⟨by rw [haw]; omega, by rw [haw]; omega, by omega⟩
     have f1 : ((t :: y :: z :: r).take (IntKind.i64.wrap (3 + ((z.toNat : Nat) : Int))).toNat).drop (3 : Int).toNat = ((y :: z :: r).drop 2).take (z.toNat) := by
      rw [haw, Int.toNat_natCast, List.drop_take]
      show ((t :: y :: z :: r).drop 3).take (3 + (z.toNat) - 3) = _
      rw [show 3 + (z.toNat) - 3 = z.toNat by omega]; rfl
     have f2 : ((t :: y :: z :: r).take (((t :: y :: z :: r).length : Nat) : Int).toNat).drop (IntKind.i64.wrap (3 + ((z.toNat : Nat) : Int))).toNat = (y :: z :: r).drop (2 + (z.toNat)) := by
      rw [haw, Int.toNat_natCast, Int.toNat_natCast, List.take_length, show 3 + (z.toNat) = (2 + (z.toNat)) + 1 by omega]; rfl
     have hel := elemC_hy (t := t) (hd0.trans (if_pos hz8)) hfit
     rw [hel]
     exact ⟨⟨none, e1.trans (by rw [f1]; rfl)⟩, ((Upd.refl H).set (X := (· = c)) (.inl rfl) _), _, v + 1, (get_set hc0).trans (congrArg (fun x => some (PObj.mk 148 [x, .bool false] (v + 1))) (e2.trans (by rw [f2]))), fun l h => Option.some.inj h⟩
   have h6 : ¬ (y.toNat : Int) = 129 := h6
   conv => whnf
   refine ⟨i1, [byteC y], at1 (k := 1 * 1) rfl, ?_⟩
   conv => whnf
   refine ⟨fun h8 => ?_, fun h8 => ?_⟩
   ·have h8 : (y.toNat : Int) = 130 := h8
    conv => whnf
    match r, hc0, hll, i0, i1 with
    | [], hc0, hll, i0, i1 =>
     refine ⟨fun h => absurd h (by show ¬ ((2 : Nat) : Int) ≥ 4; decide), fun _ => ?_⟩
     conv => whnf
     refine ⟨i1, [byteC y], at1 (k := 1 * 1) rfl, ?_⟩
     conv => whnf
     refine ⟨fun _ => ?_, fun h => absurd (show (128 : Int) ≤ (y.toNat : Int) by omega) h⟩
     conv => whnf
     ((conv in (_[_]?) => tactic => exact hc0); (conv => whnf))
     exact fin _ (elemC_f (head_bad y [] (by omega) (fun hh => by omega) (fun hh => absurd hh.2 (by decide)))) _
    | [z], hc0, hll, i0, i1 =>
     refine ⟨fun h => absurd h (by show ¬ ((3 : Nat) : Int) ≥ 4; decide), fun _ => ?_⟩
     conv => whnf
     refine ⟨i1, [byteC y], at1 (k := 1 * 1) rfl, ?_⟩
     conv => whnf
     refine ⟨fun _ => ?_, fun h => absurd (show (128 : Int) ≤ (y.toNat : Int) by omega) h⟩
     conv => whnf
     ((conv in (_[_]?) => tactic => exact hc0); (conv => whnf))
     exact fin _ (elemC_f (head_bad y [z] (by omega) (fun hh => by omega) (fun hh => absurd hh.2 (by show ¬ 2 ≤ 1; decide)))) _
    | z :: w :: r, hc0, hll, i0, i1 =>
     have i2 : (0 : Int) ≤ 2 ∧ (2 : Int) < (((t :: y :: z :: w :: r).length : Nat) : Int) := ⟨by decide, by simp; omega⟩
     have i3 : (0 : Int) ≤ 3 ∧ (3 : Int) < (((t :: y :: z :: w :: r).length : Nat) : Int) := ⟨by decide, by simp; omega⟩
     have hll : r.length + 1 + 1 + 2 ≤ 140737488355328 := hll
     have hz := z.toNat_lt
     have hw := w.toNat_lt
     refine ⟨fun _ => ?_, fun h => absurd (show (((t :: y :: z :: w :: r).length : Nat) : Int) ≥ 4 by simp; omega) h⟩
     conv => whnf
     refine drawK_pure2 (by kernel_rfl) ?_
     conv => whnf
     (refine dS ?_; (conv => whnf))
     refine ⟨.elem [byteC z], ⟨i2, [byteC z], at1 (k := 2 * 1) rfl, rfl, rfl, trivial⟩, ?_⟩
     conv => whnf
     iterate 2 (refine dS ?_; (conv => whnf))
     refine ⟨_, ⟨by decide, rfl, rfl, trivial⟩, ?_⟩
     conv => whnf
     (refine dS ?_; (conv => whnf))
     refine ⟨.elem [byteC w], ⟨i3, [byteC w], at1 (k := 3 * 1) rfl, rfl, rfl, trivial⟩, ?_⟩
     conv => whnf
     iterate 5 (refine dS ?_; (conv => whnf))
     have hor : ibits .or .i64 (ishl .i64 (IntKind.i64.wrap (z.toNat : Int)) 8) (IntKind.i64.wrap (w.toNat : Int)) = (((z.toNat * 256 + w.toNat) : Nat) : Int) := by
      rw [ishl8, wrapB1, wrapB1, wrap64 (by omega) (by omega)]
      exact or8 z.toNat w.toNat (by omega) hw
     rw [hor]
     have hd0 := head_82 y z w r (by omega)
     have hL : (((t :: y :: z :: w :: r).length : Nat) : Int) = (((y :: z :: w :: r).length + 1 : Nat) : Int) := rfl
     have hl2 : 3 ≤ (y :: z :: w :: r).length := by simp <;> omega
     have hl3 : (y :: z :: w :: r).length ≤ 140737488355327 := by simp <;> omega
     have hnw : IntKind.i64.wrap ((((t :: y :: z :: w :: r).length : Nat) : Int) - 4) = (((t :: y :: z :: w :: r).length : Nat) : Int) - 4 := by rw [wrap64 (by omega) (by omega)]
     have hn : (z.toNat * 256 + w.toNat) ≤ 65535 := by omega
     refine ⟨fun hg => ?_, fun hg => ?_⟩
     ·have hg : (((z.toNat * 256 + w.toNat) : Nat) : Int) > IntKind.i64.wrap ((((t :: y :: z :: w :: r).length : Nat) : Int) - 4) := hg
      rw [hnw, hL] at hg
      conv => whnf
      ((conv in (_[_]?) => tactic => exact hc0); (conv => whnf))
      by_cases hz8 : 0 < z.toNat
      ·exact fin _ (elemC_hd (hd0.trans (if_pos hz8)) (fun hh => by have := hh.2; omega)) _
      ·exact fin _ (elemC_f (by rw [hd0, if_neg hz8])) _
     have hg : ¬ (((z.toNat * 256 + w.toNat) : Nat) : Int) > IntKind.i64.wrap ((((t :: y :: z :: w :: r).length : Nat) : Int) - 4) := hg
     rw [hnw, hL] at hg
     conv => whnf
     refine callK_pure (c182 ((z.toNat * 256 + w.toNat))) ?_
     conv => whnf
     have ew : IntKind.i64.wrap (4 - 1) = 3 := by decide
     refine ⟨fun hs => ?_, fun hs => ?_⟩
     rotate_left
     ·have hs : ¬ (((lenB ((z.toNat * 256 + w.toNat))).length : Nat) : Int) = IntKind.i64.wrap (4 - 1) := hs
      rw [ew] at hs
      conv => whnf
      ((conv in (_[_]?) => tactic => exact hc0); (conv => whnf))
      have hz8 : ¬ 0 < z.toNat := fun h8 => hs (by rw [lenB_3 (by omega)]; rfl)
      exact fin _ (elemC_f (by rw [hd0, if_neg hz8])) _
     have hs : (((lenB ((z.toNat * 256 + w.toNat))).length : Nat) : Int) = IntKind.i64.wrap (4 - 1) := hs
     rw [ew] at hs
     have hz8 : 0 < z.toNat := Nat.pos_of_ne_zero fun h0 => by
      have h9 : (lenB (z.toNat * 256 + w.toNat)).length ≤ 2 := by
       by_cases h7 : w.toNat < 128
       ·rw [lenB_1 (by omega)]; decide
       ·rw [lenB_2 (by omega) (by omega)]; decide
      omega
     conv => whnf
     have haw : IntKind.i64.wrap (4 + (((z.toNat * 256 + w.toNat) : Nat) : Int)) = ((4 + ((z.toNat * 256 + w.toNat)) : Nat) : Int) := by rw [wrap64 (by omega) (by omega)]; omega
     have hfit : 3 + ((z.toNat * 256 + w.toNat)) ≤ (y :: z :: w :: r).length := by omega
     refine ⟨⟨by show (0 : Int) ≤ IntKind.i64.wrap (4 + (((z.toNat * 256 + w.toNat) : Nat) : Int)); rw [haw]; omega, by show IntKind.i64.wrap (4 + (((z.toNat * 256 + w.toNat) : Nat) : Int)) ≤ (((t :: y :: z :: w :: r).length : Nat) : Int); rw [haw]; omega, by show (((t :: y :: z :: w :: r).length : Nat) : Int) ≤ (((t :: y :: z :: w :: r).length : Nat) : Int); omega⟩, ?_⟩
     conv => whnf
     ((conv in (_[_]?) => tactic => exact hc0); (conv => whnf))
     refine ⟨⟨by decide, by show (4 : Int) ≤ IntKind.i64.wrap (4 + (((z.toNat * 256 + w.toNat) : Nat) : Int)); rw [haw]; omega, by show IntKind.i64.wrap (4 + (((z.toNat * 256 + w.toNat) : Nat) : Int)) ≤ (((t :: y :: z :: w :: r).length : Nat) : Int); rw [haw]; omega⟩, ?_⟩
     conv => whnf
     have e1 := sl_cut (t :: y :: z :: w :: r) 4 (IntKind.i64.wrap (4 + (((z.toNat * 256 + w.toNat) : Nat) : Int))) ⟨by decide, by rw [haw]; omega, by rw [haw]; omega⟩
     have e2 := sl_cut (t :: y :: z :: w :: r) (IntKind.i64.wrap (4 + (((z.toNat * 256 + w.toNat) : Nat) : Int))) (((t :: y :: z :: w :: r).length : Nat) : Int) ⟨by rw [haw]; omega, by rw [haw]; omega, by omega⟩
     have f1 : ((t :: y :: z :: w :: r).take (IntKind.i64.wrap (4 + (((z.toNat * 256 + w.toNat) : Nat) : Int))).toNat).drop (4 : Int).toNat = ((y :: z :: w :: r).drop 3).take ((z.toNat * 256 + w.toNat)) := by
      rw [haw, Int.toNat_natCast, List.drop_take]
      show ((t :: y :: z :: w :: r).drop 4).take (4 + ((z.toNat * 256 + w.toNat)) - 4) = _
      rw [show 4 + ((z.toNat * 256 + w.toNat)) - 4 = (z.toNat * 256 + w.toNat) by omega]; rfl
     have f2 : ((t :: y :: z :: w :: r).take (((t :: y :: z :: w :: r).length : Nat) : Int).toNat).drop (IntKind.i64.wrap (4 + (((z.toNat * 256 + w.toNat) : Nat) : Int))).toNat = (y :: z :: w :: r).drop (3 + ((z.toNat * 256 + w.toNat))) := by
      rw [haw, Int.toNat_natCast, Int.toNat_natCast, List.take_length, show 4 + ((z.toNat * 256 + w.toNat)) = (3 + ((z.toNat * 256 + w.toNat))) + 1 by omega]; rfl
     have hel := elemC_hy (t := t) (hd0.trans (if_pos hz8)) hfit
     rw [hel]
     exact ⟨⟨none, e1.trans (by rw [f1]; rfl)⟩, ((Upd.refl H).set (X := (· = c)) (.inl rfl) _), _, v + 1, (get_set hc0).trans (congrArg (fun x => some (PObj.mk 148 [x, .bool false] (v + 1))) (e2.trans (by rw [f2]))), fun l h => Option.some.inj h⟩
   have h8 : ¬ (y.toNat : Int) = 130 := h8
   conv => whnf
   refine ⟨i1, [byteC y], at1 (k := 1 * 1) rfl, ?_⟩
   conv => whnf
   refine ⟨fun h9 => ?_, fun h9 => ?_⟩
   ·have h9 : (128 : Int) ≤ (y.toNat : Int) := h9
    conv => whnf
    ((conv in (_[_]?) => tactic => exact hc0); (conv => whnf))
    exact fin _ (elemC_f (head_bad y r (by omega) (fun hh => by omega) (fun hh => by omega))) _
   have h9 : ¬ (128 : Int) ≤ (y.toNat : Int) := h9
   conv => whnf
   have hy := y.toNat_lt
   rw [show IntKind.i64.wrap (y.toNat : Int) = (y.toNat : Int) from wrapB1 y]
   have hd0 := head_lt y r (by omega)
   have hL : (((t :: y :: r).length : Nat) : Int) = (((y :: r).length + 1 : Nat) : Int) := rfl
   have hl2 : 1 ≤ (y :: r).length := by simp <;> omega
   have hl3 : (y :: r).length ≤ 140737488355327 := by simp <;> omega
   have hnw : IntKind.i64.wrap ((((t :: y :: r).length : Nat) : Int) - 2) = (((t :: y :: r).length : Nat) : Int) - 2 := by rw [wrap64 (by omega) (by omega)]
   have hn : y.toNat ≤ 65535 := by omega
   refine ⟨fun hg => ?_, fun hg => ?_⟩
   ·have hg : ((y.toNat : Nat) : Int) > IntKind.i64.wrap ((((t :: y :: r).length : Nat) : Int) - 2) := hg
    rw [hnw, hL] at hg
    conv => whnf
    ((conv in (_[_]?) => tactic => exact hc0); (conv => whnf))
    exact fin _ (elemC_hd (hd0) (fun hh => by have := hh.2; omega)) _
   have hg : ¬ ((y.toNat : Nat) : Int) > IntKind.i64.wrap ((((t :: y :: r).length : Nat) : Int) - 2) := hg
   rw [hnw, hL] at hg
   conv => whnf
   refine callK_pure (c182 (y.toNat)) ?_
   conv => whnf
   have ew : IntKind.i64.wrap (2 - 1) = 1 := by decide
   refine ⟨fun hs => ?_, fun hs => ?_⟩
   rotate_left
   ·have hs : ¬ (((lenB (y.toNat)).length : Nat) : Int) = IntKind.i64.wrap (2 - 1) := hs
    rw [ew] at hs
    conv => whnf
    ((conv in (_[_]?) => tactic => exact hc0); (conv => whnf))
    exact absurd (by rw [lenB_1 (by omega)]; rfl) hs
   have hs : (((lenB (y.toNat)).length : Nat) : Int) = IntKind.i64.wrap (2 - 1) := hs
   rw [ew] at hs
   skip
   conv => whnf
   have haw : IntKind.i64.wrap (2 + ((y.toNat : Nat) : Int)) = ((2 + (y.toNat) : Nat) : Int) := by rw [wrap64 (by omega) (by omega)]; omega
   have hfit : 1 + (y.toNat) ≤ (y :: r).length := by omega
   refine ⟨⟨by show (0 : Int) ≤ IntKind.i64.wrap (2 + ((y.toNat : Nat) : Int)); rw [haw]; omega, by show IntKind.i64.wrap (2 + ((y.toNat : Nat) : Int)) ≤ (((t :: y :: r).length : Nat) : Int); rw [haw]; omega, by show (((t :: y :: r).length : Nat) : Int) ≤ (((t :: y :: r).length : Nat) : Int); omega⟩, ?_⟩
   conv => whnf
   ((conv in (_[_]?) => tactic => exact hc0); (conv => whnf))
   refine ⟨⟨by decide, by show (2 : Int) ≤ IntKind.i64.wrap (2 + ((y.toNat : Nat) : Int)); rw [haw]; omega, by show IntKind.i64.wrap (2 + ((y.toNat : Nat) : Int)) ≤ (((t :: y :: r).length : Nat) : Int); rw [haw]; omega⟩, ?_⟩
   conv => whnf
   have e1 := sl_cut (t :: y :: r) 2 (IntKind.i64.wrap (2 + ((y.toNat : Nat) : Int))) ⟨by decide, by rw [haw]; omega, by rw [haw]; omega⟩
   have e2 := sl_cut (t :: y :: r) (IntKind.i64.wrap (2 + ((y.toNat : Nat) : Int))) (((t :: y :: r).length : Nat) : Int) ⟨by rw [haw]; omega, by rw [haw]; omega, by omega⟩
   have f1 : ((t :: y :: r).take (IntKind.i64.wrap (2 + ((y.toNat : Nat) : Int))).toNat).drop (2 : Int).toNat = ((y :: r).drop 1).take (y.toNat) := by
    rw [haw, Int.toNat_natCast, List.drop_take]
    show ((t :: y :: r).drop 2).take (2 + (y.toNat) - 2) = _
    rw [show 2 + (y.toNat) - 2 = y.toNat by omega]; rfl
   have f2 : ((t :: y :: r).take (((t :: y :: r).length : Nat) : Int).toNat).drop (IntKind.i64.wrap (2 + ((y.toNat : Nat) : Int))).toNat = (y :: r).drop (1 + (y.toNat)) := by
    rw [haw, Int.toNat_natCast, Int.toNat_natCast, List.take_length, show 2 + (y.toNat) = (1 + (y.toNat)) + 1 by omega]; rfl
   have hel := elemC_hy (t := t) (hd0) hfit
   rw [hel]
   exact ⟨⟨none, e1.trans (by rw [f1]; rfl)⟩, ((Upd.refl H).set (X := (· = c)) (.inl rfl) _), _, v + 1, (get_set hc0).trans (congrArg (fun x => some (PObj.mk 148 [x, .bool false] (v + 1))) (e2.trans (by rw [f2]))), fun l h => Option.some.inj h⟩
theorem elemC_both (tag : UInt8) (s : Option (List UInt8)) : (elemC tag s).1.isNone = (elemC tag s).2.isNone := by
 cases s with
 | none => rfl
 | some l =>
  have e : elemC tag (some l) = (match elemB tag l with | none => (none, none) | some (x, r) => (some r, some x)) := rfl
  rw [e]
  cases elemB tag l with
  | none => rfl
  | some p => rfl
theorem c116s (c : Nat) (tag : UInt8) (s : Option (List UInt8)) (H : PH) (hc : rcur H c s) (hl : ∀ l, s = some l → l.length ≤ 140737488355328) :
  CallOk prog 116 [.ptr (some (c, 0)), byteC tag] H fun r H' => r = sl ((elemC tag s).2.getD []) ∧ Upd (· = c) H H' ∧ rcur H' c (elemC tag s).1 :=
 (c116 c tag s H hc hl).dem fun r H' ⟨⟨o, e⟩, h⟩ => by subst e; exact ⟨(fun cs e => by cases e), rfl, h⟩
theorem c90 (c : Nat) (s : Option (List UInt8)) (H : PH) (hc : rcur H c s) (hl : ∀ l, s = some l → l.length ≤ 140737488355328) :
  CallOk prog 90 [.ptr (some (c, 0))] H fun r H' => r = sl (octC s).2 ∧ Upd (· = c) H H' ∧ rcur H' c (octC s).1 := by
 (refine fnS (imm := imm90) ttL_ok func90 ?_; (conv => whnf))
 refine callK_of (c116s c 4 s H hc hl) ?_
 rintro _ H1 ⟨rfl, h1, h2⟩
 conv => whnf
 exact ⟨rfl, h1, h2⟩
theorem c60 (c : Nat) (s : Option (List UInt8)) (H : PH) (hc : rcur H c s) (hl : ∀ l, s = some l → l.length ≤ 140737488355328) :
  CallOk prog 60 [.ptr (some (c, 0))] H fun r H' => r = .str (txtC s).2 ∧ Upd (· = c) H H' ∧ rcur H' c (txtC s).1 := by
 (refine fnS (imm := imm60) ttL_ok func60 ?_; (conv => whnf))
 refine callK_of (c116s c 27 s H hc hl) ?_
 rintro _ H1 ⟨rfl, h1, h2⟩
 conv => whnf
 refine ⟨_, ⟨rfl, rfl⟩, ?_⟩
 conv => whnf
 exact ⟨rfl, h1, h2⟩
theorem c57 (c : Nat) (tag : UInt8) (s : Option (List UInt8)) (H : PH) (hc : rcur H c s) (hl : ∀ l, s = some l → l.length ≤ 140737488355328) :
  CallOk prog 57 [.ptr (some (c, 0)), byteC tag] H fun r H' => ∃ d, r = .ptr (some (d, 0)) ∧ H.length ≤ d ∧ Upd (· = c) H H' ∧ rcur H' c (elemC tag s).1 ∧ rcur H' d (elemC tag s).2 := by
 (refine fnS (imm := imm57) ttL_ok func57 ?_; (conv => whnf))
 refine callK_of (c116s c tag s H hc hl) ?_
 rintro _ H1 ⟨rfl, h1, h2⟩
 obtain ⟨b, v, hb, _⟩ := id h2
 conv => whnf
 ((conv in (_[_]?) => tactic => exact hb); (conv => whnf))
 refine ⟨H1.length, rfl, h1.1, h1.push _, h2.keep (X := fun _ => False) ((Upd.refl H1).push _) (fun f => f), (elemC tag s).2.getD [], 0, ?_, fun l hl => by rw [hl]; rfl⟩
 rw [← elemC_both]
 exact get_last _ _
def wholeB : Option (List UInt8) → Bool
 | some [] => true
 | _ => false
theorem c117 (c : Nat) (s : Option (List UInt8)) (H : PH) (hc : rcur H c s) : CallOk prog 117 [.ptr (some (c, 0))] H fun r H' => r = .bool (wholeB s) ∧ H' = H := by
 obtain ⟨b, v, hb, hx⟩ := hc
 (refine fnS (imm := imm117) ttL_ok func117 ?_; (conv => whnf))
 ((conv in (_[_]?) => tactic => exact hb); (conv => whnf))
 cases s with
 | none =>
  conv => whnf
  exact ⟨rfl, rfl⟩
 | some l =>
  have := hx l rfl
  subst this
  conv => whnf
  ((conv in (_[_]?) => tactic => exact hb); (conv => whnf))
  cases b with
  | nil =>
   refine ⟨fun _ => ?_, fun h => absurd rfl h⟩
   conv => whnf
   exact ⟨rfl, rfl⟩
  | cons x t =>
   refine ⟨fun h => absurd h (by simp <;> omega), fun _ => ?_⟩
   conv => whnf
   exact ⟨rfl, rfl⟩
def stepR (n : Int) (x : UInt8) : Int := ibits .or .i64 (ishl .i64 n 8) (IntKind.i64.wrap (x.toNat : Int))
def numR (l : List UInt8) : Int := l.foldl stepR 0
def okR (p : List UInt8) : Bool := decide (p ≠ []) && (decide (p.length ≤ 9) && (decide (0 ≤ numR p) && (decide (numR p ≤ 4611686018427387904) && decide (intE (numR p) = wrapB 2 p))))
def rintR (s' : Option (List UInt8)) : Option (List UInt8) → Option (List UInt8) × Int
 | none => (none, 0)
 | some p => if okR p = true then (s', numR p) else (none, 0)
def rintC (s : Option (List UInt8)) : Option (List UInt8) × Int := rintR (elemC 2 s).1 (elemC 2 s).2
theorem numR_fold : ∀ (l : List UInt8) (a : Nat), l.foldl stepV a ≤ 4611686018427387904 → l.foldl stepR (a : Int) = ((l.foldl stepV a : Nat) : Int)
 | [], a, _ => rfl
 | x :: l, a, h => by
  have h : l.foldl stepV (stepV a x) ≤ 4611686018427387904 := h
  have h1 := fold_ge l (stepV a x)
  have h2 : stepV a x = a * 256 + x.toNat := rfl
  have hx := x.toNat_lt
  show l.foldl stepR (stepR (a : Int) x) = ((l.foldl stepV (stepV a x) : Nat) : Int)
  rw [← numR_fold l (stepV a x) h]
  congr 1
  unfold stepR
  rw [ishl8, wrapB1, wrap64 (by omega) (by omega), show (a : Int) * 256 = ((a * 256 : Nat) : Int) by omega, or8 a x.toNat (by omega) hx, h2]
theorem rintC_wrap (n : Int) (h0 : 0 ≤ n) (h1 : n ≤ 4611686018427387904) (rest : List UInt8) : rintC (some (intE n ++ rest)) = (some rest, n) := by
 have hc : clampI n = n.toNat := by unfold clampI; omega
 obtain ⟨k1, k2, k3⟩ := intB_ok n.toNat (by omega)
 have hw : numR (intB n.toNat) = n := by
  show (intB n.toNat).foldl stepR ((0 : Nat) : Int) = n
  have e : (intB n.toNat).foldl stepV 0 = n.toNat := k2
  rw [numR_fold _ 0 (by rw [e]; omega), e]; omega
 have hok : okR (intB n.toNat) = true := by
  have hne : intB n.toNat ≠ [] := fun e => by rw [e] at k1; cases k1
  unfold okR
  rw [hw, decide_eq_true hne, decide_eq_true (show (intB n.toNat).length ≤ 9 by omega), decide_eq_true h0, decide_eq_true h1]
  unfold intE
  rw [hc, decide_eq_true rfl]; rfl
 have e : elemC 2 (some (intE n ++ rest)) = (some rest, some (intB n.toNat)) := by
  unfold intE
  rw [hc]
  exact elemC_wrap 2 _ rest (by omega)
 unfold rintC
 rw [e]
 show (if okR (intB n.toNat) = true then (some rest, numR (intB n.toNat)) else (none, 0)) = _
 rw [if_pos hok, hw]
theorem c61 (c : Nat) (s : Option (List UInt8)) (H : PH) (hc : rcur H c s) (hl : ∀ l, s = some l → l.length ≤ 140737488355328) :
  CallOk prog 61 [.ptr (some (c, 0))] H fun r H' => r = .int .i64 (rintC s).2 ∧ Upd (· = c) H H' ∧ rcur H' c (rintC s).1 := by
 (refine fnS (imm := imm61) ttL_ok func61 ?_; (conv => whnf))
 refine callK_of (c116s c 2 s H hc hl) ?_
 rintro _ H1 ⟨rfl, h1, h2⟩
 obtain ⟨b, v, hb, hx⟩ := id h2
 unfold rintC
 have hbo := elemC_both 2 s
 have hl2 := (elemC_len (tag := 2) hl).2
 revert h2 hb hx hbo hl2
 generalize elemC 2 s = q
 obtain ⟨s', p⟩ := q
 intro h2 hb hx hbo hl2
 have fin : ∀ q : Option (List UInt8) × Int, q = (none, 0) → PV.int .i64 0 = PV.int .i64 q.2 ∧ Upd (· = c) H (H1.set c ⟨148, [sl b, .bool true], v + 1⟩) ∧ rcur (H1.set c ⟨148, [sl b, .bool true], v + 1⟩) c q.1 := fun q hq => by
  subst hq
  exact ⟨rfl, h1.set (.inl rfl) _, b, v + 1, get_set hb, fun l h => by cases h⟩
 conv => whnf
 ((conv in (_[_]?) => tactic => exact hb); (conv => whnf))
 cases p with
 | none =>
  cases s' with
  | some _ => cases hbo
  | none =>
   conv => whnf
   ((conv in (_[_]?) => tactic => exact hb); (conv => whnf))
   exact fin _ rfl
 | some p =>
  cases s' with
  | none => cases hbo
  | some s' =>
   have hp := (hl2 p rfl).2
   have hno : okR p = false → rintR (some s') (some p) = (none, 0) := fun h => if_neg (by rw [h]; decide)
   have hpl : (PV.int .i64 (((some p).getD [] : List UInt8).length : Int)) = .int .i64 (p.length : Int) := rfl
   conv => whnf
   refine ⟨fun h => ?_, fun h => ?_⟩
   ·conv => whnf
    ((conv in (_[_]?) => tactic => exact hb); (conv => whnf))
    have h : (p.length : Int) = 0 := h
    have e : p = [] := List.length_eq_zero_iff.1 (by omega)
    exact fin _ (hno (by rw [e]; rfl))
   have h : ¬ (p.length : Int) = 0 := h
   have hne : p ≠ [] := fun e => h (by rw [e]; rfl)
   conv => whnf
   refine ⟨fun h9 => ?_, fun h9 => ?_⟩
   ·have h9 : (p.length : Int) > 9 := h9
    conv => whnf
    ((conv in (_[_]?) => tactic => exact hb); (conv => whnf))
    exact fin _ (hno (by unfold okR; rw [decide_eq_false (show ¬ p.length ≤ 9 by omega), Bool.false_and, Bool.and_false]))
   have h9 : ¬ (p.length : Int) > 9 := h9
   conv => whnf
   refine loopK_of RwS (fun x => [(0, .ptr (some (c, 0))), (3, sl p), (5, .int .i64 x.i), (4, .int .i64 (numR (p.take x.i)))]) (fun _ => H1) (fun x => x.i ≤ p.length) (fun x => p.length - x.i)
    ⟨⟨0⟩, Nat.zero_le _, ⟨rfl, rfl, rfl, rfl, trivial⟩, rfl⟩ ?_
   rintro ⟨i⟩ hi
   have hi : i ≤ p.length := hi
   conv => whnf
   refine ⟨fun h5 => ?_, fun h5 => ?_⟩
   ·conv => whnf
    have h5 : (i : Int) < (p.length : Int) := h5
    have hlt : i < p.length := by omega
    refine ⟨by decide, ?_⟩
    conv => whnf
    refine ⟨⟨by show (0 : Int) ≤ (i : Int); omega, h5⟩, [byteC p[i]], at1 ?_, ?_⟩
    ·show (p.map byteC)[(i : Int).toNat * 1]? = _
     rw [Int.toNat_natCast, Nat.mul_one, List.getElem?_map, List.getElem?_eq_getElem hlt]; rfl
    conv => whnf
    refine ⟨⟨i + 1⟩, hlt, ⟨rfl, rfl, ?_, ?_, trivial⟩, rfl, by show p.length - (i + 1) < p.length - i; omega⟩
    ·show PV.int _ (IntKind.i64.wrap ((i : Int) + 1)) = PV.int _ ((i + 1 : Nat) : Int)
     rw [wrap64 (by omega) (by omega)]; rfl
    ·rw [List.take_succ_eq_append_getElem hlt]
     unfold numR
     rw [List.foldl_append]
     rfl
   ·conv => whnf
    have h5 : ¬ (i : Int) < (p.length : Int) := h5
    rw [List.take_of_length_le (l := p) (by omega)]
    refine drawK_pure2 (by kernel_rfl) ?_
    conv => whnf
    (refine dS ?_; (conv => whnf))
    by_cases n0 : numR p < 0
    ·refine ⟨.bool true, ?_, ?_⟩
     ·conv => whnf
      exact ⟨fun _ => ⟨rfl, rfl, trivial⟩, fun h => (h n0).elim⟩
     conv => whnf
     iterate 13 (refine dS ?_; (conv => whnf))
     ((conv in (_[_]?) => tactic => exact hb); (conv => whnf))
     exact fin _ (hno (by unfold okR; rw [decide_eq_false (show ¬ 0 ≤ numR p by omega), Bool.false_and, Bool.and_false, Bool.and_false]))
    refine ⟨.bool false, ?_, ?_⟩
    ·conv => whnf
     exact ⟨fun h => (n0 h).elim, fun _ => ⟨rfl, rfl, trivial⟩⟩
    conv => whnf
    iterate 2 (refine dS ?_; (conv => whnf))
    by_cases n1 : numR p > 4611686018427387904
    ·refine ⟨.bool true, ?_, ?_⟩
     ·conv => whnf
      exact ⟨fun _ => ⟨rfl, rfl, trivial⟩, fun h => (h n1).elim⟩
     conv => whnf
     iterate 10 (refine dS ?_; (conv => whnf))
     ((conv in (_[_]?) => tactic => exact hb); (conv => whnf))
     exact fin _ (hno (by unfold okR; rw [decide_eq_false (show ¬ numR p ≤ 4611686018427387904 by omega), Bool.false_and, Bool.and_false, Bool.and_false, Bool.and_false]))
    refine ⟨.bool false, ?_, ?_⟩
    ·conv => whnf
     exact ⟨fun h => (n1 h).elim, fun _ => ⟨rfl, rfl, trivial⟩⟩
    conv => whnf
    iterate 3 (refine dS ?_; (conv => whnf))
    refine ⟨_, callK_pure (c84 (numR p)) ⟨rfl, rfl, trivial⟩, ?_⟩
    conv => whnf
    refine ⟨.str (intE (numR p)), ⟨intE (numR p), ⟨rfl, rfl⟩, rfl, rfl, trivial⟩, ?_⟩
    conv => whnf
    (refine dS ?_; (conv => whnf))
    refine ⟨_, callK_pure (c118 2 p none (by omega)) ⟨rfl, rfl, trivial⟩, ?_⟩
    conv => whnf
    refine ⟨.str (wrapB 2 p), ⟨wrapB 2 p, ⟨rfl, rfl⟩, rfl, rfl, trivial⟩, ?_⟩
    conv => whnf
    by_cases n2 : intE (numR p) = wrapB 2 p
    ·refine ⟨.bool false, ?_, ?_⟩
     ·conv => whnf
      exact ⟨fun _ => ⟨rfl, rfl, trivial⟩, fun h => (h n2).elim⟩
     conv => whnf
     (refine dS ?_; (conv => whnf))
     have hyes : rintR (some s') (some p) = (some s', numR p) := if_pos (by unfold okR; rw [decide_eq_true hne, decide_eq_true (show p.length ≤ 9 by omega), decide_eq_true (show 0 ≤ numR p by omega), decide_eq_true (show numR p ≤ 4611686018427387904 by omega), decide_eq_true n2]; rfl)
     show _ = PV.int .i64 (rintR (some s') (some p)).2 ∧ _ ∧ rcur _ c (rintR (some s') (some p)).1
     rw [hyes]
     exact ⟨rfl, h1, h2⟩
    ·refine ⟨.bool true, ?_, ?_⟩
     ·conv => whnf
      exact ⟨fun h => (n2 h).elim, fun _ => ⟨rfl, rfl, trivial⟩⟩
     conv => whnf
     (refine dS ?_; (conv => whnf))
     ((conv in (_[_]?) => tactic => exact hb); (conv => whnf))
     exact fin _ (hno (by unfold okR; rw [decide_eq_false n2, Bool.and_false, Bool.and_false, Bool.and_false, Bool.and_false]))
theorem c83 (r n : List UInt8) (hr : r.length ≤ 1000000) (hn : n.length ≤ 1000000) : Pure prog 83 [.agg [.str r, .str n]] (sl (princE r n)) := by
 intro H
 have h1 := wrapB_len 27 r
 have h2 := wrapB_len 27 n
 (refine fnS (imm := imm83) ttL_ok func83 ?_; (conv => whnf))
 refine drawK_pure2 (by kernel_rfl) ?_
 conv => whnf
 iterate 2 (refine dS ?_; (conv => whnf))
 refine ⟨_, callK_pure (c120 r (by omega)) ⟨rfl, rfl, trivial⟩, ?_⟩
 conv => whnf
 iterate 2 (refine dS ?_; (conv => whnf))
 refine ⟨_, callK_pure (c120 n (by omega)) ⟨rfl, rfl, trivial⟩, ?_⟩
 conv => whnf
 (refine dS ?_; (conv => whnf))
 refine ⟨_, callK_pure (c82 48 [wrapB 27 r, wrapB 27 n] (by simp) (by simp only [List.flatten_cons, List.flatten_nil, List.length_append, List.length_nil]; omega)) ⟨rfl, rfl, trivial⟩, ?_⟩
 conv => whnf
 (refine dS ?_; (conv => whnf))
 exact ⟨rfl, rfl⟩
theorem c81 (b : List UInt8) (hb : b.length ≤ 2000) : Pure prog 81 [sl b] (.tup [sl b, .int .i64 0]) := by
 intro H
 (refine fnS (imm := imm81) ttL_ok func81 ?_; (conv => whnf))
 refine ⟨fun h => absurd (show (2000 : Int) < (b.length : Int) from h) (by omega), fun h => ?_⟩
 conv => whnf
 exact ⟨rfl, rfl⟩
structure RakS (T : Nat) (zc : List PV) (B K : PH) (r e q : Nat) (s : Option (List UInt8)) (cells : List PV) (ver : Nat) : Prop where
 z : K[r]? = some ⟨T, zc, 0⟩
 p : K[q]? = some ⟨T, cells, ver⟩
 cur : rcur K e s
 up : Upd (· = e) B K
 lb : B.length ≤ q
 n1 : r ≠ e
 n3 : q ≠ e
 n5 : q ≠ r
theorem RakS.call {T : Nat} {zc : List PV} {B K K' : PH} {r e q : Nat} {s s' : Option (List UInt8)} {cells : List PV} {ver : Nat} (h : RakS T zc B K r e q s cells ver) (u : Upd (· = e) K K') (c : rcur K' e s') :
  RakS T zc B K' r e q s' cells ver := by
 have lt : ∀ {i : Nat} {o : PObj}, K[i]? = some o → i < K.length := fun h => (List.getElem?_eq_some_iff.1 h).1
 exact ⟨(u.2 _ (lt h.z) h.n1).trans h.z, (u.2 _ (lt h.p) h.n3).trans h.p, c, h.up.trans u, h.lb, h.n1, h.n3, h.n5⟩
theorem RakS.store {T : Nat} {zc : List PV} {B K : PH} {r e q : Nat} {s : Option (List UInt8)} {cells : List PV} {ver : Nat} (h : RakS T zc B K r e q s cells ver) (cells' : List PV) (ver' : Nat) :
  RakS T zc B (K.set q ⟨T, cells', ver'⟩) r e q s cells' ver' := by
 refine ⟨?_, get_set h.p, h.cur.set_ne h.n3 _, h.up.set (.inr h.lb) _, h.lb, h.n1, h.n3, h.n5⟩
 rw [List.getElem?_set_ne h.n5]; exact h.z
theorem RakS.new {T : Nat} {zc : List PV} {B K : PH} {r e : Nat} {s : Option (List UInt8)} (hz : B[r]? = some ⟨T, zc, 0⟩) (hr : r ≠ e) (u : Upd (· = e) B K) (c : rcur K e s) (cells : List PV) (ver : Nat) :
  RakS T zc B ((K ++ [PObj.mk T zc 0]).set K.length ⟨T, cells, ver⟩) r e K.length s cells ver := by
 have lt : ∀ {i : Nat} {o : PObj}, B[i]? = some o → i < B.length := fun h => (List.getElem?_eq_some_iff.1 h).1
 have l1 := lt hz
 have l2 := u.1
 have l3 := c.lt
 rw [set_last]
 refine ⟨?_, get_last _ _, c.keep (X := fun _ => False) ((Upd.refl K).push _) (fun f => f), u.push _, l2, hr, by omega, by omega⟩
 rw [List.getElem?_append_left (by omega), u.2 _ l1 hr]; exact hz
def outR (s t : Option (List UInt8)) : Option (List UInt8) := if wholeB t = true then s else none
theorem outR_no {s t : Option (List UInt8)} (h : wholeB t = false) : outR s t = none := if_neg (by rw [h]; decide)
theorem outR_yes {s t : Option (List UInt8)} (h : wholeB t = true) : outR s t = s := if_pos h
theorem outR_none {t : Option (List UInt8)} : outR none t = none := ite_self _
theorem outR_len {s t : Option (List UInt8)} {B : Nat} (h : ∀ l, s = some l → l.length ≤ B) : ∀ l, outR s t = some l → l.length ≤ B := by
 intro l hl
 unfold outR at hl
 split at hl
 ·exact h l hl
 ·cases hl
theorem rintC_len {s : Option (List UInt8)} {B : Nat} (h : ∀ l, s = some l → l.length ≤ B) : ∀ l, (rintC s).1 = some l → l.length ≤ B := by
 have hl := (elemC_len (tag := 2) h).1
 unfold rintC
 revert hl
 generalize elemC 2 s = q
 obtain ⟨s', o⟩ := q
 intro hl l
 cases o with
 | none => intro e; cases e
 | some b =>
  show (if okR b = true then (s', numR b) else (none, 0)).1 = some l → _
  split
  ·exact hl l
  ·intro e; cases e
def princR (s : Option (List UInt8)) : Option (List UInt8) × (List UInt8 × List UInt8) :=
 (outR (elemC 48 s).1 (txtC (txtC (elemC 48 s).2).1).1, ((txtC (elemC 48 s).2).2, (txtC (txtC (elemC 48 s).2).1).2))
theorem c58 (c : Nat) (s : Option (List UInt8)) (H : PH) (hc : rcur H c s) (hl : ∀ l, s = some l → l.length ≤ 140737488355328) :
  CallOk prog 58 [.ptr (some (c, 0))] H fun r H' => r = .agg [.str (princR s).2.1, .str (princR s).2.2] ∧ Upd (· = c) H H' ∧ rcur H' c (princR s).1 := by
 have hd := hc.lt
 have g0 := elemC_len (tag := 48) hl
 have hs0 : ∀ l, (elemC 48 s).2 = some l → l.length ≤ 140737488355328 := fun l h => (g0.2 l h).1
 have hs1 := (elemC_len (tag := 27) hs0).1
 (refine fnS (imm := imm58) ttL_ok func58 ?_; (conv => whnf))
 obtain ⟨H1, hH1⟩ : ∃ H1, H1 = H ++ [PObj.mk 25 [.str [], .str []] 0] := ⟨_, rfl⟩
 have hl1 : H1.length = H.length + 1 := by rw [hH1]; simp
 have h0 : H1[H.length]? = some ⟨25, [.str [], .str []], 0⟩ := by rw [hH1]; exact get_last _ _
 have u1 : Upd (· = c) H H1 := by rw [hH1]; exact (Upd.refl H).push _
 have hc1 : rcur H1 c s := hc.keep (X := fun _ => False) (by rw [hH1]; exact (Upd.refl H).push _) (fun f => f)
 rw [← hH1]
 refine callK_of (c57 c 48 s H1 hc1 hl) ?_
 rintro _ H2 ⟨e, rfl, k1, k2, k3, k4⟩
 have hle := k4.lt
 have uB : Upd (· = c) H H2 := u1.trans k2
 have h2z : H2[H.length]? = some ⟨25, [.str [], .str []], 0⟩ := by rw [k2.2 _ (by omega) (by omega)]; exact h0
 conv => whnf
 refine callK_of (c60 e _ H2 k4 hs0) ?_
 rintro _ K1 ⟨rfl, u4, g4⟩
 have D1 := RakS.new h2z (by omega) u4 g4 [.str (txtC (elemC 48 s).2).2, .str []] 1
 conv => whnf
 ((conv in (_[_]?) => tactic => exact get_last _ _); (conv => whnf))
 refine callK_of (c60 e _ _ D1.cur hs1) ?_
 rintro _ K2 ⟨rfl, u5, g5⟩
 have D2 := D1.call u5 g5
 conv => whnf
 ((conv in (_[_]?) => tactic => exact D2.p); (conv => whnf))
 have D3 := D2.store [.str (txtC (elemC 48 s).2).2, .str (txtC (txtC (elemC 48 s).2).1).2] 2
 have o3 : rcur _ c (elemC 48 s).1 := k3.keep D3.up (by omega)
 have hq := D3.lb
 have fin : ∀ (s' : Option (List UInt8)) (bc : List UInt8) (vc : Nat), (∀ l, s' = some l → bc = l) → ∀ (hcc : (K2.set K1.length (PObj.mk 25 [.str (txtC (elemC 48 s).2).2, .str (txtC (txtC (elemC 48 s).2).1).2] 2))[c]? = some ⟨148, [sl bc, .bool (elemC 48 s).1.isNone], vc⟩) (o : PObj),
   Upd (· = c) H (((K2.set K1.length (PObj.mk 25 [.str (txtC (elemC 48 s).2).2, .str (txtC (txtC (elemC 48 s).2).1).2] 2)).set c ⟨148, [sl bc, .bool s'.isNone], vc + 1⟩).set H.length o) ∧
   rcur (((K2.set K1.length (PObj.mk 25 [.str (txtC (elemC 48 s).2).2, .str (txtC (txtC (elemC 48 s).2).1).2] 2)).set c ⟨148, [sl bc, .bool s'.isNone], vc + 1⟩).set H.length o) c s' := fun s' bc vc hb hcc o => by
  have uF := uB.over D3.up (fun i hi h => by omega)
  refine ⟨(uF.set (.inl rfl) _).set (.inr (Nat.le_refl _)) _, ?_⟩
  exact rcur.set_ne ⟨bc, vc + 1, get_set hcc, hb⟩ (by omega) _
 have hpz : ∀ (o : PObj), ((K2.set K1.length (PObj.mk 25 [.str (txtC (elemC 48 s).2).2, .str (txtC (txtC (elemC 48 s).2).1).2] 2)).set c o)[K1.length]? = some ⟨25, [.str (txtC (elemC 48 s).2).2, .str (txtC (txtC (elemC 48 s).2).1).2], 2⟩ := fun o => by
  rw [List.getElem?_set_ne (by omega)]; exact D3.p
 have hzz : ∀ (o : PObj), ((K2.set K1.length (PObj.mk 25 [.str (txtC (elemC 48 s).2).2, .str (txtC (txtC (elemC 48 s).2).1).2] 2)).set c o)[H.length]? = some ⟨25, [.str [], .str []], 0⟩ := fun o => by
  rw [List.getElem?_set_ne (by omega)]; exact D3.z
 unfold princR
 obtain ⟨bc, vc, hcc, hxc⟩ := o3
 ((conv in (_[_]?) => tactic => exact hcc); (conv => whnf))
 revert hcc hxc fin
 generalize (elemC 48 s).1 = s1
 intro fin hcc hxc
 cases s1 with
 | none =>
  rw [outR_none]
  conv => whnf
  ((conv in (_[_]?) => tactic => exact hcc); (conv => whnf))
  ((conv in (_[_]?) => tactic => exact hpz _); (conv => whnf))
  ((conv in (_[_]?) => tactic => exact hzz _); (conv => whnf))
  ((conv in (_[_]?) => tactic => exact get_set (hzz _)); (conv => whnf))
  exact ⟨rfl, fin none bc vc (fun l h => by cases h) hcc _⟩
 | some l =>
  conv => whnf
  refine callK_of (c117 e _ _ D3.cur) ?_
  rintro _ _ ⟨rfl, rfl⟩
  have hbl := hxc l rfl
  subst hbl
  show _
  cases hw : wholeB (txtC (txtC (elemC 48 s).2).1).1
  ·have e1 : outR (some bc) (txtC (txtC (elemC 48 s).2).1).1 = none := outR_no hw
   rw [e1]
   conv => whnf
   ((conv in (_[_]?) => tactic => exact hcc); (conv => whnf))
   ((conv in (_[_]?) => tactic => exact hpz _); (conv => whnf))
   ((conv in (_[_]?) => tactic => exact hzz _); (conv => whnf))
   ((conv in (_[_]?) => tactic => exact get_set (hzz _)); (conv => whnf))
   exact ⟨rfl, fin none bc vc (fun l h => by cases h) hcc _⟩
  ·have e1 : outR (some bc) (txtC (txtC (elemC 48 s).2).1).1 = some bc := outR_yes hw
   rw [e1]
   conv => whnf
   ((conv in (_[_]?) => tactic => exact hcc); (conv => whnf))
   ((conv in (_[_]?) => tactic => exact hpz _); (conv => whnf))
   ((conv in (_[_]?) => tactic => exact hzz _); (conv => whnf))
   ((conv in (_[_]?) => tactic => exact get_set (hzz _)); (conv => whnf))
   exact ⟨rfl, fin (some bc) bc vc (fun l h => Option.some.inj h) hcc _⟩
theorem princR_wrap (r n rest : List UInt8) (hr : r.length ≤ 1000) (hn : n.length ≤ 1000) : princR (some (princE r n ++ rest)) = (some rest, (r, n)) := by
 have h1 := wrapB_len 27 r
 have h2 := wrapB_len 27 n
 unfold princR princE
 rw [elemC_wrap 48 _ rest (by simp only [List.flatten_cons, List.flatten_nil, List.length_append, List.length_nil]; omega)]
 simp only [List.flatten_cons, List.flatten_nil]
 rw [txtC_wrap r _ (by omega)]
 simp only
 rw [txtC_wrap n [] (by omega)]
 rfl
def ttQ : TT := [(3, ⟨.int .i64, 1, 8, [.int .i64 0]⟩), (4, ⟨.bool, 1, 1, [.bool false]⟩), (5, ⟨.int .u8, 1, 1, [.int .u8 0]⟩), (9, ⟨.str, 1, 16, [.str []]⟩), (26, ⟨.slice 5, 1, 24, [.slice 0 [] (some 5)]⟩), (25, ⟨.strct [(9, 0), (9, 1)], 2, 32, [.str [], .str []]⟩), (31, ⟨.int .i64, 1, 8, [.int .i64 0]⟩), (43, ⟨.arr 32 5, 32, 32, List.replicate 32 (.int .u8 0)⟩), (50, ⟨.strct [(25, 0), (43, 2), (9, 34), (3, 35), (3, 36)], 37, 96, [.str [], .str []] ++ List.replicate 32 (.int .u8 0) ++ [.str [], .int .i64 0, .int .i64 0]⟩), (68, ⟨.strct [(25, 0), (3, 2), (3, 3)], 4, 48, [.str [], .str [], .int .i64 0, .int .i64 0]⟩), (54, ⟨.strct [(43, 0), (25, 32), (3, 34), (3, 35), (3, 36)], 37, 88, List.replicate 32 (.int .u8 0) ++ [.str [], .str [], .int .i64 0, .int .i64 0, .int .i64 0]⟩), (303, ⟨.fn, 1, 8, [.nilF]⟩), (215, ⟨.fn, 1, 8, [.nilF]⟩), (146, ⟨.ptr, 1, 8, [.ptr none]⟩), (148, ⟨.strct [(26, 0), (4, 1)], 2, 32, [.slice 0 [] (some 5), .bool false]⟩), (285, ⟨.ptr, 1, 8, [.ptr none]⟩), (287, ⟨.strct [(285, 0)], 1, 8, [.ptr none]⟩), (323, ⟨.slice 3, 1, 24, [.slice 0 [] (some 3)]⟩), (255, ⟨.slice 26, 1, 24, [.slice 0 [] (some 26)]⟩)]
theorem ttQ_ok : ttOk prog ttQ = true := by kernel_rfl
def imm119 : List Nat := [1]
def imm121 : List Nat := [1]
def imm62 : List Nat := [1]
def imm63 : List Nat := [1]
def imm59 : List Nat := []
def imm23 : List Nat := []
def imm24 : List Nat := []
def imm107 : List Nat := [1]
def keyR (s : Option (List UInt8)) : Option (List UInt8) × (Nat → UInt8) := if (octC s).2.length = 32 then ((octC s).1, keyOf (octC s).2) else (none, fun _ => 0)
def kcB (p : List UInt8) (i : Nat) : List PV := (p.take i).map byteC ++ List.replicate (32 - i) (.int .u8 0)
theorem kcB_len (p : List UInt8) (i : Nat) (hp : p.length = 32) (hi : i ≤ 32) : (kcB p i).length = 32 := by
 unfold kcB
 rw [List.length_append, List.length_map, List.length_take, List.length_replicate]; omega
theorem kcB_set (p : List UInt8) (i : Nat) (hp : p.length = 32) (hi : i < 32) (h : i < p.length) : setCells i [byteC p[i]] (kcB p i) = kcB p (i + 1) := by
 unfold kcB
 rw [show 32 - i = (32 - (i + 1)) + 1 by omega, List.replicate_succ, setCells_one _ _ _ _ _ (by rw [List.length_map, List.length_take]; omega), List.take_succ_eq_append_getElem h, List.map_append, List.append_assoc]
 rfl
theorem kcB_all (p : List UInt8) (hp : p.length = 32) : kcB p 32 = keyC (keyOf p) := by
 unfold kcB
 rw [List.take_of_length_le (by omega), keyC_map, keyB_range, show 32 - 32 = 0 from rfl, List.replicate_zero, List.append_nil]
 congr 1
 apply List.ext_getElem?
 intro j
 by_cases h : j < 32
 ·rw [List.getElem?_map, List.getElem?_range h, List.getElem?_eq_getElem (show j < p.length by omega)]
  show some p[j] = some (p.getD j 0)
  rw [List.getD_eq_getElem?_getD, List.getElem?_eq_getElem (show j < p.length by omega)]; rfl
 ·rw [List.getElem?_eq_none (by omega), List.getElem?_eq_none (by rw [List.length_map, List.length_range]; omega)]
theorem c59 (c : Nat) (s : Option (List UInt8)) (H : PH) (hc : rcur H c s) (hl : ∀ l, s = some l → l.length ≤ 140737488355328) :
  CallOk prog 59 [.ptr (some (c, 0))] H fun r H' => r = .agg (keyC (keyR s).2) ∧ Upd (· = c) H H' ∧ rcur H' c (keyR s).1 := by
 have hd := hc.lt
 (refine fnS (imm := imm59) ttQ_ok func59 ?_; (conv => whnf))
 obtain ⟨H1, hH1⟩ : ∃ H1, H1 = H ++ [PObj.mk 43 (List.replicate 32 (.int .u8 0)) 0] := ⟨_, rfl⟩
 have hl1 : H1.length = H.length + 1 := by rw [hH1]; simp
 have h0 : H1[H.length]? = some ⟨43, List.replicate 32 (.int .u8 0), 0⟩ := by rw [hH1]; exact get_last _ _
 have u1 : Upd (· = c) H H1 := by rw [hH1]; exact (Upd.refl H).push _
 have hc1 : rcur H1 c s := hc.keep (X := fun _ => False) (by rw [hH1]; exact (Upd.refl H).push _) (fun f => f)
 show callK _ _ _ (H ++ [PObj.mk 43 (List.replicate 32 (.int .u8 0)) 0]) _
 rw [← hH1]
 refine callK_of (c90 c s H1 hc1 hl) ?_
 rintro _ H2 ⟨rfl, k1, k2⟩
 have hle := k2.lt
 have h2z : H2[H.length]? = some ⟨43, List.replicate 32 (.int .u8 0), 0⟩ := (k1.2 _ (by omega) (by omega)).trans h0
 have uB : Upd (· = c) H H2 := u1.trans k1
 have hn2 : H.length < H2.length := (List.getElem?_eq_some_iff.1 h2z).1
 obtain ⟨bc, vc, hcc, hxc⟩ := id k2
 unfold keyR
 generalize (octC s).2 = x
 conv => whnf
 ((conv in (_[_]?) => tactic => exact get_last _ _); (conv => whnf))
 refine ⟨fun h => ?_, fun h => ?_⟩
 rotate_left
 ·have h : ¬ (x.length : Int) = 32 := h
  rw [if_neg (by omega)]
  have e1 : ((H2 ++ [PObj.mk 43 (List.replicate 32 (.int .u8 0)) 0]).set H2.length ⟨43, List.replicate 32 (.int .u8 0), 1⟩)[c]? = some ⟨148, [sl bc, .bool (octC s).1.isNone], vc⟩ := by
   rw [set_last, List.getElem?_append_left hle]; exact hcc
  have e2 : ∀ o, (((H2 ++ [PObj.mk 43 (List.replicate 32 (.int .u8 0)) 0]).set H2.length ⟨43, List.replicate 32 (.int .u8 0), 1⟩).set c o)[H2.length]? = some ⟨43, List.replicate 32 (.int .u8 0), 1⟩ := fun o => by
   rw [set_last, List.getElem?_set_ne (by omega)]; exact get_last _ _
  have e3 : ∀ o, (((H2 ++ [PObj.mk 43 (List.replicate 32 (.int .u8 0)) 0]).set H2.length ⟨43, List.replicate 32 (.int .u8 0), 1⟩).set c o)[H.length]? = some ⟨43, List.replicate 32 (.int .u8 0), 0⟩ := fun o => by
   rw [set_last, List.getElem?_set_ne (by omega), List.getElem?_append_left hn2]; exact h2z
  conv => whnf
  ((conv in (_[_]?) => tactic => exact e1); (conv => whnf))
  ((conv in (_[_]?) => tactic => exact e2 _); (conv => whnf))
  ((conv in (_[_]?) => tactic => exact e3 _); (conv => whnf))
  ((conv in (_[_]?) => tactic => exact get_set (e3 _)); (conv => whnf))
  have uF : Upd (· = c) H (((H2 ++ [PObj.mk 43 (List.replicate 32 (.int .u8 0)) 0]).set H2.length ⟨43, List.replicate 32 (.int .u8 0), 1⟩).set c ⟨148, [sl bc, .bool true], vc + 1⟩) := by
   rw [set_last]; exact (uB.push _).set (.inl rfl) _
  have eF : rcur (((H2 ++ [PObj.mk 43 (List.replicate 32 (.int .u8 0)) 0]).set H2.length ⟨43, List.replicate 32 (.int .u8 0), 1⟩).set c ⟨148, [sl bc, .bool true], vc + 1⟩) c none := ⟨bc, vc + 1, get_set e1, fun l h => by cases h⟩
  exact ⟨rfl, uF.set (.inr (Nat.le_refl _)) _, eF.set_ne (by omega) _⟩
 ·have h : (x.length : Int) = 32 := h
  have hx : x.length = 32 := by omega
  rw [if_pos hx]
  conv => whnf
  refine loopK_of RwS (fun y => [(0, .ptr (some (c, 0))), (2, .ptr (some (H.length, 0))), (3, sl x), (4, .ptr (some (H2.length, 0))), (5, .int .i64 y.i)]) (fun y => H2 ++ [PObj.mk 43 (kcB x y.i) (y.i + 1)]) (fun y => y.i ≤ 32) (fun y => 32 - y.i)
   ⟨⟨0⟩, Nat.zero_le _, ⟨rfl, rfl, rfl, rfl, rfl, trivial⟩, set_last _ _ _⟩ ?_
  rintro ⟨i⟩ hi
  have hi : i ≤ 32 := hi
  conv => whnf
  refine ⟨fun h5 => ?_, fun h5 => ?_⟩
  ·conv => whnf
   have h5 : (i : Int) < 32 := h5
   have hlt : i < x.length := by omega
   refine ⟨⟨by show (0 : Int) ≤ (i : Int); omega, by show (i : Int) < (x.length : Int); omega⟩, [byteC x[i]], at1 ?_, ?_⟩
   ·show (x.map byteC)[(i : Int).toNat * 1]? = _
    rw [Int.toNat_natCast, Nat.mul_one, List.getElem?_map, List.getElem?_eq_getElem hlt]; rfl
   conv => whnf
   refine ⟨⟨by show (0 : Int) ≤ (i : Int); omega, by show (i : Int) < 32; omega⟩, ?_⟩
   conv => whnf
   ((conv in (_[_]?) => tactic => exact get_last _ _); (conv => whnf))
   ((conv in (Nat.ble _ _) => tactic => exact (show Nat.ble (0 + (i : Int).toNat * 1 + 1) (kcB x i).length = true by rw [Nat.ble_eq, kcB_len x i hx hi]; omega)); (conv => whnf))
   refine ⟨⟨i + 1⟩, by show i + 1 ≤ 32; omega, ⟨rfl, rfl, rfl, rfl, ?_, trivial⟩, ?_, by show 32 - (i + 1) < 32 - i; omega⟩
   ·show PV.int _ (IntKind.i64.wrap ((i : Int) + 1)) = PV.int _ ((i + 1 : Nat) : Int)
    rw [wrap64 (by omega) (by omega)]; rfl
   ·show (H2 ++ [PObj.mk 43 (kcB x i) (i + 1)]).set H2.length ⟨43, setCells (0 + (i : Int).toNat * 1) [byteC x[i]] (kcB x i), i + 1 + 1⟩ = H2 ++ [PObj.mk 43 (kcB x (i + 1)) (i + 1 + 1)]
    rw [set_last, Int.toNat_natCast, Nat.mul_one, Nat.zero_add, kcB_set x i hx (by omega) hlt]
  ·conv => whnf
   have h5 : ¬ (i : Int) < 32 := h5
   have hi2 : i = 32 := by omega
   subst hi2
   rw [kcB_all x hx]
   have e3 : (H2 ++ [PObj.mk 43 (keyC (keyOf x)) 33])[H.length]? = some ⟨43, List.replicate 32 (.int .u8 0), 0⟩ := by
    rw [List.getElem?_append_left hn2]; exact h2z
   ((conv in (_[_]?) => tactic => exact get_last _ _); (conv => whnf))
   ((conv in (_[_]?) => tactic => exact e3); (conv => whnf))
   ((conv in (_[_]?) => tactic => exact get_set e3); (conv => whnf))
   exact ⟨rfl, (uB.push _).set (.inr (Nat.le_refl _)) _, (k2.keep (X := fun _ => False) ((Upd.refl H2).push _) (fun f => f)).set_ne (by omega) _⟩
theorem keyR_wrap (k : Nat → UInt8) (rest : List UInt8) : keyR (some (wrapB 4 (keyB k) ++ rest)) = (some rest, keyOf (keyB k)) := by
 unfold keyR
 rw [octC_wrap (keyB k) rest (by rw [keyB_len]; decide)]
 exact if_pos (keyB_len k)
theorem part_same_cells {p q : Prt} (h : p.same q) : p.cells = q.cells := by
 obtain ⟨h0, h1, h2, h3, h4, h5⟩ := h
 unfold Prt.cells
 rw [keyC_map, keyC_map]
 rw [h0, h1, h2, h3, h4, h5]
theorem okPrt_iff {p : Prt} {b : List UInt8} : okPrt p b = true ↔ isPartB p = true ∧ (partL p).length ≤ 2000 ∧ partL p = b := by
 unfold okPrt
 rw [Bool.and_eq_true, Bool.and_eq_true, decide_eq_true_eq, decide_eq_true_eq]
theorem okPrt_same {p q : Prt} {b : List UInt8} (h : p.same q) : okPrt p b = okPrt q b := by
 unfold okPrt
 rw [(part_same h).1, (part_same h).2]
def partRD (s : Option (List UInt8)) : Prt := ⟨(princR s).2.1, (princR s).2.2, (keyR (princR s).1).2, (txtC (keyR (princR s).1).1).2, (rintC (txtC (keyR (princR s).1).1).1).2, (rintC (rintC (txtC (keyR (princR s).1).1).1).1).2⟩
def partRE (s : Option (List UInt8)) : Option (List UInt8) := (rintC (rintC (txtC (keyR (princR s).1).1).1).1).1
def partR (b : List UInt8) : Option (List UInt8) := (elemC 99 (some b)).2
theorem partR_laid (p : Prt) (h : isPartB p = true) : (partRD (partR (partL p))).same p ∧ partRE (partR (partL p)) = some [] := by
 unfold isPartB at h
 simp only [Bool.and_eq_true] at h
 have gp := princ_len h.1.1
 have gt := isText_len h.1.2
 have g_st := inZ_le h.2.1
 have g_en := inZ_le h.2.2
 have e0 := princE_len p.r p.n
 have e1 := wrapB_len 4 (keyB p.k)
 have e2 := wrapB_len 27 p.tr
 have e3 := intE_len p.st
 have e4 := intE_len p.en
 have ek := keyB_len p.k
 have e0x := elemC_wrap 99 [princE p.r p.n, wrapB 4 (keyB p.k), wrapB 27 p.tr, intE p.st, intE p.en].flatten [] (by simp only [List.flatten_cons, List.flatten_nil, List.length_append, List.length_nil]; omega)
 rw [List.append_nil] at e0x
 have w0 := princR_wrap p.r p.n (wrapB 4 (keyB p.k) ++ (wrapB 27 p.tr ++ (intE p.st ++ (intE p.en ++ [])))) (by omega) (by omega)
 have w1 := keyR_wrap p.k (wrapB 27 p.tr ++ (intE p.st ++ (intE p.en ++ [])))
 have w2 := txtC_wrap p.tr (intE p.st ++ (intE p.en ++ [])) (by omega)
 have w3 := rintC_wrap p.st (by omega) (by omega) (intE p.en ++ [])
 have w4 := rintC_wrap p.en (by omega) (by omega) []
 unfold partR partL
 rw [e0x]
 show (partRD (some [princE p.r p.n, wrapB 4 (keyB p.k), wrapB 27 p.tr, intE p.st, intE p.en].flatten)).same p ∧ partRE (some [princE p.r p.n, wrapB 4 (keyB p.k), wrapB 27 p.tr, intE p.st, intE p.en].flatten) = some []
 simp only [List.flatten_cons, List.flatten_nil]
 unfold partRD partRE
 simp only [w0, w1, w2, w3, w4]
 exact ⟨⟨rfl, rfl, keyB_of _, rfl, rfl, rfl⟩, trivial⟩
def refPV (b : List UInt8) : PV := match !(partRE (partR b)).isNone && okPrt (partRD (partR b)) b with
 | true => .tup [.agg (partRD (partR b)).cells, .int .i64 0]
 | false => .tup [.agg zPrt.cells, .int .i64 2]
theorem refPV_eq (b : List UInt8) : refPV b = agPV (partC b) b := by
 cases h2 : okPrt (partC b) b
 ·have h1 : okPrt (partRD (partR b)) b = false := by
   cases h1 : okPrt (partRD (partR b)) b
   ·rfl
   ·obtain ⟨k1, k2, k3⟩ := okPrt_iff.1 h1
    have e := partC_laid _ k1
    rw [k3] at e
    rw [okPrt_same e, h1] at h2
    cases h2
  rw [agPV_no h2]
  unfold refPV
  rw [h1, Bool.and_false]
 ·obtain ⟨k1, k2, k3⟩ := okPrt_iff.1 h2
  have e := partR_laid _ k1
  rw [k3] at e
  have h1 : okPrt (partRD (partR b)) b = true := by rw [okPrt_same e.1, h2]
  rw [agPV_yes h2]
  unfold refPV
  rw [h1, e.2]
  show PV.tup [.agg (partRD (partR b)).cells, .int .i64 0] = _
  rw [part_same_cells e.1]
structure Rpt where
 k : Nat → UInt8
 r : List UInt8
 n : List UInt8
 st : Int
 en : Int
 nc : Int
def Rpt.cells (p : Rpt) : List PV := keyC p.k ++ [.str p.r, .str p.n] ++ [.int .i64 p.st] ++ [.int .i64 p.en] ++ [.int .i64 p.nc]
def isRptB (p : Rpt) : Bool := isPrincB p.r p.n && (inZ p.st 0 1073741824 && inZ p.en 0 1073741824) && inZ p.nc 0 1073741824
def rptL (p : Rpt) : List UInt8 := wrapB 122 [wrapB 4 (keyB p.k), princE p.r p.n, intE p.st, intE p.en, intE p.nc].flatten
def encRV (p : Rpt) : PV := if isRptB p = true ∧ (rptL p).length ≤ 2000 then .tup [sl (rptL p), .int .i64 0] else .tup [sl [], .int .i64 1]
theorem encRV_yes {p : Rpt} (h : isRptB p = true ∧ (rptL p).length ≤ 2000) : encRV p = .tup [sl (rptL p), .int .i64 0] := if_pos h
theorem encRV_no {p : Rpt} (h : ¬ (isRptB p = true ∧ (rptL p).length ≤ 2000)) : encRV p = .tup [sl [], .int .i64 1] := if_neg h
def rptD (s : Option (List UInt8)) : Rpt := ⟨keyOf (octC s).2, (princC (octC s).1).2.1, (princC (octC s).1).2.2, (intC (princC (octC s).1).1).2, (intC (intC (princC (octC s).1).1).1).2, (intC (intC (intC (princC (octC s).1).1).1).1).2⟩
def rptC (b : List UInt8) : Rpt := rptD (elemC 122 (some b)).2
def Rpt.same (p q : Rpt) : Prop := keyB p.k = keyB q.k ∧ p.r = q.r ∧ p.n = q.n ∧ p.st = q.st ∧ p.en = q.en ∧ p.nc = q.nc
def zRpt : Rpt := ⟨fun _ => 0, [], [], 0, 0, 0⟩
theorem rpt_same {p q : Rpt} (h : p.same q) : isRptB p = isRptB q ∧ rptL p = rptL q := by
 obtain ⟨h0, h1, h2, h3, h4, h5⟩ := h
 unfold isRptB rptL
 rw [h0, h1, h2, h3, h4, h5]
 exact ⟨rfl, rfl⟩
theorem rpt_len (p : Rpt) : (rptL p).length ≤ p.r.length + p.n.length + 100 := by
 have h0 := wrapB_len 122 [wrapB 4 (keyB p.k), princE p.r p.n, intE p.st, intE p.en, intE p.nc].flatten
 have e0 := wrapB_len 4 (keyB p.k)
 have e1 := princE_len p.r p.n
 have e2 := intE_len p.st
 have e3 := intE_len p.en
 have e4 := intE_len p.nc
 have ek := keyB_len p.k
 simp only [List.flatten_cons, List.flatten_nil, List.length_append, List.length_nil] at h0
 unfold rptL
 simp only [List.flatten_cons, List.flatten_nil]
 omega
def okRpt (p : Rpt) (b : List UInt8) : Bool := isRptB p && (decide ((rptL p).length ≤ 2000) && decide (rptL p = b))
def agRV (p : Rpt) (b : List UInt8) : PV := match okRpt p b with
 | true => .tup [.agg p.cells, .int .i64 0]
 | false => .tup [.agg zRpt.cells, .int .i64 2]
theorem agRV_yes {p : Rpt} {b : List UInt8} (h : okRpt p b = true) : agRV p b = .tup [.agg p.cells, .int .i64 0] := by unfold agRV; rw [h]
theorem agRV_no {p : Rpt} {b : List UInt8} (h : okRpt p b = false) : agRV p b = .tup [.agg zRpt.cells, .int .i64 2] := by unfold agRV; rw [h]
theorem rpt_same_cells {p q : Rpt} (h : p.same q) : p.cells = q.cells := by
 obtain ⟨h0, h1, h2, h3, h4, h5⟩ := h
 unfold Rpt.cells
 rw [keyC_map, keyC_map]
 rw [h0, h1, h2, h3, h4, h5]
theorem okRpt_iff {p : Rpt} {b : List UInt8} : okRpt p b = true ↔ isRptB p = true ∧ (rptL p).length ≤ 2000 ∧ rptL p = b := by
 unfold okRpt
 rw [Bool.and_eq_true, Bool.and_eq_true, decide_eq_true_eq, decide_eq_true_eq]
theorem okRpt_same {p q : Rpt} {b : List UInt8} (h : p.same q) : okRpt p b = okRpt q b := by
 unfold okRpt
 rw [(rpt_same h).1, (rpt_same h).2]
def rptRD (s : Option (List UInt8)) : Rpt := ⟨(keyR s).2, (princR (keyR s).1).2.1, (princR (keyR s).1).2.2, (rintC (princR (keyR s).1).1).2, (rintC (rintC (princR (keyR s).1).1).1).2, (rintC (rintC (rintC (princR (keyR s).1).1).1).1).2⟩
def rptRE (s : Option (List UInt8)) : Option (List UInt8) := (rintC (rintC (rintC (princR (keyR s).1).1).1).1).1
def rptR (b : List UInt8) : Option (List UInt8) := (elemC 122 (some b)).2
theorem rptC_laid (p : Rpt) (h : isRptB p = true) : (rptC (rptL p)).same p := by
 unfold isRptB at h
 simp only [Bool.and_eq_true] at h
 have gp := princ_len h.1.1
 have g_st := inZ_le h.1.2.1
 have g_en := inZ_le h.1.2.2
 have g_nc := inZ_le h.2
 have e0 := wrapB_len 4 (keyB p.k)
 have e1 := princE_len p.r p.n
 have e2 := intE_len p.st
 have e3 := intE_len p.en
 have e4 := intE_len p.nc
 have ek := keyB_len p.k
 have e0x := elemC_wrap 122 [wrapB 4 (keyB p.k), princE p.r p.n, intE p.st, intE p.en, intE p.nc].flatten [] (by simp only [List.flatten_cons, List.flatten_nil, List.length_append, List.length_nil]; omega)
 rw [List.append_nil] at e0x
 have w0 := octC_wrap (keyB p.k) (princE p.r p.n ++ (intE p.st ++ (intE p.en ++ (intE p.nc ++ [])))) (by omega)
 have w1 := princC_wrap p.r p.n (intE p.st ++ (intE p.en ++ (intE p.nc ++ []))) (by omega) (by omega)
 have w2 := intC_wrap p.st (by omega) (by omega) (intE p.en ++ (intE p.nc ++ []))
 have w3 := intC_wrap p.en (by omega) (by omega) (intE p.nc ++ [])
 have w4 := intC_wrap p.nc (by omega) (by omega) []
 unfold rptC rptL
 rw [e0x]
 show (rptD (some [wrapB 4 (keyB p.k), princE p.r p.n, intE p.st, intE p.en, intE p.nc].flatten)).same p
 simp only [List.flatten_cons, List.flatten_nil]
 unfold rptD
 simp only [w0, w1, w2, w3, w4]
 exact ⟨keyB_of _, rfl, rfl, rfl, rfl, rfl⟩
theorem rptR_laid (p : Rpt) (h : isRptB p = true) : (rptRD (rptR (rptL p))).same p ∧ rptRE (rptR (rptL p)) = some [] := by
 unfold isRptB at h
 simp only [Bool.and_eq_true] at h
 have gp := princ_len h.1.1
 have g_st := inZ_le h.1.2.1
 have g_en := inZ_le h.1.2.2
 have g_nc := inZ_le h.2
 have e0 := wrapB_len 4 (keyB p.k)
 have e1 := princE_len p.r p.n
 have e2 := intE_len p.st
 have e3 := intE_len p.en
 have e4 := intE_len p.nc
 have ek := keyB_len p.k
 have e0x := elemC_wrap 122 [wrapB 4 (keyB p.k), princE p.r p.n, intE p.st, intE p.en, intE p.nc].flatten [] (by simp only [List.flatten_cons, List.flatten_nil, List.length_append, List.length_nil]; omega)
 rw [List.append_nil] at e0x
 have w0 := keyR_wrap p.k (princE p.r p.n ++ (intE p.st ++ (intE p.en ++ (intE p.nc ++ []))))
 have w1 := princR_wrap p.r p.n (intE p.st ++ (intE p.en ++ (intE p.nc ++ []))) (by omega) (by omega)
 have w2 := rintC_wrap p.st (by omega) (by omega) (intE p.en ++ (intE p.nc ++ []))
 have w3 := rintC_wrap p.en (by omega) (by omega) (intE p.nc ++ [])
 have w4 := rintC_wrap p.nc (by omega) (by omega) []
 unfold rptR rptL
 rw [e0x]
 show (rptRD (some [wrapB 4 (keyB p.k), princE p.r p.n, intE p.st, intE p.en, intE p.nc].flatten)).same p ∧ rptRE (some [wrapB 4 (keyB p.k), princE p.r p.n, intE p.st, intE p.en, intE p.nc].flatten) = some []
 simp only [List.flatten_cons, List.flatten_nil]
 unfold rptRD rptRE
 simp only [w0, w1, w2, w3, w4]
 exact ⟨⟨keyB_of _, rfl, rfl, rfl, rfl, rfl⟩, trivial⟩
def refRV (b : List UInt8) : PV := match !(rptRE (rptR b)).isNone && okRpt (rptRD (rptR b)) b with
 | true => .tup [.agg (rptRD (rptR b)).cells, .int .i64 0]
 | false => .tup [.agg zRpt.cells, .int .i64 2]
theorem refRV_eq (b : List UInt8) : refRV b = agRV (rptC b) b := by
 cases h2 : okRpt (rptC b) b
 ·have h1 : okRpt (rptRD (rptR b)) b = false := by
   cases h1 : okRpt (rptRD (rptR b)) b
   ·rfl
   ·obtain ⟨k1, k2, k3⟩ := okRpt_iff.1 h1
    have e := rptC_laid _ k1
    rw [k3] at e
    rw [okRpt_same e, h1] at h2
    cases h2
  rw [agRV_no h2]
  unfold refRV
  rw [h1, Bool.and_false]
 ·obtain ⟨k1, k2, k3⟩ := okRpt_iff.1 h2
  have e := rptR_laid _ k1
  rw [k3] at e
  have h1 : okRpt (rptRD (rptR b)) b = true := by rw [okRpt_same e.1, h2]
  rw [agRV_yes h2]
  unfold refRV
  rw [h1, e.2]
  show PV.tup [.agg (rptRD (rptR b)).cells, .int .i64 0] = _
  rw [rpt_same_cells e.1]
theorem c107 (p : Rpt) (hr : p.r.length ≤ 1000000) (hn : p.n.length ≤ 1000000) : Pure prog 107 [.agg p.cells] (encRV p) := by
 intro H
 have e0 := wrapB_len 4 (keyB p.k)
 have e1 := princE_len p.r p.n
 have e2 := intE_len p.st
 have e3 := intE_len p.en
 have e4 := intE_len p.nc
 have ek := keyB_len p.k
 (refine fnS (imm := imm107) ttQ_ok func107 ?_; (conv => whnf))
 refine drawK_pure2 (by kernel_rfl) ?_
 conv => whnf
 iterate 2 (refine dS ?_; (conv => whnf))
 refine ⟨_, callK_pure (c97 p.r p.n (by omega) (by omega)) ⟨rfl, rfl, trivial⟩, ?_⟩
 conv => whnf
 cases f0 : isPrincB p.r p.n
 ·skip
  iterate 15 (refine dS ?_; (conv => whnf))
  refine ⟨_, callK_pure (c168p (keyB p.k) (by omega)) ⟨rfl, rfl, trivial⟩, ?_⟩
  conv => whnf
  iterate 2 (refine dS ?_; (conv => whnf))
  refine ⟨_, callK_pure (c165 p.r p.n hr hn) ⟨rfl, rfl, trivial⟩, ?_⟩
  conv => whnf
  iterate 2 (refine dS ?_; (conv => whnf))
  refine ⟨_, callK_pure (c166 p.st) ⟨rfl, rfl, trivial⟩, ?_⟩
  conv => whnf
  iterate 2 (refine dS ?_; (conv => whnf))
  refine ⟨_, callK_pure (c166 p.en) ⟨rfl, rfl, trivial⟩, ?_⟩
  conv => whnf
  iterate 2 (refine dS ?_; (conv => whnf))
  refine ⟨_, callK_pure (c166 p.nc) ⟨rfl, rfl, trivial⟩, ?_⟩
  conv => whnf
  (refine dS ?_; (conv => whnf))
  refine ⟨_, callK_pure (c164p 122 [wrapB 4 (keyB p.k), princE p.r p.n, intE p.st, intE p.en, intE p.nc] (by simp) (by simp only [List.flatten_cons, List.flatten_nil, List.length_append, List.length_nil]; omega)) ⟨rfl, rfl, trivial⟩, ?_⟩
  conv => whnf
  have hb : isRptB p = false := by unfold isRptB; simp only [f0, Bool.and_true, Bool.true_and, Bool.and_false, Bool.false_and]
  refine ⟨_, callK_pure ((c103 false (rptL p)).of_eq (limV_no (fun h => by cases h.1))) ⟨rfl, rfl, trivial⟩, ?_⟩
  conv => whnf
  iterate 4 (refine dS ?_; (conv => whnf))
  exact ⟨(encRV_no (fun h => by rw [hb] at h; cases h.1)).symm, rfl⟩
 iterate 6 (refine dS ?_; (conv => whnf))
 refine ⟨_, callK_pure ((c158 [p.st, p.en] (by simp)).of_eq (show PV.bool (inZ p.st 0 1073741824 && (inZ p.en 0 1073741824 && true)) = .bool (inZ p.st 0 1073741824 && inZ p.en 0 1073741824) by rw [Bool.and_true])) ⟨rfl, rfl, trivial⟩, ?_⟩
 conv => whnf
 cases f1 : (inZ p.st 0 1073741824 && inZ p.en 0 1073741824)
 ·skip
  iterate 8 (refine dS ?_; (conv => whnf))
  refine ⟨_, callK_pure (c168p (keyB p.k) (by omega)) ⟨rfl, rfl, trivial⟩, ?_⟩
  conv => whnf
  iterate 2 (refine dS ?_; (conv => whnf))
  refine ⟨_, callK_pure (c165 p.r p.n hr hn) ⟨rfl, rfl, trivial⟩, ?_⟩
  conv => whnf
  iterate 2 (refine dS ?_; (conv => whnf))
  refine ⟨_, callK_pure (c166 p.st) ⟨rfl, rfl, trivial⟩, ?_⟩
  conv => whnf
  iterate 2 (refine dS ?_; (conv => whnf))
  refine ⟨_, callK_pure (c166 p.en) ⟨rfl, rfl, trivial⟩, ?_⟩
  conv => whnf
  iterate 2 (refine dS ?_; (conv => whnf))
  refine ⟨_, callK_pure (c166 p.nc) ⟨rfl, rfl, trivial⟩, ?_⟩
  conv => whnf
  (refine dS ?_; (conv => whnf))
  refine ⟨_, callK_pure (c164p 122 [wrapB 4 (keyB p.k), princE p.r p.n, intE p.st, intE p.en, intE p.nc] (by simp) (by simp only [List.flatten_cons, List.flatten_nil, List.length_append, List.length_nil]; omega)) ⟨rfl, rfl, trivial⟩, ?_⟩
  conv => whnf
  have hb : isRptB p = false := by unfold isRptB; simp only [f0, f1, Bool.and_true, Bool.true_and, Bool.and_false, Bool.false_and]
  refine ⟨_, callK_pure ((c103 false (rptL p)).of_eq (limV_no (fun h => by cases h.1))) ⟨rfl, rfl, trivial⟩, ?_⟩
  conv => whnf
  iterate 4 (refine dS ?_; (conv => whnf))
  exact ⟨(encRV_no (fun h => by rw [hb] at h; cases h.1)).symm, rfl⟩
 iterate 4 (refine dS ?_; (conv => whnf))
 refine ⟨_, callK_pure (c159 p.nc) ⟨rfl, rfl, trivial⟩, ?_⟩
 conv => whnf
 cases f2 : inZ p.nc 0 1073741824
 ·skip
  iterate 3 (refine dS ?_; (conv => whnf))
  refine ⟨_, callK_pure (c168p (keyB p.k) (by omega)) ⟨rfl, rfl, trivial⟩, ?_⟩
  conv => whnf
  iterate 2 (refine dS ?_; (conv => whnf))
  refine ⟨_, callK_pure (c165 p.r p.n hr hn) ⟨rfl, rfl, trivial⟩, ?_⟩
  conv => whnf
  iterate 2 (refine dS ?_; (conv => whnf))
  refine ⟨_, callK_pure (c166 p.st) ⟨rfl, rfl, trivial⟩, ?_⟩
  conv => whnf
  iterate 2 (refine dS ?_; (conv => whnf))
  refine ⟨_, callK_pure (c166 p.en) ⟨rfl, rfl, trivial⟩, ?_⟩
  conv => whnf
  iterate 2 (refine dS ?_; (conv => whnf))
  refine ⟨_, callK_pure (c166 p.nc) ⟨rfl, rfl, trivial⟩, ?_⟩
  conv => whnf
  (refine dS ?_; (conv => whnf))
  refine ⟨_, callK_pure (c164p 122 [wrapB 4 (keyB p.k), princE p.r p.n, intE p.st, intE p.en, intE p.nc] (by simp) (by simp only [List.flatten_cons, List.flatten_nil, List.length_append, List.length_nil]; omega)) ⟨rfl, rfl, trivial⟩, ?_⟩
  conv => whnf
  have hb : isRptB p = false := by unfold isRptB; simp only [f0, f1, f2, Bool.and_true, Bool.true_and, Bool.and_false, Bool.false_and]
  refine ⟨_, callK_pure ((c103 false (rptL p)).of_eq (limV_no (fun h => by cases h.1))) ⟨rfl, rfl, trivial⟩, ?_⟩
  conv => whnf
  iterate 4 (refine dS ?_; (conv => whnf))
  exact ⟨(encRV_no (fun h => by rw [hb] at h; cases h.1)).symm, rfl⟩
 iterate 3 (refine dS ?_; (conv => whnf))
 refine ⟨_, callK_pure (c168p (keyB p.k) (by omega)) ⟨rfl, rfl, trivial⟩, ?_⟩
 conv => whnf
 iterate 2 (refine dS ?_; (conv => whnf))
 refine ⟨_, callK_pure (c165 p.r p.n hr hn) ⟨rfl, rfl, trivial⟩, ?_⟩
 conv => whnf
 iterate 2 (refine dS ?_; (conv => whnf))
 refine ⟨_, callK_pure (c166 p.st) ⟨rfl, rfl, trivial⟩, ?_⟩
 conv => whnf
 iterate 2 (refine dS ?_; (conv => whnf))
 refine ⟨_, callK_pure (c166 p.en) ⟨rfl, rfl, trivial⟩, ?_⟩
 conv => whnf
 iterate 2 (refine dS ?_; (conv => whnf))
 refine ⟨_, callK_pure (c166 p.nc) ⟨rfl, rfl, trivial⟩, ?_⟩
 conv => whnf
 (refine dS ?_; (conv => whnf))
 refine ⟨_, callK_pure (c164p 122 [wrapB 4 (keyB p.k), princE p.r p.n, intE p.st, intE p.en, intE p.nc] (by simp) (by simp only [List.flatten_cons, List.flatten_nil, List.length_append, List.length_nil]; omega)) ⟨rfl, rfl, trivial⟩, ?_⟩
 conv => whnf
 have hb : isRptB p = true := by unfold isRptB; simp only [f0, f1, f2, Bool.and_true, Bool.true_and, Bool.and_false, Bool.false_and]
 by_cases hlen : (rptL p).length ≤ 2000
 ·have hlim := limV_yes (ok := true) (b := rptL p) ⟨rfl, hlen⟩
  refine ⟨_, callK_pure ((c103 true (rptL p)).of_eq hlim) ⟨rfl, rfl, trivial⟩, ?_⟩
  conv => whnf
  iterate 4 (refine dS ?_; (conv => whnf))
  exact ⟨(encRV_yes ⟨hb, hlen⟩).symm, rfl⟩
 ·have hlim := limV_no (ok := true) (b := rptL p) (fun h => hlen h.2)
  refine ⟨_, callK_pure ((c103 true (rptL p)).of_eq hlim) ⟨rfl, rfl, trivial⟩, ?_⟩
  conv => whnf
  iterate 4 (refine dS ?_; (conv => whnf))
  exact ⟨(encRV_no (fun h => hlen h.2)).symm, rfl⟩
theorem c119 (p : Prt) (hr : p.r.length ≤ 1099511627775) (hn : p.n.length ≤ 1099511627775) (ht : p.tr.length ≤ 1099511627775) : Pure prog 119 [.agg p.cells] (.bool (isPartB p)) := by
 intro H
 (refine fnS (imm := imm119) ttQ_ok func119 ?_; (conv => whnf))
 refine loopK_of RwS (fun x => [(1, .elem p.cells), (3, .int .i64 x.i)]) (fun _ => H) (fun x => x.i ≤ p.tr.length ∧ (p.tr.take x.i).all okT8 = true) (fun x => p.tr.length - x.i)
  ⟨⟨0⟩, ⟨Nat.zero_le _, rfl⟩, ⟨rfl, rfl, trivial⟩, rfl⟩ ?_
 rintro ⟨i⟩ ⟨hi, hall⟩
 have hi : i ≤ p.tr.length := hi
 have hall : (p.tr.take i).all okT8 = true := hall
 conv => whnf
 refine ⟨fun h => ?_, fun h => ?_⟩
 ·conv => whnf
  have h : (i : Int) < (p.tr.length : Int) := h
  have hlt : i < p.tr.length := by omega
  have hix : (0 : Int) ≤ (i : Int) ∧ (i : Int) < (p.tr.length : Int) := ⟨by omega, h⟩
  have bad : okT8 p.tr[i] = false → isPartB p = false := fun hb => by
   have : p.tr.all okT8 = false := by
    rw [Bool.eq_false_iff]
    intro ha
    rw [List.all_eq_true] at ha
    rw [ha _ (List.getElem_mem hlt)] at hb
    cases hb
   unfold isPartB isTextB
   rw [this, Bool.and_false, Bool.and_false, Bool.false_and]
  refine ⟨hix, p.tr[i], List.getElem?_eq_getElem hlt, ?_⟩
  conv => whnf
  refine ⟨fun b1 => ?_, fun b1 => ?_⟩
  ·have b1 : (p.tr[i].toNat : Int) < 32 := b1
   conv => whnf
   exact ⟨congrArg PV.bool (bad (by unfold okT8; rw [decide_eq_false (show ¬ 32 ≤ p.tr[i].toNat by omega), Bool.false_and])).symm, rfl⟩
  have b1 : ¬ (p.tr[i].toNat : Int) < 32 := b1
  conv => whnf
  refine ⟨hix, p.tr[i], List.getElem?_eq_getElem hlt, ?_⟩
  conv => whnf
  refine ⟨fun b2 => ?_, fun b2 => ?_⟩
  ·have b2 : (p.tr[i].toNat : Int) > 126 := b2
   conv => whnf
   exact ⟨congrArg PV.bool (bad (by unfold okT8; rw [decide_eq_false (show ¬ p.tr[i].toNat ≤ 126 by omega), Bool.and_false])).symm, rfl⟩
  have b2 : ¬ (p.tr[i].toNat : Int) > 126 := b2
  conv => whnf
  refine ⟨⟨i + 1⟩, ⟨hlt, ?_⟩, ⟨rfl, ?_, trivial⟩, rfl, by show p.tr.length - (i + 1) < p.tr.length - i; omega⟩
  ·show (p.tr.take (i + 1)).all okT8 = true
   rw [List.take_succ_eq_append_getElem hlt, List.all_append, hall]
   show (true && (okT8 p.tr[i] && true)) = true
   unfold okT8
   rw [decide_eq_true (show 32 ≤ p.tr[i].toNat by omega), decide_eq_true (show p.tr[i].toNat ≤ 126 by omega)]; rfl
  ·show PV.int _ (IntKind.i64.wrap ((i : Int) + 1)) = PV.int _ ((i + 1 : Nat) : Int)
   rw [wrap64 (by omega) (by omega)]; rfl
 ·conv => whnf
  have h : ¬ (i : Int) < (p.tr.length : Int) := h
  rw [List.take_of_length_le (by omega)] at hall
  refine callK_pure (c32 p.r p.n (by omega) (by omega)) ?_
  cases f1 : isPrincB p.r p.n
  ·conv => whnf
   exact ⟨congrArg PV.bool (by unfold isPartB isTextB; simp only [hall, f1, Bool.and_true, Bool.true_and, Bool.and_false, Bool.false_and]), rfl⟩
  conv => whnf
  refine ⟨fun h => ?_, fun h => ?_⟩
  rotate_left
  ·have f2 : decide (p.tr.length ≤ 300) = false := decide_eq_false (fun hh => h (show (p.tr.length : Int) ≤ 300 by omega))
   conv => whnf
   exact ⟨congrArg PV.bool (by unfold isPartB isTextB; simp only [hall, f1, f2, Bool.and_true, Bool.true_and, Bool.and_false, Bool.false_and]), rfl⟩
  have f2 : decide (p.tr.length ≤ 300) = true := decide_eq_true (by have h : (p.tr.length : Int) ≤ 300 := h; omega)
  conv => whnf
  refine callK_pure (c64 p.st 0 1073741824) ?_
  cases f3 : inZ p.st 0 1073741824
  ·conv => whnf
   exact ⟨congrArg PV.bool (by unfold isPartB isTextB; simp only [hall, f1, f2, f3, Bool.and_true, Bool.true_and, Bool.and_false, Bool.false_and]), rfl⟩
  conv => whnf
  refine callK_pure (c64 p.en 0 1073741824) ?_
  cases f4 : inZ p.en 0 1073741824
  ·conv => whnf
   exact ⟨congrArg PV.bool (by unfold isPartB isTextB; simp only [hall, f1, f2, f3, f4, Bool.and_true, Bool.true_and, Bool.and_false, Bool.false_and]), rfl⟩
  conv => whnf
  exact ⟨congrArg PV.bool (by unfold isPartB isTextB; simp only [hall, f1, f2, f3, f4, Bool.and_true, Bool.true_and, Bool.and_false, Bool.false_and]), rfl⟩
theorem c121 (p : Rpt) (hr : p.r.length ≤ 1099511627775) (hn : p.n.length ≤ 1099511627775) : Pure prog 121 [.agg p.cells] (.bool (isRptB p)) := by
 intro H
 (refine fnS (imm := imm121) ttQ_ok func121 ?_; (conv => whnf))
 refine callK_pure (c32 p.r p.n (by omega) (by omega)) ?_
 cases f0 : isPrincB p.r p.n
 ·conv => whnf
  exact ⟨congrArg PV.bool (by unfold isRptB; simp only [f0, Bool.and_true, Bool.true_and, Bool.and_false, Bool.false_and]), rfl⟩
 conv => whnf
 refine callK_pure (c64 p.st 0 1073741824) ?_
 cases f1 : inZ p.st 0 1073741824
 ·conv => whnf
  exact ⟨congrArg PV.bool (by unfold isRptB; simp only [f0, f1, Bool.and_true, Bool.true_and, Bool.and_false, Bool.false_and]), rfl⟩
 conv => whnf
 refine callK_pure (c64 p.en 0 1073741824) ?_
 cases f2 : inZ p.en 0 1073741824
 ·conv => whnf
  exact ⟨congrArg PV.bool (by unfold isRptB; simp only [f0, f1, f2, Bool.and_true, Bool.true_and, Bool.and_false, Bool.false_and]), rfl⟩
 conv => whnf
 refine callK_pure (c64 p.nc 0 1073741824) ?_
 cases f3 : inZ p.nc 0 1073741824
 ·conv => whnf
  exact ⟨congrArg PV.bool (by unfold isRptB; simp only [f0, f1, f2, f3, Bool.and_true, Bool.true_and, Bool.and_false, Bool.false_and]), rfl⟩
 conv => whnf
 exact ⟨congrArg PV.bool (by unfold isRptB; simp only [f0, f1, f2, f3, Bool.and_true, Bool.true_and, Bool.and_false, Bool.false_and]), rfl⟩
end Go.Proofs.Tryz
