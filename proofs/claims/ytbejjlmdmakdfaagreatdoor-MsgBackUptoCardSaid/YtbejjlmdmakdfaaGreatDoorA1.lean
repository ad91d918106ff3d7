import Derived.Test.YtbejjlmdmakdfaaGreatDoorA0
import Derived.Test.YtbejjlmdmakdfaaGreatDoorCards
import Derived.Test.YtbejjlmdmakdfaaGreatDoorTie
import Derived.WalkKit
import Derived.ProofKit
import Derived.OpenShut
import Derived.Deep.DeepHandedRow
import Derived.Lib.LaidTab
import Derived.Shelf.GgClosure.StringsRunes
set_option linter.all false
set_option maxRecDepth 100000
set_option maxHeartbeats 2000000
set_option linter.unusedVariables false
set_option linter.unusedSimpArgs false
namespace Go.Proofs.Tryz
open Go Ps
theorem c101 (m : Msg) (hm : m.fits) : Pure prog 101 [.agg m.cells] (.bool (isB m)) := by
  intro H
  (refine callOk_of_pFun2 (tt := ttG) (imm := imm101) follows ttG_ok depth6 func101 (by kernel_rfl) ?_; (conv => whnf))
  refine cutK_of [(1, .elem m.cells), (3, .int .i64 m.kind), (4, .bool (noAs m)), (5, .bool (noTgs m))] H ?_ ?_
  rotate_left
  · refine drawK_pure2 (by kernel_rfl) ?_
    (conv => whnf)
    (apply Exists.intro; apply And.intro; (focus ((conv => whnf); first | exact ⟨rfl, rfl, trivial⟩ | (refine ⟨by omega, ?_⟩; (conv => whnf); exact ⟨rfl, rfl, trivial⟩))); (conv => whnf))
    (apply Exists.intro; apply And.intro; (focus ((conv => whnf); first | exact ⟨rfl, rfl, trivial⟩ | (refine ⟨by omega, ?_⟩; (conv => whnf); exact ⟨rfl, rfl, trivial⟩))); (conv => whnf))
    (apply Exists.intro; apply And.intro; (focus ((conv => whnf); first | exact ⟨rfl, rfl, trivial⟩ | (refine ⟨by omega, ?_⟩; (conv => whnf); exact ⟨rfl, rfl, trivial⟩))); (conv => whnf))
    cases f1 : noAs m
    · refine ⟨.bool false, ?_, ?_⟩
      · (conv => whnf)
        refine ⟨⟨fitA _ _ _ _ _ _, fitA [] [] [] [] 0 0⟩, ?_⟩
        (conv => whnf)
        exact ⟨fun h => (of_decide_eq_false f1 (Iff.mp as_eq h)).elim, fun _ => ⟨rfl, rfl, trivial⟩⟩
      (conv => whnf)
      (apply Exists.intro; apply And.intro; (focus ((conv => whnf); first | exact ⟨rfl, rfl, trivial⟩ | (refine ⟨by omega, ?_⟩; (conv => whnf); exact ⟨rfl, rfl, trivial⟩))); (conv => whnf))
      (apply Exists.intro; apply And.intro; (focus ((conv => whnf); first | exact ⟨rfl, rfl, trivial⟩ | (refine ⟨by omega, ?_⟩; (conv => whnf); exact ⟨rfl, rfl, trivial⟩))); (conv => whnf))
      (apply Exists.intro; apply And.intro; (focus ((conv => whnf); first | exact ⟨rfl, rfl, trivial⟩ | (refine ⟨by omega, ?_⟩; (conv => whnf); exact ⟨rfl, rfl, trivial⟩))); (conv => whnf))
      refine ⟨_, callK_pure (c147 m.t1 m.t2 m.tKv m.tB none) ⟨rfl, rfl, trivial⟩, ?_⟩
      (conv => whnf)
      cases f2 : noTk m.t1 m.t2 m.tKv m.tB.length
      · skip
        (apply Exists.intro; apply And.intro; (focus ((conv => whnf); first | exact ⟨rfl, rfl, trivial⟩ | (refine ⟨by omega, ?_⟩; (conv => whnf); exact ⟨rfl, rfl, trivial⟩))); (conv => whnf))
        (apply Exists.intro; apply And.intro; (focus ((conv => whnf); first | exact ⟨rfl, rfl, trivial⟩ | (refine ⟨by omega, ?_⟩; (conv => whnf); exact ⟨rfl, rfl, trivial⟩))); (conv => whnf))
        (apply Exists.intro; apply And.intro; (focus ((conv => whnf); first | exact ⟨rfl, rfl, trivial⟩ | (refine ⟨by omega, ?_⟩; (conv => whnf); exact ⟨rfl, rfl, trivial⟩))); (conv => whnf))
        (apply Exists.intro; apply And.intro; (focus ((conv => whnf); first | exact ⟨rfl, rfl, trivial⟩ | (refine ⟨by omega, ?_⟩; (conv => whnf); exact ⟨rfl, rfl, trivial⟩))); (conv => whnf))
        (apply Exists.intro; apply And.intro; (focus ((conv => whnf); first | exact ⟨rfl, rfl, trivial⟩ | (refine ⟨by omega, ?_⟩; (conv => whnf); exact ⟨rfl, rfl, trivial⟩))); (conv => whnf))
        (apply Exists.intro; apply And.intro; (focus ((conv => whnf); first | exact ⟨rfl, rfl, trivial⟩ | (refine ⟨by omega, ?_⟩; (conv => whnf); exact ⟨rfl, rfl, trivial⟩))); (conv => whnf))
        (apply Exists.intro; apply And.intro; (focus ((conv => whnf); first | exact ⟨rfl, rfl, trivial⟩ | (refine ⟨by omega, ?_⟩; (conv => whnf); exact ⟨rfl, rfl, trivial⟩))); (conv => whnf))
        (apply Exists.intro; apply And.intro; (focus ((conv => whnf); first | exact ⟨rfl, rfl, trivial⟩ | (refine ⟨by omega, ?_⟩; (conv => whnf); exact ⟨rfl, rfl, trivial⟩))); (conv => whnf))
        (apply Exists.intro; apply And.intro; (focus ((conv => whnf); first | exact ⟨rfl, rfl, trivial⟩ | (refine ⟨by omega, ?_⟩; (conv => whnf); exact ⟨rfl, rfl, trivial⟩))); (conv => whnf))
        (apply Exists.intro; apply And.intro; (focus ((conv => whnf); first | exact ⟨rfl, rfl, trivial⟩ | (refine ⟨by omega, ?_⟩; (conv => whnf); exact ⟨rfl, rfl, trivial⟩))); (conv => whnf))
        (apply Exists.intro; apply And.intro; (focus ((conv => whnf); first | exact ⟨rfl, rfl, trivial⟩ | (refine ⟨by omega, ?_⟩; (conv => whnf); exact ⟨rfl, rfl, trivial⟩))); (conv => whnf))
        (apply Exists.intro; apply And.intro; (focus ((conv => whnf); first | exact ⟨rfl, rfl, trivial⟩ | (refine ⟨by omega, ?_⟩; (conv => whnf); exact ⟨rfl, rfl, trivial⟩))); (conv => whnf))
        (apply Exists.intro; apply And.intro; (focus ((conv => whnf); first | exact ⟨rfl, rfl, trivial⟩ | (refine ⟨by omega, ?_⟩; (conv => whnf); exact ⟨rfl, rfl, trivial⟩))); (conv => whnf))
        (apply Exists.intro; apply And.intro; (focus ((conv => whnf); first | exact ⟨rfl, rfl, trivial⟩ | (refine ⟨by omega, ?_⟩; (conv => whnf); exact ⟨rfl, rfl, trivial⟩))); (conv => whnf))
        (apply Exists.intro; apply And.intro; (focus ((conv => whnf); first | exact ⟨rfl, rfl, trivial⟩ | (refine ⟨by omega, ?_⟩; (conv => whnf); exact ⟨rfl, rfl, trivial⟩))); (conv => whnf))
        (apply Exists.intro; apply And.intro; (focus ((conv => whnf); first | exact ⟨rfl, rfl, trivial⟩ | (refine ⟨by omega, ?_⟩; (conv => whnf); exact ⟨rfl, rfl, trivial⟩))); (conv => whnf))
        (apply Exists.intro; apply And.intro; (focus ((conv => whnf); first | exact ⟨rfl, rfl, trivial⟩ | (refine ⟨by omega, ?_⟩; (conv => whnf); exact ⟨rfl, rfl, trivial⟩))); (conv => whnf))
        (apply Exists.intro; apply And.intro; (focus ((conv => whnf); first | exact ⟨rfl, rfl, trivial⟩ | (refine ⟨by omega, ?_⟩; (conv => whnf); exact ⟨rfl, rfl, trivial⟩))); (conv => whnf))
        (apply Exists.intro; apply And.intro; (focus ((conv => whnf); first | exact ⟨rfl, rfl, trivial⟩ | (refine ⟨by omega, ?_⟩; (conv => whnf); exact ⟨rfl, rfl, trivial⟩))); (conv => whnf))
        (apply Exists.intro; apply And.intro; (focus ((conv => whnf); first | exact ⟨rfl, rfl, trivial⟩ | (refine ⟨by omega, ?_⟩; (conv => whnf); exact ⟨rfl, rfl, trivial⟩))); (conv => whnf))
        (apply Exists.intro; apply And.intro; (focus ((conv => whnf); first | exact ⟨rfl, rfl, trivial⟩ | (refine ⟨by omega, ?_⟩; (conv => whnf); exact ⟨rfl, rfl, trivial⟩))); (conv => whnf))
        (apply Exists.intro; apply And.intro; (focus ((conv => whnf); first | exact ⟨rfl, rfl, trivial⟩ | (refine ⟨by omega, ?_⟩; (conv => whnf); exact ⟨rfl, rfl, trivial⟩))); (conv => whnf))
        (apply Exists.intro; apply And.intro; (focus ((conv => whnf); first | exact ⟨rfl, rfl, trivial⟩ | (refine ⟨by omega, ?_⟩; (conv => whnf); exact ⟨rfl, rfl, trivial⟩))); (conv => whnf))
        (apply Exists.intro; apply And.intro; (focus ((conv => whnf); first | exact ⟨rfl, rfl, trivial⟩ | (refine ⟨by omega, ?_⟩; (conv => whnf); exact ⟨rfl, rfl, trivial⟩))); (conv => whnf))
        (apply Exists.intro; apply And.intro; (focus ((conv => whnf); first | exact ⟨rfl, rfl, trivial⟩ | (refine ⟨by omega, ?_⟩; (conv => whnf); exact ⟨rfl, rfl, trivial⟩))); (conv => whnf))
        (apply Exists.intro; apply And.intro; (focus ((conv => whnf); first | exact ⟨rfl, rfl, trivial⟩ | (refine ⟨by omega, ?_⟩; (conv => whnf); exact ⟨rfl, rfl, trivial⟩))); (conv => whnf))
        (apply Exists.intro; apply And.intro; (focus ((conv => whnf); first | exact ⟨rfl, rfl, trivial⟩ | (refine ⟨by omega, ?_⟩; (conv => whnf); exact ⟨rfl, rfl, trivial⟩))); (conv => whnf))
        (apply Exists.intro; apply And.intro; (focus ((conv => whnf); first | exact ⟨rfl, rfl, trivial⟩ | (refine ⟨by omega, ?_⟩; (conv => whnf); exact ⟨rfl, rfl, trivial⟩))); (conv => whnf))
        exact ⟨(), trivial, ⟨rfl, rfl, rfl, congrArg PV.bool (by unfold noTgs; simp only [f2, Bool.and_true, Bool.true_and, Bool.and_false, Bool.false_and]), trivial⟩, rfl⟩
      (apply Exists.intro; apply And.intro; (focus ((conv => whnf); first | exact ⟨rfl, rfl, trivial⟩ | (refine ⟨by omega, ?_⟩; (conv => whnf); exact ⟨rfl, rfl, trivial⟩))); (conv => whnf))
      (apply Exists.intro; apply And.intro; (focus ((conv => whnf); first | exact ⟨rfl, rfl, trivial⟩ | (refine ⟨by omega, ?_⟩; (conv => whnf); exact ⟨rfl, rfl, trivial⟩))); (conv => whnf))
      (apply Exists.intro; apply And.intro; (focus ((conv => whnf); first | exact ⟨rfl, rfl, trivial⟩ | (refine ⟨by omega, ?_⟩; (conv => whnf); exact ⟨rfl, rfl, trivial⟩))); (conv => whnf))
      (apply Exists.intro; apply And.intro; (focus ((conv => whnf); first | exact ⟨rfl, rfl, trivial⟩ | (refine ⟨by omega, ?_⟩; (conv => whnf); exact ⟨rfl, rfl, trivial⟩))); (conv => whnf))
      (apply Exists.intro; apply And.intro; (focus ((conv => whnf); first | exact ⟨rfl, rfl, trivial⟩ | (refine ⟨by omega, ?_⟩; (conv => whnf); exact ⟨rfl, rfl, trivial⟩))); (conv => whnf))
      cases f3 : decide (m.tAu.length = 0)
      · refine ⟨.bool false, ?_, ?_⟩
        · (conv => whnf)
          exact ⟨fun h => (of_decide_eq_false f3 (Iff.mp nat0 h)).elim, fun _ => ⟨rfl, rfl, trivial⟩⟩
        (conv => whnf)
        (apply Exists.intro; apply And.intro; (focus ((conv => whnf); first | exact ⟨rfl, rfl, trivial⟩ | (refine ⟨by omega, ?_⟩; (conv => whnf); exact ⟨rfl, rfl, trivial⟩))); (conv => whnf))
        (apply Exists.intro; apply And.intro; (focus ((conv => whnf); first | exact ⟨rfl, rfl, trivial⟩ | (refine ⟨by omega, ?_⟩; (conv => whnf); exact ⟨rfl, rfl, trivial⟩))); (conv => whnf))
        (apply Exists.intro; apply And.intro; (focus ((conv => whnf); first | exact ⟨rfl, rfl, trivial⟩ | (refine ⟨by omega, ?_⟩; (conv => whnf); exact ⟨rfl, rfl, trivial⟩))); (conv => whnf))
        (apply Exists.intro; apply And.intro; (focus ((conv => whnf); first | exact ⟨rfl, rfl, trivial⟩ | (refine ⟨by omega, ?_⟩; (conv => whnf); exact ⟨rfl, rfl, trivial⟩))); (conv => whnf))
        (apply Exists.intro; apply And.intro; (focus ((conv => whnf); first | exact ⟨rfl, rfl, trivial⟩ | (refine ⟨by omega, ?_⟩; (conv => whnf); exact ⟨rfl, rfl, trivial⟩))); (conv => whnf))
        (apply Exists.intro; apply And.intro; (focus ((conv => whnf); first | exact ⟨rfl, rfl, trivial⟩ | (refine ⟨by omega, ?_⟩; (conv => whnf); exact ⟨rfl, rfl, trivial⟩))); (conv => whnf))
        (apply Exists.intro; apply And.intro; (focus ((conv => whnf); first | exact ⟨rfl, rfl, trivial⟩ | (refine ⟨by omega, ?_⟩; (conv => whnf); exact ⟨rfl, rfl, trivial⟩))); (conv => whnf))
        (apply Exists.intro; apply And.intro; (focus ((conv => whnf); first | exact ⟨rfl, rfl, trivial⟩ | (refine ⟨by omega, ?_⟩; (conv => whnf); exact ⟨rfl, rfl, trivial⟩))); (conv => whnf))
        (apply Exists.intro; apply And.intro; (focus ((conv => whnf); first | exact ⟨rfl, rfl, trivial⟩ | (refine ⟨by omega, ?_⟩; (conv => whnf); exact ⟨rfl, rfl, trivial⟩))); (conv => whnf))
        (apply Exists.intro; apply And.intro; (focus ((conv => whnf); first | exact ⟨rfl, rfl, trivial⟩ | (refine ⟨by omega, ?_⟩; (conv => whnf); exact ⟨rfl, rfl, trivial⟩))); (conv => whnf))
        (apply Exists.intro; apply And.intro; (focus ((conv => whnf); first | exact ⟨rfl, rfl, trivial⟩ | (refine ⟨by omega, ?_⟩; (conv => whnf); exact ⟨rfl, rfl, trivial⟩))); (conv => whnf))
        (apply Exists.intro; apply And.intro; (focus ((conv => whnf); first | exact ⟨rfl, rfl, trivial⟩ | (refine ⟨by omega, ?_⟩; (conv => whnf); exact ⟨rfl, rfl, trivial⟩))); (conv => whnf))
        (apply Exists.intro; apply And.intro; (focus ((conv => whnf); first | exact ⟨rfl, rfl, trivial⟩ | (refine ⟨by omega, ?_⟩; (conv => whnf); exact ⟨rfl, rfl, trivial⟩))); (conv => whnf))
        (apply Exists.intro; apply And.intro; (focus ((conv => whnf); first | exact ⟨rfl, rfl, trivial⟩ | (refine ⟨by omega, ?_⟩; (conv => whnf); exact ⟨rfl, rfl, trivial⟩))); (conv => whnf))
        (apply Exists.intro; apply And.intro; (focus ((conv => whnf); first | exact ⟨rfl, rfl, trivial⟩ | (refine ⟨by omega, ?_⟩; (conv => whnf); exact ⟨rfl, rfl, trivial⟩))); (conv => whnf))
        (apply Exists.intro; apply And.intro; (focus ((conv => whnf); first | exact ⟨rfl, rfl, trivial⟩ | (refine ⟨by omega, ?_⟩; (conv => whnf); exact ⟨rfl, rfl, trivial⟩))); (conv => whnf))
        (apply Exists.intro; apply And.intro; (focus ((conv => whnf); first | exact ⟨rfl, rfl, trivial⟩ | (refine ⟨by omega, ?_⟩; (conv => whnf); exact ⟨rfl, rfl, trivial⟩))); (conv => whnf))
        (apply Exists.intro; apply And.intro; (focus ((conv => whnf); first | exact ⟨rfl, rfl, trivial⟩ | (refine ⟨by omega, ?_⟩; (conv => whnf); exact ⟨rfl, rfl, trivial⟩))); (conv => whnf))
        (apply Exists.intro; apply And.intro; (focus ((conv => whnf); first | exact ⟨rfl, rfl, trivial⟩ | (refine ⟨by omega, ?_⟩; (conv => whnf); exact ⟨rfl, rfl, trivial⟩))); (conv => whnf))
        (apply Exists.intro; apply And.intro; (focus ((conv => whnf); first | exact ⟨rfl, rfl, trivial⟩ | (refine ⟨by omega, ?_⟩; (conv => whnf); exact ⟨rfl, rfl, trivial⟩))); (conv => whnf))
        (apply Exists.intro; apply And.intro; (focus ((conv => whnf); first | exact ⟨rfl, rfl, trivial⟩ | (refine ⟨by omega, ?_⟩; (conv => whnf); exact ⟨rfl, rfl, trivial⟩))); (conv => whnf))
        (apply Exists.intro; apply And.intro; (focus ((conv => whnf); first | exact ⟨rfl, rfl, trivial⟩ | (refine ⟨by omega, ?_⟩; (conv => whnf); exact ⟨rfl, rfl, trivial⟩))); (conv => whnf))
        exact ⟨(), trivial, ⟨rfl, rfl, rfl, congrArg PV.bool (by unfold noTgs; simp only [f2, f3, Bool.and_true, Bool.true_and, Bool.and_false, Bool.false_and]), trivial⟩, rfl⟩
      refine ⟨.bool true, ?_, ?_⟩
      · (conv => whnf)
        exact ⟨fun _ => ⟨rfl, rfl, trivial⟩, fun h => (h (Iff.mpr nat0 (of_decide_eq_true f3))).elim⟩
      (conv => whnf)
      (apply Exists.intro; apply And.intro; (focus ((conv => whnf); first | exact ⟨rfl, rfl, trivial⟩ | (refine ⟨by omega, ?_⟩; (conv => whnf); exact ⟨rfl, rfl, trivial⟩))); (conv => whnf))
      (apply Exists.intro; apply And.intro; (focus ((conv => whnf); first | exact ⟨rfl, rfl, trivial⟩ | (refine ⟨by omega, ?_⟩; (conv => whnf); exact ⟨rfl, rfl, trivial⟩))); (conv => whnf))
      (apply Exists.intro; apply And.intro; (focus ((conv => whnf); first | exact ⟨rfl, rfl, trivial⟩ | (refine ⟨by omega, ?_⟩; (conv => whnf); exact ⟨rfl, rfl, trivial⟩))); (conv => whnf))
      (apply Exists.intro; apply And.intro; (focus ((conv => whnf); first | exact ⟨rfl, rfl, trivial⟩ | (refine ⟨by omega, ?_⟩; (conv => whnf); exact ⟨rfl, rfl, trivial⟩))); (conv => whnf))
      (apply Exists.intro; apply And.intro; (focus ((conv => whnf); first | exact ⟨rfl, rfl, trivial⟩ | (refine ⟨by omega, ?_⟩; (conv => whnf); exact ⟨rfl, rfl, trivial⟩))); (conv => whnf))
      (apply Exists.intro; apply And.intro; (focus ((conv => whnf); first | exact ⟨rfl, rfl, trivial⟩ | (refine ⟨by omega, ?_⟩; (conv => whnf); exact ⟨rfl, rfl, trivial⟩))); (conv => whnf))
      cases f4 : decide (m.t3 = [] ∧ m.t4 = [])
      · refine ⟨.bool false, ?_, ?_⟩
        · (conv => whnf)
          refine ⟨⟨fitG _ _, fitG [] []⟩, ?_⟩
          (conv => whnf)
          exact ⟨fun h => (of_decide_eq_false f4 (Iff.mp pr_eq h)).elim, fun _ => ⟨rfl, rfl, trivial⟩⟩
        (conv => whnf)
        (apply Exists.intro; apply And.intro; (focus ((conv => whnf); first | exact ⟨rfl, rfl, trivial⟩ | (refine ⟨by omega, ?_⟩; (conv => whnf); exact ⟨rfl, rfl, trivial⟩))); (conv => whnf))
        (apply Exists.intro; apply And.intro; (focus ((conv => whnf); first | exact ⟨rfl, rfl, trivial⟩ | (refine ⟨by omega, ?_⟩; (conv => whnf); exact ⟨rfl, rfl, trivial⟩))); (conv => whnf))
        (apply Exists.intro; apply And.intro; (focus ((conv => whnf); first | exact ⟨rfl, rfl, trivial⟩ | (refine ⟨by omega, ?_⟩; (conv => whnf); exact ⟨rfl, rfl, trivial⟩))); (conv => whnf))
        (apply Exists.intro; apply And.intro; (focus ((conv => whnf); first | exact ⟨rfl, rfl, trivial⟩ | (refine ⟨by omega, ?_⟩; (conv => whnf); exact ⟨rfl, rfl, trivial⟩))); (conv => whnf))
        (apply Exists.intro; apply And.intro; (focus ((conv => whnf); first | exact ⟨rfl, rfl, trivial⟩ | (refine ⟨by omega, ?_⟩; (conv => whnf); exact ⟨rfl, rfl, trivial⟩))); (conv => whnf))
        (apply Exists.intro; apply And.intro; (focus ((conv => whnf); first | exact ⟨rfl, rfl, trivial⟩ | (refine ⟨by omega, ?_⟩; (conv => whnf); exact ⟨rfl, rfl, trivial⟩))); (conv => whnf))
        (apply Exists.intro; apply And.intro; (focus ((conv => whnf); first | exact ⟨rfl, rfl, trivial⟩ | (refine ⟨by omega, ?_⟩; (conv => whnf); exact ⟨rfl, rfl, trivial⟩))); (conv => whnf))
        (apply Exists.intro; apply And.intro; (focus ((conv => whnf); first | exact ⟨rfl, rfl, trivial⟩ | (refine ⟨by omega, ?_⟩; (conv => whnf); exact ⟨rfl, rfl, trivial⟩))); (conv => whnf))
        (apply Exists.intro; apply And.intro; (focus ((conv => whnf); first | exact ⟨rfl, rfl, trivial⟩ | (refine ⟨by omega, ?_⟩; (conv => whnf); exact ⟨rfl, rfl, trivial⟩))); (conv => whnf))
        (apply Exists.intro; apply And.intro; (focus ((conv => whnf); first | exact ⟨rfl, rfl, trivial⟩ | (refine ⟨by omega, ?_⟩; (conv => whnf); exact ⟨rfl, rfl, trivial⟩))); (conv => whnf))
        (apply Exists.intro; apply And.intro; (focus ((conv => whnf); first | exact ⟨rfl, rfl, trivial⟩ | (refine ⟨by omega, ?_⟩; (conv => whnf); exact ⟨rfl, rfl, trivial⟩))); (conv => whnf))
        (apply Exists.intro; apply And.intro; (focus ((conv => whnf); first | exact ⟨rfl, rfl, trivial⟩ | (refine ⟨by omega, ?_⟩; (conv => whnf); exact ⟨rfl, rfl, trivial⟩))); (conv => whnf))
        (apply Exists.intro; apply And.intro; (focus ((conv => whnf); first | exact ⟨rfl, rfl, trivial⟩ | (refine ⟨by omega, ?_⟩; (conv => whnf); exact ⟨rfl, rfl, trivial⟩))); (conv => whnf))
        (apply Exists.intro; apply And.intro; (focus ((conv => whnf); first | exact ⟨rfl, rfl, trivial⟩ | (refine ⟨by omega, ?_⟩; (conv => whnf); exact ⟨rfl, rfl, trivial⟩))); (conv => whnf))
        (apply Exists.intro; apply And.intro; (focus ((conv => whnf); first | exact ⟨rfl, rfl, trivial⟩ | (refine ⟨by omega, ?_⟩; (conv => whnf); exact ⟨rfl, rfl, trivial⟩))); (conv => whnf))
        exact ⟨(), trivial, ⟨rfl, rfl, rfl, congrArg PV.bool (by unfold noTgs; simp only [f2, f3, f4, Bool.and_true, Bool.true_and, Bool.and_false, Bool.false_and]), trivial⟩, rfl⟩
      refine ⟨.bool true, ?_, ?_⟩
      · (conv => whnf)
        refine ⟨⟨fitG _ _, fitG [] []⟩, ?_⟩
        (conv => whnf)
        exact ⟨fun _ => ⟨rfl, rfl, trivial⟩, fun h => (h (Iff.mpr pr_eq (of_decide_eq_true f4))).elim⟩
      (conv => whnf)
      (apply Exists.intro; apply And.intro; (focus ((conv => whnf); first | exact ⟨rfl, rfl, trivial⟩ | (refine ⟨by omega, ?_⟩; (conv => whnf); exact ⟨rfl, rfl, trivial⟩))); (conv => whnf))
      (apply Exists.intro; apply And.intro; (focus ((conv => whnf); first | exact ⟨rfl, rfl, trivial⟩ | (refine ⟨by omega, ?_⟩; (conv => whnf); exact ⟨rfl, rfl, trivial⟩))); (conv => whnf))
      (apply Exists.intro; apply And.intro; (focus ((conv => whnf); first | exact ⟨rfl, rfl, trivial⟩ | (refine ⟨by omega, ?_⟩; (conv => whnf); exact ⟨rfl, rfl, trivial⟩))); (conv => whnf))
      (apply Exists.intro; apply And.intro; (focus ((conv => whnf); first | exact ⟨rfl, rfl, trivial⟩ | (refine ⟨by omega, ?_⟩; (conv => whnf); exact ⟨rfl, rfl, trivial⟩))); (conv => whnf))
      (apply Exists.intro; apply And.intro; (focus ((conv => whnf); first | exact ⟨rfl, rfl, trivial⟩ | (refine ⟨by omega, ?_⟩; (conv => whnf); exact ⟨rfl, rfl, trivial⟩))); (conv => whnf))
      cases f5 : decide (m.tTill = 0)
      · refine ⟨.bool false, ?_, ?_⟩
        · (conv => whnf)
          exact ⟨fun h => (of_decide_eq_false f5 (Iff.mp Iff.rfl h)).elim, fun _ => ⟨rfl, rfl, trivial⟩⟩
        (conv => whnf)
        (apply Exists.intro; apply And.intro; (focus ((conv => whnf); first | exact ⟨rfl, rfl, trivial⟩ | (refine ⟨by omega, ?_⟩; (conv => whnf); exact ⟨rfl, rfl, trivial⟩))); (conv => whnf))
        (apply Exists.intro; apply And.intro; (focus ((conv => whnf); first | exact ⟨rfl, rfl, trivial⟩ | (refine ⟨by omega, ?_⟩; (conv => whnf); exact ⟨rfl, rfl, trivial⟩))); (conv => whnf))
        (apply Exists.intro; apply And.intro; (focus ((conv => whnf); first | exact ⟨rfl, rfl, trivial⟩ | (refine ⟨by omega, ?_⟩; (conv => whnf); exact ⟨rfl, rfl, trivial⟩))); (conv => whnf))
        (apply Exists.intro; apply And.intro; (focus ((conv => whnf); first | exact ⟨rfl, rfl, trivial⟩ | (refine ⟨by omega, ?_⟩; (conv => whnf); exact ⟨rfl, rfl, trivial⟩))); (conv => whnf))
        (apply Exists.intro; apply And.intro; (focus ((conv => whnf); first | exact ⟨rfl, rfl, trivial⟩ | (refine ⟨by omega, ?_⟩; (conv => whnf); exact ⟨rfl, rfl, trivial⟩))); (conv => whnf))
        (apply Exists.intro; apply And.intro; (focus ((conv => whnf); first | exact ⟨rfl, rfl, trivial⟩ | (refine ⟨by omega, ?_⟩; (conv => whnf); exact ⟨rfl, rfl, trivial⟩))); (conv => whnf))
        (apply Exists.intro; apply And.intro; (focus ((conv => whnf); first | exact ⟨rfl, rfl, trivial⟩ | (refine ⟨by omega, ?_⟩; (conv => whnf); exact ⟨rfl, rfl, trivial⟩))); (conv => whnf))
        (apply Exists.intro; apply And.intro; (focus ((conv => whnf); first | exact ⟨rfl, rfl, trivial⟩ | (refine ⟨by omega, ?_⟩; (conv => whnf); exact ⟨rfl, rfl, trivial⟩))); (conv => whnf))
        (apply Exists.intro; apply And.intro; (focus ((conv => whnf); first | exact ⟨rfl, rfl, trivial⟩ | (refine ⟨by omega, ?_⟩; (conv => whnf); exact ⟨rfl, rfl, trivial⟩))); (conv => whnf))
        exact ⟨(), trivial, ⟨rfl, rfl, rfl, congrArg PV.bool (by unfold noTgs; simp only [f2, f3, f4, f5, Bool.and_true, Bool.true_and, Bool.and_false, Bool.false_and]), trivial⟩, rfl⟩
      refine ⟨.bool true, ?_, ?_⟩
      · (conv => whnf)
        exact ⟨fun _ => ⟨rfl, rfl, trivial⟩, fun h => (h (Iff.mpr Iff.rfl (of_decide_eq_true f5))).elim⟩
      (conv => whnf)
      (apply Exists.intro; apply And.intro; (focus ((conv => whnf); first | exact ⟨rfl, rfl, trivial⟩ | (refine ⟨by omega, ?_⟩; (conv => whnf); exact ⟨rfl, rfl, trivial⟩))); (conv => whnf))
      (apply Exists.intro; apply And.intro; (focus ((conv => whnf); first | exact ⟨rfl, rfl, trivial⟩ | (refine ⟨by omega, ?_⟩; (conv => whnf); exact ⟨rfl, rfl, trivial⟩))); (conv => whnf))
      (apply Exists.intro; apply And.intro; (focus ((conv => whnf); first | exact ⟨rfl, rfl, trivial⟩ | (refine ⟨by omega, ?_⟩; (conv => whnf); exact ⟨rfl, rfl, trivial⟩))); (conv => whnf))
      (apply Exists.intro; apply And.intro; (focus ((conv => whnf); first | exact ⟨rfl, rfl, trivial⟩ | (refine ⟨by omega, ?_⟩; (conv => whnf); exact ⟨rfl, rfl, trivial⟩))); (conv => whnf))
      (apply Exists.intro; apply And.intro; (focus ((conv => whnf); first | exact ⟨rfl, rfl, trivial⟩ | (refine ⟨by omega, ?_⟩; (conv => whnf); exact ⟨rfl, rfl, trivial⟩))); (conv => whnf))
      cases f6 : decide (m.tNonce = 0)
      · refine ⟨.bool false, ?_, ?_⟩
        · (conv => whnf)
          exact ⟨fun h => (of_decide_eq_false f6 (Iff.mp Iff.rfl h)).elim, fun _ => ⟨rfl, rfl, trivial⟩⟩
        (conv => whnf)
        (apply Exists.intro; apply And.intro; (focus ((conv => whnf); first | exact ⟨rfl, rfl, trivial⟩ | (refine ⟨by omega, ?_⟩; (conv => whnf); exact ⟨rfl, rfl, trivial⟩))); (conv => whnf))
        (apply Exists.intro; apply And.intro; (focus ((conv => whnf); first | exact ⟨rfl, rfl, trivial⟩ | (refine ⟨by omega, ?_⟩; (conv => whnf); exact ⟨rfl, rfl, trivial⟩))); (conv => whnf))
        (apply Exists.intro; apply And.intro; (focus ((conv => whnf); first | exact ⟨rfl, rfl, trivial⟩ | (refine ⟨by omega, ?_⟩; (conv => whnf); exact ⟨rfl, rfl, trivial⟩))); (conv => whnf))
        exact ⟨(), trivial, ⟨rfl, rfl, rfl, congrArg PV.bool (by unfold noTgs; simp only [f2, f3, f4, f5, f6, Bool.and_true, Bool.true_and, Bool.and_false, Bool.false_and]), trivial⟩, rfl⟩
      refine ⟨.bool true, ?_, ?_⟩
      · (conv => whnf)
        exact ⟨fun _ => ⟨rfl, rfl, trivial⟩, fun h => (h (Iff.mpr Iff.rfl (of_decide_eq_true f6))).elim⟩
      (conv => whnf)
      (apply Exists.intro; apply And.intro; (focus ((conv => whnf); first | exact ⟨rfl, rfl, trivial⟩ | (refine ⟨by omega, ?_⟩; (conv => whnf); exact ⟨rfl, rfl, trivial⟩))); (conv => whnf))
      (apply Exists.intro; apply And.intro; (focus ((conv => whnf); first | exact ⟨rfl, rfl, trivial⟩ | (refine ⟨by omega, ?_⟩; (conv => whnf); exact ⟨rfl, rfl, trivial⟩))); (conv => whnf))
      (apply Exists.intro; apply And.intro; (focus ((conv => whnf); first | exact ⟨rfl, rfl, trivial⟩ | (refine ⟨by omega, ?_⟩; (conv => whnf); exact ⟨rfl, rfl, trivial⟩))); (conv => whnf))
      exact ⟨(), trivial, ⟨rfl, rfl, rfl, congrArg PV.bool (by unfold noTgs; simp only [f2, f3, f4, f5, f6, Bool.and_true, Bool.true_and, Bool.and_false, Bool.false_and]), trivial⟩, rfl⟩
    refine ⟨.bool true, ?_, ?_⟩
    · (conv => whnf)
      refine ⟨⟨fitA _ _ _ _ _ _, fitA [] [] [] [] 0 0⟩, ?_⟩
      (conv => whnf)
      exact ⟨fun _ => ⟨rfl, rfl, trivial⟩, fun h => (h (Iff.mpr as_eq (of_decide_eq_true f1))).elim⟩
    (conv => whnf)
    (apply Exists.intro; apply And.intro; (focus ((conv => whnf); first | exact ⟨rfl, rfl, trivial⟩ | (refine ⟨by omega, ?_⟩; (conv => whnf); exact ⟨rfl, rfl, trivial⟩))); (conv => whnf))
    (apply Exists.intro; apply And.intro; (focus ((conv => whnf); first | exact ⟨rfl, rfl, trivial⟩ | (refine ⟨by omega, ?_⟩; (conv => whnf); exact ⟨rfl, rfl, trivial⟩))); (conv => whnf))
    (apply Exists.intro; apply And.intro; (focus ((conv => whnf); first | exact ⟨rfl, rfl, trivial⟩ | (refine ⟨by omega, ?_⟩; (conv => whnf); exact ⟨rfl, rfl, trivial⟩))); (conv => whnf))
    refine ⟨_, callK_pure (c147 m.t1 m.t2 m.tKv m.tB none) ⟨rfl, rfl, trivial⟩, ?_⟩
    (conv => whnf)
    cases f7 : noTk m.t1 m.t2 m.tKv m.tB.length
    · skip
      (apply Exists.intro; apply And.intro; (focus ((conv => whnf); first | exact ⟨rfl, rfl, trivial⟩ | (refine ⟨by omega, ?_⟩; (conv => whnf); exact ⟨rfl, rfl, trivial⟩))); (conv => whnf))
      (apply Exists.intro; apply And.intro; (focus ((conv => whnf); first | exact ⟨rfl, rfl, trivial⟩ | (refine ⟨by omega, ?_⟩; (conv => whnf); exact ⟨rfl, rfl, trivial⟩))); (conv => whnf))
      (apply Exists.intro; apply And.intro; (focus ((conv => whnf); first | exact ⟨rfl, rfl, trivial⟩ | (refine ⟨by omega, ?_⟩; (conv => whnf); exact ⟨rfl, rfl, trivial⟩))); (conv => whnf))
      (apply Exists.intro; apply And.intro; (focus ((conv => whnf); first | exact ⟨rfl, rfl, trivial⟩ | (refine ⟨by omega, ?_⟩; (conv => whnf); exact ⟨rfl, rfl, trivial⟩))); (conv => whnf))
      (apply Exists.intro; apply And.intro; (focus ((conv => whnf); first | exact ⟨rfl, rfl, trivial⟩ | (refine ⟨by omega, ?_⟩; (conv => whnf); exact ⟨rfl, rfl, trivial⟩))); (conv => whnf))
      (apply Exists.intro; apply And.intro; (focus ((conv => whnf); first | exact ⟨rfl, rfl, trivial⟩ | (refine ⟨by omega, ?_⟩; (conv => whnf); exact ⟨rfl, rfl, trivial⟩))); (conv => whnf))
      (apply Exists.intro; apply And.intro; (focus ((conv => whnf); first | exact ⟨rfl, rfl, trivial⟩ | (refine ⟨by omega, ?_⟩; (conv => whnf); exact ⟨rfl, rfl, trivial⟩))); (conv => whnf))
      (apply Exists.intro; apply And.intro; (focus ((conv => whnf); first | exact ⟨rfl, rfl, trivial⟩ | (refine ⟨by omega, ?_⟩; (conv => whnf); exact ⟨rfl, rfl, trivial⟩))); (conv => whnf))
      (apply Exists.intro; apply And.intro; (focus ((conv => whnf); first | exact ⟨rfl, rfl, trivial⟩ | (refine ⟨by omega, ?_⟩; (conv => whnf); exact ⟨rfl, rfl, trivial⟩))); (conv => whnf))
      (apply Exists.intro; apply And.intro; (focus ((conv => whnf); first | exact ⟨rfl, rfl, trivial⟩ | (refine ⟨by omega, ?_⟩; (conv => whnf); exact ⟨rfl, rfl, trivial⟩))); (conv => whnf))
      (apply Exists.intro; apply And.intro; (focus ((conv => whnf); first | exact ⟨rfl, rfl, trivial⟩ | (refine ⟨by omega, ?_⟩; (conv => whnf); exact ⟨rfl, rfl, trivial⟩))); (conv => whnf))
      (apply Exists.intro; apply And.intro; (focus ((conv => whnf); first | exact ⟨rfl, rfl, trivial⟩ | (refine ⟨by omega, ?_⟩; (conv => whnf); exact ⟨rfl, rfl, trivial⟩))); (conv => whnf))
      (apply Exists.intro; apply And.intro; (focus ((conv => whnf); first | exact ⟨rfl, rfl, trivial⟩ | (refine ⟨by omega, ?_⟩; (conv => whnf); exact ⟨rfl, rfl, trivial⟩))); (conv => whnf))
      (apply Exists.intro; apply And.intro; (focus ((conv => whnf); first | exact ⟨rfl, rfl, trivial⟩ | (refine ⟨by omega, ?_⟩; (conv => whnf); exact ⟨rfl, rfl, trivial⟩))); (conv => whnf))
      (apply Exists.intro; apply And.intro; (focus ((conv => whnf); first | exact ⟨rfl, rfl, trivial⟩ | (refine ⟨by omega, ?_⟩; (conv => whnf); exact ⟨rfl, rfl, trivial⟩))); (conv => whnf))
      (apply Exists.intro; apply And.intro; (focus ((conv => whnf); first | exact ⟨rfl, rfl, trivial⟩ | (refine ⟨by omega, ?_⟩; (conv => whnf); exact ⟨rfl, rfl, trivial⟩))); (conv => whnf))
      (apply Exists.intro; apply And.intro; (focus ((conv => whnf); first | exact ⟨rfl, rfl, trivial⟩ | (refine ⟨by omega, ?_⟩; (conv => whnf); exact ⟨rfl, rfl, trivial⟩))); (conv => whnf))
      (apply Exists.intro; apply And.intro; (focus ((conv => whnf); first | exact ⟨rfl, rfl, trivial⟩ | (refine ⟨by omega, ?_⟩; (conv => whnf); exact ⟨rfl, rfl, trivial⟩))); (conv => whnf))
      (apply Exists.intro; apply And.intro; (focus ((conv => whnf); first | exact ⟨rfl, rfl, trivial⟩ | (refine ⟨by omega, ?_⟩; (conv => whnf); exact ⟨rfl, rfl, trivial⟩))); (conv => whnf))
      (apply Exists.intro; apply And.intro; (focus ((conv => whnf); first | exact ⟨rfl, rfl, trivial⟩ | (refine ⟨by omega, ?_⟩; (conv => whnf); exact ⟨rfl, rfl, trivial⟩))); (conv => whnf))
      (apply Exists.intro; apply And.intro; (focus ((conv => whnf); first | exact ⟨rfl, rfl, trivial⟩ | (refine ⟨by omega, ?_⟩; (conv => whnf); exact ⟨rfl, rfl, trivial⟩))); (conv => whnf))
      (apply Exists.intro; apply And.intro; (focus ((conv => whnf); first | exact ⟨rfl, rfl, trivial⟩ | (refine ⟨by omega, ?_⟩; (conv => whnf); exact ⟨rfl, rfl, trivial⟩))); (conv => whnf))
      (apply Exists.intro; apply And.intro; (focus ((conv => whnf); first | exact ⟨rfl, rfl, trivial⟩ | (refine ⟨by omega, ?_⟩; (conv => whnf); exact ⟨rfl, rfl, trivial⟩))); (conv => whnf))
      (apply Exists.intro; apply And.intro; (focus ((conv => whnf); first | exact ⟨rfl, rfl, trivial⟩ | (refine ⟨by omega, ?_⟩; (conv => whnf); exact ⟨rfl, rfl, trivial⟩))); (conv => whnf))
      (apply Exists.intro; apply And.intro; (focus ((conv => whnf); first | exact ⟨rfl, rfl, trivial⟩ | (refine ⟨by omega, ?_⟩; (conv => whnf); exact ⟨rfl, rfl, trivial⟩))); (conv => whnf))
      (apply Exists.intro; apply And.intro; (focus ((conv => whnf); first | exact ⟨rfl, rfl, trivial⟩ | (refine ⟨by omega, ?_⟩; (conv => whnf); exact ⟨rfl, rfl, trivial⟩))); (conv => whnf))
      (apply Exists.intro; apply And.intro; (focus ((conv => whnf); first | exact ⟨rfl, rfl, trivial⟩ | (refine ⟨by omega, ?_⟩; (conv => whnf); exact ⟨rfl, rfl, trivial⟩))); (conv => whnf))
      (apply Exists.intro; apply And.intro; (focus ((conv => whnf); first | exact ⟨rfl, rfl, trivial⟩ | (refine ⟨by omega, ?_⟩; (conv => whnf); exact ⟨rfl, rfl, trivial⟩))); (conv => whnf))
      exact ⟨(), trivial, ⟨rfl, rfl, rfl, congrArg PV.bool (by unfold noTgs; simp only [f7, Bool.and_true, Bool.true_and, Bool.and_false, Bool.false_and]), trivial⟩, rfl⟩
    (apply Exists.intro; apply And.intro; (focus ((conv => whnf); first | exact ⟨rfl, rfl, trivial⟩ | (refine ⟨by omega, ?_⟩; (conv => whnf); exact ⟨rfl, rfl, trivial⟩))); (conv => whnf))
    (apply Exists.intro; apply And.intro; (focus ((conv => whnf); first | exact ⟨rfl, rfl, trivial⟩ | (refine ⟨by omega, ?_⟩; (conv => whnf); exact ⟨rfl, rfl, trivial⟩))); (conv => whnf))
    (apply Exists.intro; apply And.intro; (focus ((conv => whnf); first | exact ⟨rfl, rfl, trivial⟩ | (refine ⟨by omega, ?_⟩; (conv => whnf); exact ⟨rfl, rfl, trivial⟩))); (conv => whnf))
    (apply Exists.intro; apply And.intro; (focus ((conv => whnf); first | exact ⟨rfl, rfl, trivial⟩ | (refine ⟨by omega, ?_⟩; (conv => whnf); exact ⟨rfl, rfl, trivial⟩))); (conv => whnf))
    (apply Exists.intro; apply And.intro; (focus ((conv => whnf); first | exact ⟨rfl, rfl, trivial⟩ | (refine ⟨by omega, ?_⟩; (conv => whnf); exact ⟨rfl, rfl, trivial⟩))); (conv => whnf))
    cases f8 : decide (m.tAu.length = 0)
    · refine ⟨.bool false, ?_, ?_⟩
      · (conv => whnf)
        exact ⟨fun h => (of_decide_eq_false f8 (Iff.mp nat0 h)).elim, fun _ => ⟨rfl, rfl, trivial⟩⟩
      (conv => whnf)
      (apply Exists.intro; apply And.intro; (focus ((conv => whnf); first | exact ⟨rfl, rfl, trivial⟩ | (refine ⟨by omega, ?_⟩; (conv => whnf); exact ⟨rfl, rfl, trivial⟩))); (conv => whnf))
      (apply Exists.intro; apply And.intro; (focus ((conv => whnf); first | exact ⟨rfl, rfl, trivial⟩ | (refine ⟨by omega, ?_⟩; (conv => whnf); exact ⟨rfl, rfl, trivial⟩))); (conv => whnf))
      (apply Exists.intro; apply And.intro; (focus ((conv => whnf); first | exact ⟨rfl, rfl, trivial⟩ | (refine ⟨by omega, ?_⟩; (conv => whnf); exact ⟨rfl, rfl, trivial⟩))); (conv => whnf))
      (apply Exists.intro; apply And.intro; (focus ((conv => whnf); first | exact ⟨rfl, rfl, trivial⟩ | (refine ⟨by omega, ?_⟩; (conv => whnf); exact ⟨rfl, rfl, trivial⟩))); (conv => whnf))
      (apply Exists.intro; apply And.intro; (focus ((conv => whnf); first | exact ⟨rfl, rfl, trivial⟩ | (refine ⟨by omega, ?_⟩; (conv => whnf); exact ⟨rfl, rfl, trivial⟩))); (conv => whnf))
      (apply Exists.intro; apply And.intro; (focus ((conv => whnf); first | exact ⟨rfl, rfl, trivial⟩ | (refine ⟨by omega, ?_⟩; (conv => whnf); exact ⟨rfl, rfl, trivial⟩))); (conv => whnf))
      (apply Exists.intro; apply And.intro; (focus ((conv => whnf); first | exact ⟨rfl, rfl, trivial⟩ | (refine ⟨by omega, ?_⟩; (conv => whnf); exact ⟨rfl, rfl, trivial⟩))); (conv => whnf))
      (apply Exists.intro; apply And.intro; (focus ((conv => whnf); first | exact ⟨rfl, rfl, trivial⟩ | (refine ⟨by omega, ?_⟩; (conv => whnf); exact ⟨rfl, rfl, trivial⟩))); (conv => whnf))
      (apply Exists.intro; apply And.intro; (focus ((conv => whnf); first | exact ⟨rfl, rfl, trivial⟩ | (refine ⟨by omega, ?_⟩; (conv => whnf); exact ⟨rfl, rfl, trivial⟩))); (conv => whnf))
      (apply Exists.intro; apply And.intro; (focus ((conv => whnf); first | exact ⟨rfl, rfl, trivial⟩ | (refine ⟨by omega, ?_⟩; (conv => whnf); exact ⟨rfl, rfl, trivial⟩))); (conv => whnf))
      (apply Exists.intro; apply And.intro; (focus ((conv => whnf); first | exact ⟨rfl, rfl, trivial⟩ | (refine ⟨by omega, ?_⟩; (conv => whnf); exact ⟨rfl, rfl, trivial⟩))); (conv => whnf))
      (apply Exists.intro; apply And.intro; (focus ((conv => whnf); first | exact ⟨rfl, rfl, trivial⟩ | (refine ⟨by omega, ?_⟩; (conv => whnf); exact ⟨rfl, rfl, trivial⟩))); (conv => whnf))
      (apply Exists.intro; apply And.intro; (focus ((conv => whnf); first | exact ⟨rfl, rfl, trivial⟩ | (refine ⟨by omega, ?_⟩; (conv => whnf); exact ⟨rfl, rfl, trivial⟩))); (conv => whnf))
      (apply Exists.intro; apply And.intro; (focus ((conv => whnf); first | exact ⟨rfl, rfl, trivial⟩ | (refine ⟨by omega, ?_⟩; (conv => whnf); exact ⟨rfl, rfl, trivial⟩))); (conv => whnf))
      (apply Exists.intro; apply And.intro; (focus ((conv => whnf); first | exact ⟨rfl, rfl, trivial⟩ | (refine ⟨by omega, ?_⟩; (conv => whnf); exact ⟨rfl, rfl, trivial⟩))); (conv => whnf))
      (apply Exists.intro; apply And.intro; (focus ((conv => whnf); first | exact ⟨rfl, rfl, trivial⟩ | (refine ⟨by omega, ?_⟩; (conv => whnf); exact ⟨rfl, rfl, trivial⟩))); (conv => whnf))
      (apply Exists.intro; apply And.intro; (focus ((conv => whnf); first | exact ⟨rfl, rfl, trivial⟩ | (refine ⟨by omega, ?_⟩; (conv => whnf); exact ⟨rfl, rfl, trivial⟩))); (conv => whnf))
      (apply Exists.intro; apply And.intro; (focus ((conv => whnf); first | exact ⟨rfl, rfl, trivial⟩ | (refine ⟨by omega, ?_⟩; (conv => whnf); exact ⟨rfl, rfl, trivial⟩))); (conv => whnf))
      (apply Exists.intro; apply And.intro; (focus ((conv => whnf); first | exact ⟨rfl, rfl, trivial⟩ | (refine ⟨by omega, ?_⟩; (conv => whnf); exact ⟨rfl, rfl, trivial⟩))); (conv => whnf))
      (apply Exists.intro; apply And.intro; (focus ((conv => whnf); first | exact ⟨rfl, rfl, trivial⟩ | (refine ⟨by omega, ?_⟩; (conv => whnf); exact ⟨rfl, rfl, trivial⟩))); (conv => whnf))
      (apply Exists.intro; apply And.intro; (focus ((conv => whnf); first | exact ⟨rfl, rfl, trivial⟩ | (refine ⟨by omega, ?_⟩; (conv => whnf); exact ⟨rfl, rfl, trivial⟩))); (conv => whnf))
      (apply Exists.intro; apply And.intro; (focus ((conv => whnf); first | exact ⟨rfl, rfl, trivial⟩ | (refine ⟨by omega, ?_⟩; (conv => whnf); exact ⟨rfl, rfl, trivial⟩))); (conv => whnf))
      exact ⟨(), trivial, ⟨rfl, rfl, rfl, congrArg PV.bool (by unfold noTgs; simp only [f7, f8, Bool.and_true, Bool.true_and, Bool.and_false, Bool.false_and]), trivial⟩, rfl⟩
    refine ⟨.bool true, ?_, ?_⟩
    · (conv => whnf)
      exact ⟨fun _ => ⟨rfl, rfl, trivial⟩, fun h => (h (Iff.mpr nat0 (of_decide_eq_true f8))).elim⟩
    (conv => whnf)
    (apply Exists.intro; apply And.intro; (focus ((conv => whnf); first | exact ⟨rfl, rfl, trivial⟩ | (refine ⟨by omega, ?_⟩; (conv => whnf); exact ⟨rfl, rfl, trivial⟩))); (conv => whnf))
    (apply Exists.intro; apply And.intro; (focus ((conv => whnf); first | exact ⟨rfl, rfl, trivial⟩ | (refine ⟨by omega, ?_⟩; (conv => whnf); exact ⟨rfl, rfl, trivial⟩))); (conv => whnf))
    (apply Exists.intro; apply And.intro; (focus ((conv => whnf); first | exact ⟨rfl, rfl, trivial⟩ | (refine ⟨by omega, ?_⟩; (conv => whnf); exact ⟨rfl, rfl, trivial⟩))); (conv => whnf))
    (apply Exists.intro; apply And.intro; (focus ((conv => whnf); first | exact ⟨rfl, rfl, trivial⟩ | (refine ⟨by omega, ?_⟩; (conv => whnf); exact ⟨rfl, rfl, trivial⟩))); (conv => whnf))
    (apply Exists.intro; apply And.intro; (focus ((conv => whnf); first | exact ⟨rfl, rfl, trivial⟩ | (refine ⟨by omega, ?_⟩; (conv => whnf); exact ⟨rfl, rfl, trivial⟩))); (conv => whnf))
    (apply Exists.intro; apply And.intro; (focus ((conv => whnf); first | exact ⟨rfl, rfl, trivial⟩ | (refine ⟨by omega, ?_⟩; (conv => whnf); exact ⟨rfl, rfl, trivial⟩))); (conv => whnf))
    cases f9 : decide (m.t3 = [] ∧ m.t4 = [])
    · refine ⟨.bool false, ?_, ?_⟩
      · (conv => whnf)
        refine ⟨⟨fitG _ _, fitG [] []⟩, ?_⟩
        (conv => whnf)
        exact ⟨fun h => (of_decide_eq_false f9 (Iff.mp pr_eq h)).elim, fun _ => ⟨rfl, rfl, trivial⟩⟩
      (conv => whnf)
      (apply Exists.intro; apply And.intro; (focus ((conv => whnf); first | exact ⟨rfl, rfl, trivial⟩ | (refine ⟨by omega, ?_⟩; (conv => whnf); exact ⟨rfl, rfl, trivial⟩))); (conv => whnf))
      (apply Exists.intro; apply And.intro; (focus ((conv => whnf); first | exact ⟨rfl, rfl, trivial⟩ | (refine ⟨by omega, ?_⟩; (conv => whnf); exact ⟨rfl, rfl, trivial⟩))); (conv => whnf))
      (apply Exists.intro; apply And.intro; (focus ((conv => whnf); first | exact ⟨rfl, rfl, trivial⟩ | (refine ⟨by omega, ?_⟩; (conv => whnf); exact ⟨rfl, rfl, trivial⟩))); (conv => whnf))
      (apply Exists.intro; apply And.intro; (focus ((conv => whnf); first | exact ⟨rfl, rfl, trivial⟩ | (refine ⟨by omega, ?_⟩; (conv => whnf); exact ⟨rfl, rfl, trivial⟩))); (conv => whnf))
      (apply Exists.intro; apply And.intro; (focus ((conv => whnf); first | exact ⟨rfl, rfl, trivial⟩ | (refine ⟨by omega, ?_⟩; (conv => whnf); exact ⟨rfl, rfl, trivial⟩))); (conv => whnf))
      (apply Exists.intro; apply And.intro; (focus ((conv => whnf); first | exact ⟨rfl, rfl, trivial⟩ | (refine ⟨by omega, ?_⟩; (conv => whnf); exact ⟨rfl, rfl, trivial⟩))); (conv => whnf))
      (apply Exists.intro; apply And.intro; (focus ((conv => whnf); first | exact ⟨rfl, rfl, trivial⟩ | (refine ⟨by omega, ?_⟩; (conv => whnf); exact ⟨rfl, rfl, trivial⟩))); (conv => whnf))
      (apply Exists.intro; apply And.intro; (focus ((conv => whnf); first | exact ⟨rfl, rfl, trivial⟩ | (refine ⟨by omega, ?_⟩; (conv => whnf); exact ⟨rfl, rfl, trivial⟩))); (conv => whnf))
      (apply Exists.intro; apply And.intro; (focus ((conv => whnf); first | exact ⟨rfl, rfl, trivial⟩ | (refine ⟨by omega, ?_⟩; (conv => whnf); exact ⟨rfl, rfl, trivial⟩))); (conv => whnf))
      (apply Exists.intro; apply And.intro; (focus ((conv => whnf); first | exact ⟨rfl, rfl, trivial⟩ | (refine ⟨by omega, ?_⟩; (conv => whnf); exact ⟨rfl, rfl, trivial⟩))); (conv => whnf))
      (apply Exists.intro; apply And.intro; (focus ((conv => whnf); first | exact ⟨rfl, rfl, trivial⟩ | (refine ⟨by omega, ?_⟩; (conv => whnf); exact ⟨rfl, rfl, trivial⟩))); (conv => whnf))
      (apply Exists.intro; apply And.intro; (focus ((conv => whnf); first | exact ⟨rfl, rfl, trivial⟩ | (refine ⟨by omega, ?_⟩; (conv => whnf); exact ⟨rfl, rfl, trivial⟩))); (conv => whnf))
      (apply Exists.intro; apply And.intro; (focus ((conv => whnf); first | exact ⟨rfl, rfl, trivial⟩ | (refine ⟨by omega, ?_⟩; (conv => whnf); exact ⟨rfl, rfl, trivial⟩))); (conv => whnf))
      (apply Exists.intro; apply And.intro; (focus ((conv => whnf); first | exact ⟨rfl, rfl, trivial⟩ | (refine ⟨by omega, ?_⟩; (conv => whnf); exact ⟨rfl, rfl, trivial⟩))); (conv => whnf))
      (apply Exists.intro; apply And.intro; (focus ((conv => whnf); first | exact ⟨rfl, rfl, trivial⟩ | (refine ⟨by omega, ?_⟩; (conv => whnf); exact ⟨rfl, rfl, trivial⟩))); (conv => whnf))
      exact ⟨(), trivial, ⟨rfl, rfl, rfl, congrArg PV.bool (by unfold noTgs; simp only [f7, f8, f9, Bool.and_true, Bool.true_and, Bool.and_false, Bool.false_and]), trivial⟩, rfl⟩
    refine ⟨.bool true, ?_, ?_⟩
    · (conv => whnf)
      refine ⟨⟨fitG _ _, fitG [] []⟩, ?_⟩
      (conv => whnf)
      exact ⟨fun _ => ⟨rfl, rfl, trivial⟩, fun h => (h (Iff.mpr pr_eq (of_decide_eq_true f9))).elim⟩
    (conv => whnf)
    (apply Exists.intro; apply And.intro; (focus ((conv => whnf); first | exact ⟨rfl, rfl, trivial⟩ | (refine ⟨by omega, ?_⟩; (conv => whnf); exact ⟨rfl, rfl, trivial⟩))); (conv => whnf))
    (apply Exists.intro; apply And.intro; (focus ((conv => whnf); first | exact ⟨rfl, rfl, trivial⟩ | (refine ⟨by omega, ?_⟩; (conv => whnf); exact ⟨rfl, rfl, trivial⟩))); (conv => whnf))
    (apply Exists.intro; apply And.intro; (focus ((conv => whnf); first | exact ⟨rfl, rfl, trivial⟩ | (refine ⟨by omega, ?_⟩; (conv => whnf); exact ⟨rfl, rfl, trivial⟩))); (conv => whnf))
    (apply Exists.intro; apply And.intro; (focus ((conv => whnf); first | exact ⟨rfl, rfl, trivial⟩ | (refine ⟨by omega, ?_⟩; (conv => whnf); exact ⟨rfl, rfl, trivial⟩))); (conv => whnf))
    (apply Exists.intro; apply And.intro; (focus ((conv => whnf); first | exact ⟨rfl, rfl, trivial⟩ | (refine ⟨by omega, ?_⟩; (conv => whnf); exact ⟨rfl, rfl, trivial⟩))); (conv => whnf))
    cases f10 : decide (m.tTill = 0)
    · refine ⟨.bool false, ?_, ?_⟩
      · (conv => whnf)
        exact ⟨fun h => (of_decide_eq_false f10 (Iff.mp Iff.rfl h)).elim, fun _ => ⟨rfl, rfl, trivial⟩⟩
      (conv => whnf)
      (apply Exists.intro; apply And.intro; (focus ((conv => whnf); first | exact ⟨rfl, rfl, trivial⟩ | (refine ⟨by omega, ?_⟩; (conv => whnf); exact ⟨rfl, rfl, trivial⟩))); (conv => whnf))
      (apply Exists.intro; apply And.intro; (focus ((conv => whnf); first | exact ⟨rfl, rfl, trivial⟩ | (refine ⟨by omega, ?_⟩; (conv => whnf); exact ⟨rfl, rfl, trivial⟩))); (conv => whnf))
      (apply Exists.intro; apply And.intro; (focus ((conv => whnf); first | exact ⟨rfl, rfl, trivial⟩ | (refine ⟨by omega, ?_⟩; (conv => whnf); exact ⟨rfl, rfl, trivial⟩))); (conv => whnf))
      (apply Exists.intro; apply And.intro; (focus ((conv => whnf); first | exact ⟨rfl, rfl, trivial⟩ | (refine ⟨by omega, ?_⟩; (conv => whnf); exact ⟨rfl, rfl, trivial⟩))); (conv => whnf))
      (apply Exists.intro; apply And.intro; (focus ((conv => whnf); first | exact ⟨rfl, rfl, trivial⟩ | (refine ⟨by omega, ?_⟩; (conv => whnf); exact ⟨rfl, rfl, trivial⟩))); (conv => whnf))
      (apply Exists.intro; apply And.intro; (focus ((conv => whnf); first | exact ⟨rfl, rfl, trivial⟩ | (refine ⟨by omega, ?_⟩; (conv => whnf); exact ⟨rfl, rfl, trivial⟩))); (conv => whnf))
      (apply Exists.intro; apply And.intro; (focus ((conv => whnf); first | exact ⟨rfl, rfl, trivial⟩ | (refine ⟨by omega, ?_⟩; (conv => whnf); exact ⟨rfl, rfl, trivial⟩))); (conv => whnf))
      (apply Exists.intro; apply And.intro; (focus ((conv => whnf); first | exact ⟨rfl, rfl, trivial⟩ | (refine ⟨by omega, ?_⟩; (conv => whnf); exact ⟨rfl, rfl, trivial⟩))); (conv => whnf))
      (apply Exists.intro; apply And.intro; (focus ((conv => whnf); first | exact ⟨rfl, rfl, trivial⟩ | (refine ⟨by omega, ?_⟩; (conv => whnf); exact ⟨rfl, rfl, trivial⟩))); (conv => whnf))
      exact ⟨(), trivial, ⟨rfl, rfl, rfl, congrArg PV.bool (by unfold noTgs; simp only [f7, f8, f9, f10, Bool.and_true, Bool.true_and, Bool.and_false, Bool.false_and]), trivial⟩, rfl⟩
    refine ⟨.bool true, ?_, ?_⟩
    · (conv => whnf)
      exact ⟨fun _ => ⟨rfl, rfl, trivial⟩, fun h => (h (Iff.mpr Iff.rfl (of_decide_eq_true f10))).elim⟩
    (conv => whnf)
    (apply Exists.intro; apply And.intro; (focus ((conv => whnf); first | exact ⟨rfl, rfl, trivial⟩ | (refine ⟨by omega, ?_⟩; (conv => whnf); exact ⟨rfl, rfl, trivial⟩))); (conv => whnf))
    (apply Exists.intro; apply And.intro; (focus ((conv => whnf); first | exact ⟨rfl, rfl, trivial⟩ | (refine ⟨by omega, ?_⟩; (conv => whnf); exact ⟨rfl, rfl, trivial⟩))); (conv => whnf))
    (apply Exists.intro; apply And.intro; (focus ((conv => whnf); first | exact ⟨rfl, rfl, trivial⟩ | (refine ⟨by omega, ?_⟩; (conv => whnf); exact ⟨rfl, rfl, trivial⟩))); (conv => whnf))
    (apply Exists.intro; apply And.intro; (focus ((conv => whnf); first | exact ⟨rfl, rfl, trivial⟩ | (refine ⟨by omega, ?_⟩; (conv => whnf); exact ⟨rfl, rfl, trivial⟩))); (conv => whnf))
    (apply Exists.intro; apply And.intro; (focus ((conv => whnf); first | exact ⟨rfl, rfl, trivial⟩ | (refine ⟨by omega, ?_⟩; (conv => whnf); exact ⟨rfl, rfl, trivial⟩))); (conv => whnf))
    cases f11 : decide (m.tNonce = 0)
    · refine ⟨.bool false, ?_, ?_⟩
      · (conv => whnf)
        exact ⟨fun h => (of_decide_eq_false f11 (Iff.mp Iff.rfl h)).elim, fun _ => ⟨rfl, rfl, trivial⟩⟩
      (conv => whnf)
      (apply Exists.intro; apply And.intro; (focus ((conv => whnf); first | exact ⟨rfl, rfl, trivial⟩ | (refine ⟨by omega, ?_⟩; (conv => whnf); exact ⟨rfl, rfl, trivial⟩))); (conv => whnf))
      (apply Exists.intro; apply And.intro; (focus ((conv => whnf); first | exact ⟨rfl, rfl, trivial⟩ | (refine ⟨by omega, ?_⟩; (conv => whnf); exact ⟨rfl, rfl, trivial⟩))); (conv => whnf))
      (apply Exists.intro; apply And.intro; (focus ((conv => whnf); first | exact ⟨rfl, rfl, trivial⟩ | (refine ⟨by omega, ?_⟩; (conv => whnf); exact ⟨rfl, rfl, trivial⟩))); (conv => whnf))
      exact ⟨(), trivial, ⟨rfl, rfl, rfl, congrArg PV.bool (by unfold noTgs; simp only [f7, f8, f9, f10, f11, Bool.and_true, Bool.true_and, Bool.and_false, Bool.false_and]), trivial⟩, rfl⟩
    refine ⟨.bool true, ?_, ?_⟩
    · (conv => whnf)
      exact ⟨fun _ => ⟨rfl, rfl, trivial⟩, fun h => (h (Iff.mpr Iff.rfl (of_decide_eq_true f11))).elim⟩
    (conv => whnf)
    (apply Exists.intro; apply And.intro; (focus ((conv => whnf); first | exact ⟨rfl, rfl, trivial⟩ | (refine ⟨by omega, ?_⟩; (conv => whnf); exact ⟨rfl, rfl, trivial⟩))); (conv => whnf))
    (apply Exists.intro; apply And.intro; (focus ((conv => whnf); first | exact ⟨rfl, rfl, trivial⟩ | (refine ⟨by omega, ?_⟩; (conv => whnf); exact ⟨rfl, rfl, trivial⟩))); (conv => whnf))
    (apply Exists.intro; apply And.intro; (focus ((conv => whnf); first | exact ⟨rfl, rfl, trivial⟩ | (refine ⟨by omega, ?_⟩; (conv => whnf); exact ⟨rfl, rfl, trivial⟩))); (conv => whnf))
    exact ⟨(), trivial, ⟨rfl, rfl, rfl, congrArg PV.bool (by unfold noTgs; simp only [f7, f8, f9, f10, f11, Bool.and_true, Bool.true_and, Bool.and_false, Bool.false_and]), trivial⟩, rfl⟩
  (conv => whnf)
  refine cutK_of [(1, .elem m.cells), (3, .int .i64 m.kind), (4, .bool (noAs m)), (5, .bool (noTgs m)), (6, .bool (noRep m))] H ?_ ?_
  rotate_left
  · (conv => whnf)
    refine ⟨⟨fitG _ _, fitG [] []⟩, ?_⟩
    (conv => whnf)
    refine ⟨fun h => ?_, fun h => ?_⟩
    rotate_left
    · have f12 : decide (m.r1 = [] ∧ m.r2 = []) = false := decide_eq_false fun hh => h (Iff.mpr pr_eq hh)
      (conv => whnf)
      exact ⟨(), trivial, ⟨rfl, rfl, rfl, rfl, congrArg PV.bool (by unfold noRep; simp only [f12, Bool.and_true, Bool.true_and, Bool.and_false, Bool.false_and]), trivial⟩, rfl⟩
    have f12 : decide (m.r1 = [] ∧ m.r2 = []) = true := decide_eq_true (Iff.mp pr_eq h)
    (conv => whnf)
    refine callK_pure (c147 m.r3 m.r4 m.rKv m.rB none) ?_
    cases f13 : noTk m.r3 m.r4 m.rKv m.rB.length
    · (conv => whnf)
      exact ⟨(), trivial, ⟨rfl, rfl, rfl, rfl, congrArg PV.bool (by unfold noRep; simp only [f12, f13, Bool.and_true, Bool.true_and, Bool.and_false, Bool.false_and]), trivial⟩, rfl⟩
    (conv => whnf)
    refine ⟨fun h => ?_, fun h => ?_⟩
    rotate_left
    · have f14 : decide (m.rBl.length = 0) = false := decide_eq_false fun hh => h (Iff.mpr nat0 hh)
      (conv => whnf)
      exact ⟨(), trivial, ⟨rfl, rfl, rfl, rfl, congrArg PV.bool (by unfold noRep; simp only [f12, f13, f14, Bool.and_true, Bool.true_and, Bool.and_false, Bool.false_and]), trivial⟩, rfl⟩
    have f14 : decide (m.rBl.length = 0) = true := decide_eq_true (Iff.mp nat0 h)
    (conv => whnf)
    exact ⟨(), trivial, ⟨rfl, rfl, rfl, rfl, congrArg PV.bool (by unfold noRep; simp only [f12, f13, f14, Bool.and_true, Bool.true_and, Bool.and_false, Bool.false_and]), trivial⟩, rfl⟩
  (conv => whnf)
  refine cutK_of [(1, .elem m.cells), (3, .int .i64 m.kind), (4, .bool (noAs m)), (5, .bool (noTgs m)), (6, .bool (noRep m)), (7, .bool (noAp m)), (8, .bool (noFail m))] H ?_ ?_
  rotate_left
  · refine drawK_pure2 (by kernel_rfl) ?_
    (conv => whnf)
    (apply Exists.intro; apply And.intro; (focus ((conv => whnf); first | exact ⟨rfl, rfl, trivial⟩ | (refine ⟨by omega, ?_⟩; (conv => whnf); exact ⟨rfl, rfl, trivial⟩))); (conv => whnf))
    (apply Exists.intro; apply And.intro; (focus ((conv => whnf); first | exact ⟨rfl, rfl, trivial⟩ | (refine ⟨by omega, ?_⟩; (conv => whnf); exact ⟨rfl, rfl, trivial⟩))); (conv => whnf))
    (apply Exists.intro; apply And.intro; (focus ((conv => whnf); first | exact ⟨rfl, rfl, trivial⟩ | (refine ⟨by omega, ?_⟩; (conv => whnf); exact ⟨rfl, rfl, trivial⟩))); (conv => whnf))
    refine ⟨_, callK_pure (c147 m.p1 m.p2 m.pKv m.pB none) ⟨rfl, rfl, trivial⟩, ?_⟩
    (conv => whnf)
    cases f15 : noTk m.p1 m.p2 m.pKv m.pB.length
    · skip
      (apply Exists.intro; apply And.intro; (focus ((conv => whnf); first | exact ⟨rfl, rfl, trivial⟩ | (refine ⟨by omega, ?_⟩; (conv => whnf); exact ⟨rfl, rfl, trivial⟩))); (conv => whnf))
      (apply Exists.intro; apply And.intro; (focus ((conv => whnf); first | exact ⟨rfl, rfl, trivial⟩ | (refine ⟨by omega, ?_⟩; (conv => whnf); exact ⟨rfl, rfl, trivial⟩))); (conv => whnf))
      (apply Exists.intro; apply And.intro; (focus ((conv => whnf); first | exact ⟨rfl, rfl, trivial⟩ | (refine ⟨by omega, ?_⟩; (conv => whnf); exact ⟨rfl, rfl, trivial⟩))); (conv => whnf))
      (apply Exists.intro; apply And.intro; (focus ((conv => whnf); first | exact ⟨rfl, rfl, trivial⟩ | (refine ⟨by omega, ?_⟩; (conv => whnf); exact ⟨rfl, rfl, trivial⟩))); (conv => whnf))
      (apply Exists.intro; apply And.intro; (focus ((conv => whnf); first | exact ⟨rfl, rfl, trivial⟩ | (refine ⟨by omega, ?_⟩; (conv => whnf); exact ⟨rfl, rfl, trivial⟩))); (conv => whnf))
      (apply Exists.intro; apply And.intro; (focus ((conv => whnf); first | exact ⟨rfl, rfl, trivial⟩ | (refine ⟨by omega, ?_⟩; (conv => whnf); exact ⟨rfl, rfl, trivial⟩))); (conv => whnf))
      (apply Exists.intro; apply And.intro; (focus ((conv => whnf); first | exact ⟨rfl, rfl, trivial⟩ | (refine ⟨by omega, ?_⟩; (conv => whnf); exact ⟨rfl, rfl, trivial⟩))); (conv => whnf))
      (apply Exists.intro; apply And.intro; (focus ((conv => whnf); first | exact ⟨rfl, rfl, trivial⟩ | (refine ⟨by omega, ?_⟩; (conv => whnf); exact ⟨rfl, rfl, trivial⟩))); (conv => whnf))
      (apply Exists.intro; apply And.intro; (focus ((conv => whnf); first | exact ⟨rfl, rfl, trivial⟩ | (refine ⟨by omega, ?_⟩; (conv => whnf); exact ⟨rfl, rfl, trivial⟩))); (conv => whnf))
      (apply Exists.intro; apply And.intro; (focus ((conv => whnf); first | exact ⟨rfl, rfl, trivial⟩ | (refine ⟨by omega, ?_⟩; (conv => whnf); exact ⟨rfl, rfl, trivial⟩))); (conv => whnf))
      cases f16 : decide (m.fErr = 0 ∧ m.fNonce = 0)
      · refine ⟨.bool false, ?_, ?_⟩
        · (conv => whnf)
          refine ⟨⟨fitF _ _, fitF 0 0⟩, ?_⟩
          (conv => whnf)
          exact ⟨fun h => (of_decide_eq_false f16 (Iff.mp fl_eq h)).elim, fun _ => ⟨rfl, rfl, trivial⟩⟩
        (conv => whnf)
        (apply Exists.intro; apply And.intro; (focus ((conv => whnf); first | exact ⟨rfl, rfl, trivial⟩ | (refine ⟨by omega, ?_⟩; (conv => whnf); exact ⟨rfl, rfl, trivial⟩))); (conv => whnf))
        (apply Exists.intro; apply And.intro; (focus ((conv => whnf); first | exact ⟨rfl, rfl, trivial⟩ | (refine ⟨by omega, ?_⟩; (conv => whnf); exact ⟨rfl, rfl, trivial⟩))); (conv => whnf))
        exact ⟨(), trivial, ⟨rfl, rfl, rfl, rfl, rfl, congrArg PV.bool (by unfold noAp; simp only [f15, Bool.and_true, Bool.true_and, Bool.and_false, Bool.false_and]), congrArg PV.bool f16.symm, trivial⟩, rfl⟩
      refine ⟨.bool true, ?_, ?_⟩
      · (conv => whnf)
        refine ⟨⟨fitF _ _, fitF 0 0⟩, ?_⟩
        (conv => whnf)
        exact ⟨fun _ => ⟨rfl, rfl, trivial⟩, fun h => (h (Iff.mpr fl_eq (of_decide_eq_true f16))).elim⟩
      (conv => whnf)
      (apply Exists.intro; apply And.intro; (focus ((conv => whnf); first | exact ⟨rfl, rfl, trivial⟩ | (refine ⟨by omega, ?_⟩; (conv => whnf); exact ⟨rfl, rfl, trivial⟩))); (conv => whnf))
      (apply Exists.intro; apply And.intro; (focus ((conv => whnf); first | exact ⟨rfl, rfl, trivial⟩ | (refine ⟨by omega, ?_⟩; (conv => whnf); exact ⟨rfl, rfl, trivial⟩))); (conv => whnf))
      exact ⟨(), trivial, ⟨rfl, rfl, rfl, rfl, rfl, congrArg PV.bool (by unfold noAp; simp only [f15, Bool.and_true, Bool.true_and, Bool.and_false, Bool.false_and]), congrArg PV.bool f16.symm, trivial⟩, rfl⟩
    (apply Exists.intro; apply And.intro; (focus ((conv => whnf); first | exact ⟨rfl, rfl, trivial⟩ | (refine ⟨by omega, ?_⟩; (conv => whnf); exact ⟨rfl, rfl, trivial⟩))); (conv => whnf))
    (apply Exists.intro; apply And.intro; (focus ((conv => whnf); first | exact ⟨rfl, rfl, trivial⟩ | (refine ⟨by omega, ?_⟩; (conv => whnf); exact ⟨rfl, rfl, trivial⟩))); (conv => whnf))
    (apply Exists.intro; apply And.intro; (focus ((conv => whnf); first | exact ⟨rfl, rfl, trivial⟩ | (refine ⟨by omega, ?_⟩; (conv => whnf); exact ⟨rfl, rfl, trivial⟩))); (conv => whnf))
    (apply Exists.intro; apply And.intro; (focus ((conv => whnf); first | exact ⟨rfl, rfl, trivial⟩ | (refine ⟨by omega, ?_⟩; (conv => whnf); exact ⟨rfl, rfl, trivial⟩))); (conv => whnf))
    (apply Exists.intro; apply And.intro; (focus ((conv => whnf); first | exact ⟨rfl, rfl, trivial⟩ | (refine ⟨by omega, ?_⟩; (conv => whnf); exact ⟨rfl, rfl, trivial⟩))); (conv => whnf))
    cases f17 : decide (m.pAu.length = 0)
    · refine ⟨.bool false, ?_, ?_⟩
      · (conv => whnf)
        exact ⟨fun h => (of_decide_eq_false f17 (Iff.mp nat0 h)).elim, fun _ => ⟨rfl, rfl, trivial⟩⟩
      (conv => whnf)
      (apply Exists.intro; apply And.intro; (focus ((conv => whnf); first | exact ⟨rfl, rfl, trivial⟩ | (refine ⟨by omega, ?_⟩; (conv => whnf); exact ⟨rfl, rfl, trivial⟩))); (conv => whnf))
      (apply Exists.intro; apply And.intro; (focus ((conv => whnf); first | exact ⟨rfl, rfl, trivial⟩ | (refine ⟨by omega, ?_⟩; (conv => whnf); exact ⟨rfl, rfl, trivial⟩))); (conv => whnf))
      (apply Exists.intro; apply And.intro; (focus ((conv => whnf); first | exact ⟨rfl, rfl, trivial⟩ | (refine ⟨by omega, ?_⟩; (conv => whnf); exact ⟨rfl, rfl, trivial⟩))); (conv => whnf))
      (apply Exists.intro; apply And.intro; (focus ((conv => whnf); first | exact ⟨rfl, rfl, trivial⟩ | (refine ⟨by omega, ?_⟩; (conv => whnf); exact ⟨rfl, rfl, trivial⟩))); (conv => whnf))
      cases f18 : decide (m.fErr = 0 ∧ m.fNonce = 0)
      · refine ⟨.bool false, ?_, ?_⟩
        · (conv => whnf)
          refine ⟨⟨fitF _ _, fitF 0 0⟩, ?_⟩
          (conv => whnf)
          exact ⟨fun h => (of_decide_eq_false f18 (Iff.mp fl_eq h)).elim, fun _ => ⟨rfl, rfl, trivial⟩⟩
        (conv => whnf)
        (apply Exists.intro; apply And.intro; (focus ((conv => whnf); first | exact ⟨rfl, rfl, trivial⟩ | (refine ⟨by omega, ?_⟩; (conv => whnf); exact ⟨rfl, rfl, trivial⟩))); (conv => whnf))
        (apply Exists.intro; apply And.intro; (focus ((conv => whnf); first | exact ⟨rfl, rfl, trivial⟩ | (refine ⟨by omega, ?_⟩; (conv => whnf); exact ⟨rfl, rfl, trivial⟩))); (conv => whnf))
        exact ⟨(), trivial, ⟨rfl, rfl, rfl, rfl, rfl, congrArg PV.bool (by unfold noAp; simp only [f15, f17, Bool.and_true, Bool.true_and, Bool.and_false, Bool.false_and]), congrArg PV.bool f18.symm, trivial⟩, rfl⟩
      refine ⟨.bool true, ?_, ?_⟩
      · (conv => whnf)
        refine ⟨⟨fitF _ _, fitF 0 0⟩, ?_⟩
        (conv => whnf)
        exact ⟨fun _ => ⟨rfl, rfl, trivial⟩, fun h => (h (Iff.mpr fl_eq (of_decide_eq_true f18))).elim⟩
      (conv => whnf)
      (apply Exists.intro; apply And.intro; (focus ((conv => whnf); first | exact ⟨rfl, rfl, trivial⟩ | (refine ⟨by omega, ?_⟩; (conv => whnf); exact ⟨rfl, rfl, trivial⟩))); (conv => whnf))
      (apply Exists.intro; apply And.intro; (focus ((conv => whnf); first | exact ⟨rfl, rfl, trivial⟩ | (refine ⟨by omega, ?_⟩; (conv => whnf); exact ⟨rfl, rfl, trivial⟩))); (conv => whnf))
      exact ⟨(), trivial, ⟨rfl, rfl, rfl, rfl, rfl, congrArg PV.bool (by unfold noAp; simp only [f15, f17, Bool.and_true, Bool.true_and, Bool.and_false, Bool.false_and]), congrArg PV.bool f18.symm, trivial⟩, rfl⟩
    refine ⟨.bool true, ?_, ?_⟩
    · (conv => whnf)
      exact ⟨fun _ => ⟨rfl, rfl, trivial⟩, fun h => (h (Iff.mpr nat0 (of_decide_eq_true f17))).elim⟩
    (conv => whnf)
    (apply Exists.intro; apply And.intro; (focus ((conv => whnf); first | exact ⟨rfl, rfl, trivial⟩ | (refine ⟨by omega, ?_⟩; (conv => whnf); exact ⟨rfl, rfl, trivial⟩))); (conv => whnf))
    (apply Exists.intro; apply And.intro; (focus ((conv => whnf); first | exact ⟨rfl, rfl, trivial⟩ | (refine ⟨by omega, ?_⟩; (conv => whnf); exact ⟨rfl, rfl, trivial⟩))); (conv => whnf))
    (apply Exists.intro; apply And.intro; (focus ((conv => whnf); first | exact ⟨rfl, rfl, trivial⟩ | (refine ⟨by omega, ?_⟩; (conv => whnf); exact ⟨rfl, rfl, trivial⟩))); (conv => whnf))
    (apply Exists.intro; apply And.intro; (focus ((conv => whnf); first | exact ⟨rfl, rfl, trivial⟩ | (refine ⟨by omega, ?_⟩; (conv => whnf); exact ⟨rfl, rfl, trivial⟩))); (conv => whnf))
    cases f19 : decide (m.fErr = 0 ∧ m.fNonce = 0)
    · refine ⟨.bool false, ?_, ?_⟩
      · (conv => whnf)
        refine ⟨⟨fitF _ _, fitF 0 0⟩, ?_⟩
        (conv => whnf)
        exact ⟨fun h => (of_decide_eq_false f19 (Iff.mp fl_eq h)).elim, fun _ => ⟨rfl, rfl, trivial⟩⟩
      (conv => whnf)
      (apply Exists.intro; apply And.intro; (focus ((conv => whnf); first | exact ⟨rfl, rfl, trivial⟩ | (refine ⟨by omega, ?_⟩; (conv => whnf); exact ⟨rfl, rfl, trivial⟩))); (conv => whnf))
      (apply Exists.intro; apply And.intro; (focus ((conv => whnf); first | exact ⟨rfl, rfl, trivial⟩ | (refine ⟨by omega, ?_⟩; (conv => whnf); exact ⟨rfl, rfl, trivial⟩))); (conv => whnf))
      exact ⟨(), trivial, ⟨rfl, rfl, rfl, rfl, rfl, congrArg PV.bool (by unfold noAp; simp only [f15, f17, Bool.and_true, Bool.true_and, Bool.and_false, Bool.false_and]), congrArg PV.bool f19.symm, trivial⟩, rfl⟩
    refine ⟨.bool true, ?_, ?_⟩
    · (conv => whnf)
      refine ⟨⟨fitF _ _, fitF 0 0⟩, ?_⟩
      (conv => whnf)
      exact ⟨fun _ => ⟨rfl, rfl, trivial⟩, fun h => (h (Iff.mpr fl_eq (of_decide_eq_true f19))).elim⟩
    (conv => whnf)
    (apply Exists.intro; apply And.intro; (focus ((conv => whnf); first | exact ⟨rfl, rfl, trivial⟩ | (refine ⟨by omega, ?_⟩; (conv => whnf); exact ⟨rfl, rfl, trivial⟩))); (conv => whnf))
    (apply Exists.intro; apply And.intro; (focus ((conv => whnf); first | exact ⟨rfl, rfl, trivial⟩ | (refine ⟨by omega, ?_⟩; (conv => whnf); exact ⟨rfl, rfl, trivial⟩))); (conv => whnf))
    exact ⟨(), trivial, ⟨rfl, rfl, rfl, rfl, rfl, congrArg PV.bool (by unfold noAp; simp only [f15, f17, Bool.and_true, Bool.true_and, Bool.and_false, Bool.false_and]), congrArg PV.bool f19.symm, trivial⟩, rfl⟩
  (conv => whnf)
  by_cases h1 : m.kind = 1
  · have hk := h1
    have n2 : ¬ m.kind = 2 := by omega
    have n3 : ¬ m.kind = 3 := by omega
    have n4 : ¬ m.kind = 4 := by omega
    have n5 : ¬ m.kind = 5 := by omega
    have e1 : decide (m.kind = 1) = true := decide_eq_true hk
    have e2 : decide (m.kind = 2) = false := decide_eq_false n2
    have e3 : decide (m.kind = 3) = false := decide_eq_false n3
    have e4 : decide (m.kind = 4) = false := decide_eq_false n4
    have e5 : decide (m.kind = 5) = false := decide_eq_false n5
    refine ⟨fun h => ?_, fun h => ?_⟩
    rotate_left
    · exact (h hk).elim
    (conv => whnf)
    refine callK_pure (c148 m hm) ?_
    cases f20 : asB m
    · (conv => whnf)
      exact ⟨congrArg PV.bool (by unfold isB othersB; rw [if_pos hk]; show _ = (asB m && _); simp only [e1, e2, e3, e4, e5, f20, Bool.and_true, Bool.true_and, Bool.and_false, Bool.false_and, Bool.or_false, Bool.false_or, Bool.true_or, Bool.or_true]), rfl⟩
    (conv => whnf)
    cases f21 : noTgs m
    · (conv => whnf)
      exact ⟨congrArg PV.bool (by unfold isB othersB; rw [if_pos hk]; show _ = (asB m && _); simp only [e1, e2, e3, e4, e5, f20, f21, Bool.and_true, Bool.true_and, Bool.and_false, Bool.false_and, Bool.or_false, Bool.false_or, Bool.true_or, Bool.or_true]), rfl⟩
    (conv => whnf)
    cases f22 : noRep m
    · (conv => whnf)
      exact ⟨congrArg PV.bool (by unfold isB othersB; rw [if_pos hk]; show _ = (asB m && _); simp only [e1, e2, e3, e4, e5, f20, f21, f22, Bool.and_true, Bool.true_and, Bool.and_false, Bool.false_and, Bool.or_false, Bool.false_or, Bool.true_or, Bool.or_true]), rfl⟩
    (conv => whnf)
    cases f23 : noAp m
    · (conv => whnf)
      exact ⟨congrArg PV.bool (by unfold isB othersB; rw [if_pos hk]; show _ = (asB m && _); simp only [e1, e2, e3, e4, e5, f20, f21, f22, f23, Bool.and_true, Bool.true_and, Bool.and_false, Bool.false_and, Bool.or_false, Bool.false_or, Bool.true_or, Bool.or_true]), rfl⟩
    (conv => whnf)
    cases f24 : noFail m
    · (conv => whnf)
      exact ⟨congrArg PV.bool (by unfold isB othersB; rw [if_pos hk]; show _ = (asB m && _); simp only [e1, e2, e3, e4, e5, f20, f21, f22, f23, f24, Bool.and_true, Bool.true_and, Bool.and_false, Bool.false_and, Bool.or_false, Bool.false_or, Bool.true_or, Bool.or_true]), rfl⟩
    (conv => whnf)
    exact ⟨congrArg PV.bool (by unfold isB othersB; rw [if_pos hk]; show _ = (asB m && _); simp only [e1, e2, e3, e4, e5, f20, f21, f22, f23, f24, Bool.and_true, Bool.true_and, Bool.and_false, Bool.false_and, Bool.or_false, Bool.false_or, Bool.true_or, Bool.or_true]), rfl⟩
  by_cases h2 : m.kind = 2
  · have hk := h2
    have n1 : ¬ m.kind = 1 := by omega
    have n3 : ¬ m.kind = 3 := by omega
    have n4 : ¬ m.kind = 4 := by omega
    have n5 : ¬ m.kind = 5 := by omega
    have e1 : decide (m.kind = 1) = false := decide_eq_false n1
    have e2 : decide (m.kind = 2) = true := decide_eq_true hk
    have e3 : decide (m.kind = 3) = false := decide_eq_false n3
    have e4 : decide (m.kind = 4) = false := decide_eq_false n4
    have e5 : decide (m.kind = 5) = false := decide_eq_false n5
    refine ⟨fun h => ?_, fun h => ?_⟩
    · exact (n1 h).elim
    (conv => whnf)
    refine ⟨fun h => ?_, fun h => ?_⟩
    rotate_left
    · exact (h hk).elim
    (conv => whnf)
    refine callK_pure ((c149 m.d hm).of_eq (show PV.bool (tgsB m.d) = .bool (tgsB m) from rfl)) ?_
    cases f25 : tgsB m
    · (conv => whnf)
      exact ⟨congrArg PV.bool (by unfold isB othersB; rw [if_neg n1]; rw [if_pos hk]; show _ = (tgsB m && _); simp only [e1, e2, e3, e4, e5, f25, Bool.and_true, Bool.true_and, Bool.and_false, Bool.false_and, Bool.or_false, Bool.false_or, Bool.true_or, Bool.or_true]), rfl⟩
    (conv => whnf)
    cases f26 : noAs m
    · (conv => whnf)
      exact ⟨congrArg PV.bool (by unfold isB othersB; rw [if_neg n1]; rw [if_pos hk]; show _ = (tgsB m && _); simp only [e1, e2, e3, e4, e5, f25, f26, Bool.and_true, Bool.true_and, Bool.and_false, Bool.false_and, Bool.or_false, Bool.false_or, Bool.true_or, Bool.or_true]), rfl⟩
    (conv => whnf)
    cases f27 : noRep m
    · (conv => whnf)
      exact ⟨congrArg PV.bool (by unfold isB othersB; rw [if_neg n1]; rw [if_pos hk]; show _ = (tgsB m && _); simp only [e1, e2, e3, e4, e5, f25, f26, f27, Bool.and_true, Bool.true_and, Bool.and_false, Bool.false_and, Bool.or_false, Bool.false_or, Bool.true_or, Bool.or_true]), rfl⟩
    (conv => whnf)
    cases f28 : noAp m
    · (conv => whnf)
      exact ⟨congrArg PV.bool (by unfold isB othersB; rw [if_neg n1]; rw [if_pos hk]; show _ = (tgsB m && _); simp only [e1, e2, e3, e4, e5, f25, f26, f27, f28, Bool.and_true, Bool.true_and, Bool.and_false, Bool.false_and, Bool.or_false, Bool.false_or, Bool.true_or, Bool.or_true]), rfl⟩
    (conv => whnf)
    cases f29 : noFail m
    · (conv => whnf)
      exact ⟨congrArg PV.bool (by unfold isB othersB; rw [if_neg n1]; rw [if_pos hk]; show _ = (tgsB m && _); simp only [e1, e2, e3, e4, e5, f25, f26, f27, f28, f29, Bool.and_true, Bool.true_and, Bool.and_false, Bool.false_and, Bool.or_false, Bool.false_or, Bool.true_or, Bool.or_true]), rfl⟩
    (conv => whnf)
    exact ⟨congrArg PV.bool (by unfold isB othersB; rw [if_neg n1]; rw [if_pos hk]; show _ = (tgsB m && _); simp only [e1, e2, e3, e4, e5, f25, f26, f27, f28, f29, Bool.and_true, Bool.true_and, Bool.and_false, Bool.false_and, Bool.or_false, Bool.false_or, Bool.true_or, Bool.or_true]), rfl⟩
  by_cases h3 : m.kind = 3
  · have hk := h3
    have n1 : ¬ m.kind = 1 := by omega
    have n2 : ¬ m.kind = 2 := by omega
    have n4 : ¬ m.kind = 4 := by omega
    have n5 : ¬ m.kind = 5 := by omega
    have e1 : decide (m.kind = 1) = false := decide_eq_false n1
    have e2 : decide (m.kind = 2) = false := decide_eq_false n2
    have e3 : decide (m.kind = 3) = true := decide_eq_true hk
    have e4 : decide (m.kind = 4) = false := decide_eq_false n4
    have e5 : decide (m.kind = 5) = false := decide_eq_false n5
    refine ⟨fun h => ?_, fun h => ?_⟩
    · exact (n1 h).elim
    (conv => whnf)
    refine ⟨fun h => ?_, fun h => ?_⟩
    · exact (n2 h).elim
    (conv => whnf)
    refine ⟨fun h => ?_, fun h => ?_⟩
    rotate_left
    · exact (h hk).elim
    (conv => whnf)
    refine callK_pure (c88 m.r1 m.r2 (by have := hm.2.2.2.2.2.2.2.2.1; omega) (by have := hm.2.2.2.2.2.2.2.2.2.1; omega)) ?_
    cases f30 : isPrincB m.r1 m.r2
    · (conv => whnf)
      exact ⟨congrArg PV.bool (by unfold isB othersB; rw [if_neg n1]; rw [if_neg n2]; rw [if_pos hk]; simp only [e1, e2, e3, e4, e5, f30, Bool.and_true, Bool.true_and, Bool.and_false, Bool.false_and, Bool.or_false, Bool.false_or, Bool.true_or, Bool.or_true]), rfl⟩
    (conv => whnf)
    refine callK_pure (c150 m.r3 m.r4 m.rKv m.rB none (by have := hm.2.2.2.2.2.2.2.2.2.2.1; omega) (by have := hm.2.2.2.2.2.2.2.2.2.2.2.1; omega)) ?_
    cases f31 : tickB m.r3 m.r4 m.rKv m.rB.length
    · (conv => whnf)
      exact ⟨congrArg PV.bool (by unfold isB othersB; rw [if_neg n1]; rw [if_neg n2]; rw [if_pos hk]; simp only [e1, e2, e3, e4, e5, f30, f31, Bool.and_true, Bool.true_and, Bool.and_false, Bool.false_and, Bool.or_false, Bool.false_or, Bool.true_or, Bool.or_true]), rfl⟩
    (conv => whnf)
    refine callK_pure (c151 m.rBl.length _ _) ?_
    cases f32 : inZ m.rBl.length 1 800
    · (conv => whnf)
      exact ⟨congrArg PV.bool (by unfold isB othersB; rw [if_neg n1]; rw [if_neg n2]; rw [if_pos hk]; simp only [e1, e2, e3, e4, e5, f30, f31, f32, Bool.and_true, Bool.true_and, Bool.and_false, Bool.false_and, Bool.or_false, Bool.false_or, Bool.true_or, Bool.or_true]), rfl⟩
    (conv => whnf)
    cases f33 : noAs m
    · (conv => whnf)
      exact ⟨congrArg PV.bool (by unfold isB othersB; rw [if_neg n1]; rw [if_neg n2]; rw [if_pos hk]; simp only [e1, e2, e3, e4, e5, f30, f31, f32, f33, Bool.and_true, Bool.true_and, Bool.and_false, Bool.false_and, Bool.or_false, Bool.false_or, Bool.true_or, Bool.or_true]), rfl⟩
    (conv => whnf)
    cases f34 : noTgs m
    · (conv => whnf)
      exact ⟨congrArg PV.bool (by unfold isB othersB; rw [if_neg n1]; rw [if_neg n2]; rw [if_pos hk]; simp only [e1, e2, e3, e4, e5, f30, f31, f32, f33, f34, Bool.and_true, Bool.true_and, Bool.and_false, Bool.false_and, Bool.or_false, Bool.false_or, Bool.true_or, Bool.or_true]), rfl⟩
    (conv => whnf)
    cases f35 : noAp m
    · (conv => whnf)
      exact ⟨congrArg PV.bool (by unfold isB othersB; rw [if_neg n1]; rw [if_neg n2]; rw [if_pos hk]; simp only [e1, e2, e3, e4, e5, f30, f31, f32, f33, f34, f35, Bool.and_true, Bool.true_and, Bool.and_false, Bool.false_and, Bool.or_false, Bool.false_or, Bool.true_or, Bool.or_true]), rfl⟩
    (conv => whnf)
    cases f36 : noFail m
    · (conv => whnf)
      exact ⟨congrArg PV.bool (by unfold isB othersB; rw [if_neg n1]; rw [if_neg n2]; rw [if_pos hk]; simp only [e1, e2, e3, e4, e5, f30, f31, f32, f33, f34, f35, f36, Bool.and_true, Bool.true_and, Bool.and_false, Bool.false_and, Bool.or_false, Bool.false_or, Bool.true_or, Bool.or_true]), rfl⟩
    (conv => whnf)
    exact ⟨congrArg PV.bool (by unfold isB othersB; rw [if_neg n1]; rw [if_neg n2]; rw [if_pos hk]; simp only [e1, e2, e3, e4, e5, f30, f31, f32, f33, f34, f35, f36, Bool.and_true, Bool.true_and, Bool.and_false, Bool.false_and, Bool.or_false, Bool.false_or, Bool.true_or, Bool.or_true]), rfl⟩
  by_cases h4 : m.kind = 4
  · have hk := h4
    have n1 : ¬ m.kind = 1 := by omega
    have n2 : ¬ m.kind = 2 := by omega
    have n3 : ¬ m.kind = 3 := by omega
    have n5 : ¬ m.kind = 5 := by omega
    have e1 : decide (m.kind = 1) = false := decide_eq_false n1
    have e2 : decide (m.kind = 2) = false := decide_eq_false n2
    have e3 : decide (m.kind = 3) = false := decide_eq_false n3
    have e4 : decide (m.kind = 4) = true := decide_eq_true hk
    have e5 : decide (m.kind = 5) = false := decide_eq_false n5
    refine ⟨fun h => ?_, fun h => ?_⟩
    · exact (n1 h).elim
    (conv => whnf)
    refine ⟨fun h => ?_, fun h => ?_⟩
    · exact (n2 h).elim
    (conv => whnf)
    refine ⟨fun h => ?_, fun h => ?_⟩
    · exact (n3 h).elim
    (conv => whnf)
    refine ⟨fun h => ?_, fun h => ?_⟩
    rotate_left
    · exact (h hk).elim
    (conv => whnf)
    refine callK_pure (c150 m.p1 m.p2 m.pKv m.pB none (by have := hm.2.2.2.2.2.2.2.2.2.2.2.2.1; omega) (by have := hm.2.2.2.2.2.2.2.2.2.2.2.2.2; omega)) ?_
    cases f37 : tickB m.p1 m.p2 m.pKv m.pB.length
    · (conv => whnf)
      exact ⟨congrArg PV.bool (by unfold isB othersB; rw [if_neg n1]; rw [if_neg n2]; rw [if_neg n3]; rw [if_pos hk]; simp only [e1, e2, e3, e4, e5, f37, Bool.and_true, Bool.true_and, Bool.and_false, Bool.false_and, Bool.or_false, Bool.false_or, Bool.true_or, Bool.or_true]), rfl⟩
    (conv => whnf)
    refine callK_pure (c151 m.pAu.length _ _) ?_
    cases f38 : inZ m.pAu.length 1 800
    · (conv => whnf)
      exact ⟨congrArg PV.bool (by unfold isB othersB; rw [if_neg n1]; rw [if_neg n2]; rw [if_neg n3]; rw [if_pos hk]; simp only [e1, e2, e3, e4, e5, f37, f38, Bool.and_true, Bool.true_and, Bool.and_false, Bool.false_and, Bool.or_false, Bool.false_or, Bool.true_or, Bool.or_true]), rfl⟩
    (conv => whnf)
    cases f39 : noAs m
    · (conv => whnf)
      exact ⟨congrArg PV.bool (by unfold isB othersB; rw [if_neg n1]; rw [if_neg n2]; rw [if_neg n3]; rw [if_pos hk]; simp only [e1, e2, e3, e4, e5, f37, f38, f39, Bool.and_true, Bool.true_and, Bool.and_false, Bool.false_and, Bool.or_false, Bool.false_or, Bool.true_or, Bool.or_true]), rfl⟩
    (conv => whnf)
    cases f40 : noTgs m
    · (conv => whnf)
      exact ⟨congrArg PV.bool (by unfold isB othersB; rw [if_neg n1]; rw [if_neg n2]; rw [if_neg n3]; rw [if_pos hk]; simp only [e1, e2, e3, e4, e5, f37, f38, f39, f40, Bool.and_true, Bool.true_and, Bool.and_false, Bool.false_and, Bool.or_false, Bool.false_or, Bool.true_or, Bool.or_true]), rfl⟩
    (conv => whnf)
    cases f41 : noRep m
    · (conv => whnf)
      exact ⟨congrArg PV.bool (by unfold isB othersB; rw [if_neg n1]; rw [if_neg n2]; rw [if_neg n3]; rw [if_pos hk]; simp only [e1, e2, e3, e4, e5, f37, f38, f39, f40, f41, Bool.and_true, Bool.true_and, Bool.and_false, Bool.false_and, Bool.or_false, Bool.false_or, Bool.true_or, Bool.or_true]), rfl⟩
    (conv => whnf)
    cases f42 : noFail m
    · (conv => whnf)
      exact ⟨congrArg PV.bool (by unfold isB othersB; rw [if_neg n1]; rw [if_neg n2]; rw [if_neg n3]; rw [if_pos hk]; simp only [e1, e2, e3, e4, e5, f37, f38, f39, f40, f41, f42, Bool.and_true, Bool.true_and, Bool.and_false, Bool.false_and, Bool.or_false, Bool.false_or, Bool.true_or, Bool.or_true]), rfl⟩
    (conv => whnf)
    exact ⟨congrArg PV.bool (by unfold isB othersB; rw [if_neg n1]; rw [if_neg n2]; rw [if_neg n3]; rw [if_pos hk]; simp only [e1, e2, e3, e4, e5, f37, f38, f39, f40, f41, f42, Bool.and_true, Bool.true_and, Bool.and_false, Bool.false_and, Bool.or_false, Bool.false_or, Bool.true_or, Bool.or_true]), rfl⟩
  by_cases h5 : m.kind = 5
  · have hk := h5
    have n1 : ¬ m.kind = 1 := by omega
    have n2 : ¬ m.kind = 2 := by omega
    have n3 : ¬ m.kind = 3 := by omega
    have n4 : ¬ m.kind = 4 := by omega
    have e1 : decide (m.kind = 1) = false := decide_eq_false n1
    have e2 : decide (m.kind = 2) = false := decide_eq_false n2
    have e3 : decide (m.kind = 3) = false := decide_eq_false n3
    have e4 : decide (m.kind = 4) = false := decide_eq_false n4
    have e5 : decide (m.kind = 5) = true := decide_eq_true hk
    refine ⟨fun h => ?_, fun h => ?_⟩
    · exact (n1 h).elim
    (conv => whnf)
    refine ⟨fun h => ?_, fun h => ?_⟩
    · exact (n2 h).elim
    (conv => whnf)
    refine ⟨fun h => ?_, fun h => ?_⟩
    · exact (n3 h).elim
    (conv => whnf)
    refine ⟨fun h => ?_, fun h => ?_⟩
    · exact (n4 h).elim
    (conv => whnf)
    refine ⟨fun h => ?_, fun h => ?_⟩
    rotate_left
    · exact (h hk).elim
    (conv => whnf)
    refine callK_pure (c111 m.fErr 1 255) ?_
    cases f43 : inZ m.fErr 1 255
    · (conv => whnf)
      exact ⟨congrArg PV.bool (by unfold isB othersB; rw [if_neg n1]; rw [if_neg n2]; rw [if_neg n3]; rw [if_neg n4]; rw [if_pos hk]; simp only [e1, e2, e3, e4, e5, f43, Bool.and_true, Bool.true_and, Bool.and_false, Bool.false_and, Bool.or_false, Bool.false_or, Bool.true_or, Bool.or_true]), rfl⟩
    (conv => whnf)
    refine callK_pure (c111 m.fNonce 0 1073741824) ?_
    cases f44 : inZ m.fNonce 0 1073741824
    · (conv => whnf)
      exact ⟨congrArg PV.bool (by unfold isB othersB; rw [if_neg n1]; rw [if_neg n2]; rw [if_neg n3]; rw [if_neg n4]; rw [if_pos hk]; simp only [e1, e2, e3, e4, e5, f43, f44, Bool.and_true, Bool.true_and, Bool.and_false, Bool.false_and, Bool.or_false, Bool.false_or, Bool.true_or, Bool.or_true]), rfl⟩
    (conv => whnf)
    cases f45 : noAs m
    · (conv => whnf)
      exact ⟨congrArg PV.bool (by unfold isB othersB; rw [if_neg n1]; rw [if_neg n2]; rw [if_neg n3]; rw [if_neg n4]; rw [if_pos hk]; simp only [e1, e2, e3, e4, e5, f43, f44, f45, Bool.and_true, Bool.true_and, Bool.and_false, Bool.false_and, Bool.or_false, Bool.false_or, Bool.true_or, Bool.or_true]), rfl⟩
    (conv => whnf)
    cases f46 : noTgs m
    · (conv => whnf)
      exact ⟨congrArg PV.bool (by unfold isB othersB; rw [if_neg n1]; rw [if_neg n2]; rw [if_neg n3]; rw [if_neg n4]; rw [if_pos hk]; simp only [e1, e2, e3, e4, e5, f43, f44, f45, f46, Bool.and_true, Bool.true_and, Bool.and_false, Bool.false_and, Bool.or_false, Bool.false_or, Bool.true_or, Bool.or_true]), rfl⟩
    (conv => whnf)
    cases f47 : noRep m
    · (conv => whnf)
      exact ⟨congrArg PV.bool (by unfold isB othersB; rw [if_neg n1]; rw [if_neg n2]; rw [if_neg n3]; rw [if_neg n4]; rw [if_pos hk]; simp only [e1, e2, e3, e4, e5, f43, f44, f45, f46, f47, Bool.and_true, Bool.true_and, Bool.and_false, Bool.false_and, Bool.or_false, Bool.false_or, Bool.true_or, Bool.or_true]), rfl⟩
    (conv => whnf)
    cases f48 : noAp m
    · (conv => whnf)
      exact ⟨congrArg PV.bool (by unfold isB othersB; rw [if_neg n1]; rw [if_neg n2]; rw [if_neg n3]; rw [if_neg n4]; rw [if_pos hk]; simp only [e1, e2, e3, e4, e5, f43, f44, f45, f46, f47, f48, Bool.and_true, Bool.true_and, Bool.and_false, Bool.false_and, Bool.or_false, Bool.false_or, Bool.true_or, Bool.or_true]), rfl⟩
    (conv => whnf)
    exact ⟨congrArg PV.bool (by unfold isB othersB; rw [if_neg n1]; rw [if_neg n2]; rw [if_neg n3]; rw [if_neg n4]; rw [if_pos hk]; simp only [e1, e2, e3, e4, e5, f43, f44, f45, f46, f47, f48, Bool.and_true, Bool.true_and, Bool.and_false, Bool.false_and, Bool.or_false, Bool.false_or, Bool.true_or, Bool.or_true]), rfl⟩
  have n1 : ¬ m.kind = 1 := h1
  have n2 : ¬ m.kind = 2 := h2
  have n3 : ¬ m.kind = 3 := h3
  have n4 : ¬ m.kind = 4 := h4
  have n5 : ¬ m.kind = 5 := h5
  have e1 : decide (m.kind = 1) = false := decide_eq_false n1
  have e2 : decide (m.kind = 2) = false := decide_eq_false n2
  have e3 : decide (m.kind = 3) = false := decide_eq_false n3
  have e4 : decide (m.kind = 4) = false := decide_eq_false n4
  have e5 : decide (m.kind = 5) = false := decide_eq_false n5
  refine ⟨fun h => ?_, fun h => ?_⟩
  · exact (n1 h).elim
  (conv => whnf)
  refine ⟨fun h => ?_, fun h => ?_⟩
  · exact (n2 h).elim
  (conv => whnf)
  refine ⟨fun h => ?_, fun h => ?_⟩
  · exact (n3 h).elim
  (conv => whnf)
  refine ⟨fun h => ?_, fun h => ?_⟩
  · exact (n4 h).elim
  (conv => whnf)
  refine ⟨fun h => ?_, fun h => ?_⟩
  · exact (n5 h).elim
  (conv => whnf)
  exact ⟨congrArg PV.bool (by unfold isB othersB; rw [if_neg n1]; rw [if_neg n2]; rw [if_neg n3]; rw [if_neg n4]; rw [if_neg n5]; simp only [e1, e2, e3, e4, e5, Bool.and_true, Bool.true_and, Bool.and_false, Bool.false_and, Bool.or_false, Bool.false_or, Bool.true_or, Bool.or_true]), rfl⟩
end Go.Proofs.Tryz

set_option maxRecDepth 100000
set_option maxHeartbeats 2000000
set_option linter.unusedVariables false
set_option linter.unusedSimpArgs false
namespace Go.Proofs.Tryz
open Go Ps
theorem splitB_sum (c : UInt8) : ∀ (s : List UInt8), ((splitB c s).map (fun x => x.length + 1)).sum = s.length + 1
  | [] => by simp [splitB]
  | x :: s => by
    have ih := splitB_sum c s
    have hne : splitB c s ≠ [] := fun e => by rw [e] at ih; simp at ih
    simp only [splitB]
    split
    · simp [ih]; omega
    · cases hs : splitB c s with
      | nil => exact absurd hs hne
      | cons a l => rw [hs] at ih; simp at ih ⊢; omega
theorem sum_le (k : Nat) : ∀ (l : List (List UInt8)), (∀ x ∈ l, x.length ≤ k) → (l.map (fun x => x.length + 1)).sum ≤ l.length * (k + 1)
  | [], _ => by simp
  | a :: l, h => by
    have := sum_le k l fun x hx => h x (List.mem_cons_of_mem _ hx)
    have := h a List.mem_cons_self
    simp only [List.map_cons, List.sum_cons, List.length_cons, Nat.add_mul]; omega
theorem badL_len {c : UInt8} {s : List UInt8} (h : badL (splitB c s) = false) : s.length ≤ 35 := by
  unfold badL at h
  rw [Bool.or_eq_false_iff] at h
  have h1 : (splitB c s).length ≤ 4 := by have := of_decide_eq_false h.1; omega
  have h2 := sum_le 8 (splitB c s) fun x hx => by
    have := List.any_eq_false.1 h.2 x hx
    have : isWordB x upperB = true := by simpa using this
    unfold isWordB at this
    rw [Bool.and_eq_true, Bool.and_eq_true] at this
    exact of_decide_eq_true this.2.1
  rw [splitB_sum] at h2
  have : (splitB c s).length * (8 + 1) ≤ 4 * (8 + 1) := Nat.mul_le_mul_right _ h1
  omega
theorem realm_len {r : List UInt8} (h : isRealmB r = true) : r.length ≤ 36 := by
  replace h : (labelsB r).1 ≠ 0 := of_decide_eq_true h
  unfold labelsB at h
  split at h
  · split at h
    · exact absurd rfl h
    · rename_i t hb
      have := badL_len (c := 47) (s := t) (by simpa using hb)
      simp; omega
  · split at h
    · exact absurd rfl h
    · rename_i hb
      have := badL_len (c := 46) (s := r) (by simpa using hb)
      omega
theorem princ_len {r n : List UInt8} (h : isPrincB r n = true) : r.length ≤ 36 ∧ n.length ≤ 43 := by
  unfold isPrincB at h
  rw [Bool.and_eq_true, Bool.or_eq_true] at h
  refine ⟨realm_len h.1, ?_⟩
  rcases h.2 with h2 | h2
  · unfold targetB at h2
    split at h2
    · rename_i hc
      rw [Bool.and_eq_true] at hc
      have := realm_len hc.2
      rw [List.length_drop] at this
      omega
    · cases h2
  · unfold isWordB at h2
    rw [Bool.and_eq_true, Bool.and_eq_true] at h2
    have := of_decide_eq_true h2.2.1
    omega
theorem inZ_le {n lo hi : Int} (h : inZ n lo hi = true) : lo ≤ n ∧ n ≤ hi := by
  unfold inZ at h
  rw [Bool.and_eq_true] at h
  exact ⟨of_decide_eq_true h.1, of_decide_eq_true h.2⟩
theorem tick_len {r n : List UInt8} {kv : Int} {k : Nat} (h : tickB r n kv k = true) : r.length ≤ 36 ∧ n.length ≤ 43 ∧ k ≤ 800 := by
  unfold tickB at h
  rw [Bool.and_eq_true, Bool.and_eq_true] at h
  have h1 := princ_len h.1.1
  have h2 := inZ_le h.2
  exact ⟨h1.1, h1.2, by omega⟩
theorem wrapB_len (t : UInt8) (b : List UInt8) : (wrapB t b).length ≤ b.length + 4 := by
  have := lenB_len b.length
  unfold wrapB
  simp; omega
def princE (r n : List UInt8) : List UInt8 := wrapB 48 [wrapB 27 r, wrapB 27 n].flatten
def intE (n : Int) : List UInt8 := wrapB 2 (intB (clampI n))
def ticketE (r n : List UInt8) (kv : Int) (b : List UInt8) : List UInt8 := wrapB 97 [princE r n, intE kv, wrapB 4 b].flatten
theorem intE_len (n : Int) : (intE n).length ≤ 14 := by
  have h1 := wrapB_len 2 (intB (clampI n))
  have h2 := le_len 9 (clampI n)
  have h3 : (intB (clampI n)).length ≤ 10 := by
    unfold intB padB
    rw [List.length_reverse]
    split
    · rw [List.length_append, List.length_singleton]; omega
    · omega
  unfold intE; omega
theorem princE_len (r n : List UInt8) : (princE r n).length ≤ r.length + n.length + 12 := by
  have h := wrapB_len 48 [wrapB 27 r, wrapB 27 n].flatten
  have h1 := wrapB_len 27 r
  have h2 := wrapB_len 27 n
  simp only [List.flatten_cons, List.flatten_nil, List.length_append, List.length_nil] at h
  unfold princE; simp only [List.flatten_cons, List.flatten_nil] at h ⊢; omega
theorem ticketE_len (r n : List UInt8) (kv : Int) (b : List UInt8) : (ticketE r n kv b).length ≤ r.length + n.length + b.length + 34 := by
  have h := wrapB_len 97 [princE r n, intE kv, wrapB 4 b].flatten
  have h1 := princE_len r n
  have h2 := intE_len kv
  have h3 := wrapB_len 4 b
  simp only [List.flatten_cons, List.flatten_nil, List.length_append, List.length_nil] at h
  unfold ticketE; simp only [List.flatten_cons, List.flatten_nil] at h ⊢; omega
theorem c64p (tag : UInt8) (ls : List (List UInt8)) (hn : ls.length ≤ 1099511627776) (ht : ls.flatten.length ≤ 1099511627000) :
    Pure prog 64 [byteC tag, .slice ls.length (ls.map sl) none] (sl (wrapB tag ls.flatten)) := fun H => c64 tag ls hn ht (Reps.sl H ls)
theorem c66p (p : List UInt8) (hp : p.length ≤ 1099511627000) : Pure prog 66 [sl p] (sl (wrapB 4 p)) := fun H => c66 p hp H
theorem c67p (p : List UInt8) (hp : p.length ≤ 1099511627000) : Pure prog 67 [.str p] (sl (wrapB 27 p)) := fun H => c67 p hp H
def limV (ok : Bool) (b : List UInt8) : PV := if ok = true ∧ b.length ≤ 2000 then .tup [sl b, .int .i64 0] else .tup [.slice 0 [] (some 5), .int .i64 1]
theorem c59 (ok : Bool) (b : List UInt8) : Pure prog 59 [.bool ok, sl b] (limV ok b) := by
  intro H
  (refine callOk_of_pFun2 (tt := ttG) (imm := imm59) follows ttG_ok depth6 func59 (by kernel_rfl) ?_; (conv => whnf))
  cases ok
  · (conv => whnf)
    exact ⟨by unfold limV; rw [if_neg (by simp)]; rfl, rfl⟩
  · (conv => whnf)
    refine ⟨fun h => ?_, fun h => ?_⟩
    · (conv => whnf)
      have h : (2000 : Int) < (b.length : Int) := h
      exact ⟨by unfold limV; rw [if_neg (by omega)]; rfl, rfl⟩
    · (conv => whnf)
      have h : ¬ (2000 : Int) < (b.length : Int) := h
      exact ⟨by unfold limV; rw [if_pos ⟨rfl, by omega⟩]; rfl, rfl⟩
theorem c65 (r n : List UInt8) (hr : r.length ≤ 1000000) (hn : n.length ≤ 1000000) : Pure prog 65 [.agg [.str r, .str n]] (sl (princE r n)) := by
  intro H
  have h1 := wrapB_len 27 r
  have h2 := wrapB_len 27 n
  (refine callOk_of_pFun2 (tt := ttG) (imm := imm65) follows ttG_ok depth6 func65 (by kernel_rfl) ?_; (conv => whnf))
  refine drawK_pure2 (by kernel_rfl) ?_
  (conv => whnf)
  (apply Exists.intro; apply And.intro; (focus ((conv => whnf); first | exact ⟨rfl, rfl, trivial⟩ | (refine ⟨by omega, ?_⟩; (conv => whnf); exact ⟨rfl, rfl, trivial⟩))); (conv => whnf))
  (apply Exists.intro; apply And.intro; (focus ((conv => whnf); first | exact ⟨rfl, rfl, trivial⟩ | (refine ⟨by omega, ?_⟩; (conv => whnf); exact ⟨rfl, rfl, trivial⟩))); (conv => whnf))
  refine ⟨_, callK_pure (c67p r (by omega)) ⟨rfl, rfl, trivial⟩, ?_⟩
  (conv => whnf)
  (apply Exists.intro; apply And.intro; (focus ((conv => whnf); first | exact ⟨rfl, rfl, trivial⟩ | (refine ⟨by omega, ?_⟩; (conv => whnf); exact ⟨rfl, rfl, trivial⟩))); (conv => whnf))
  (apply Exists.intro; apply And.intro; (focus ((conv => whnf); first | exact ⟨rfl, rfl, trivial⟩ | (refine ⟨by omega, ?_⟩; (conv => whnf); exact ⟨rfl, rfl, trivial⟩))); (conv => whnf))
  refine ⟨_, callK_pure (c67p n (by omega)) ⟨rfl, rfl, trivial⟩, ?_⟩
  (conv => whnf)
  (apply Exists.intro; apply And.intro; (focus ((conv => whnf); first | exact ⟨rfl, rfl, trivial⟩ | (refine ⟨by omega, ?_⟩; (conv => whnf); exact ⟨rfl, rfl, trivial⟩))); (conv => whnf))
  refine ⟨_, callK_pure (c64p 48 [wrapB 27 r, wrapB 27 n] (by simp) (by simp only [List.flatten_cons, List.flatten_nil, List.length_append, List.length_nil]; omega)) ⟨rfl, rfl, trivial⟩, ?_⟩
  (conv => whnf)
  (apply Exists.intro; apply And.intro; (focus ((conv => whnf); first | exact ⟨rfl, rfl, trivial⟩ | (refine ⟨by omega, ?_⟩; (conv => whnf); exact ⟨rfl, rfl, trivial⟩))); (conv => whnf))
  exact ⟨rfl, rfl⟩
theorem c121 (r n : List UInt8) (kv : Int) (b : List UInt8) (o : Option Nat) (hr : r.length ≤ 1000000) (hn : n.length ≤ 1000000) (hb : b.length ≤ 1000000) : Pure prog 121 [.agg [.str r, .str n, .int .i64 kv, slo b o]] (sl (ticketE r n kv b)) := by
  intro H
  have h1 := princE_len r n
  have h2 := intE_len kv
  have h3 := wrapB_len 4 b
  (refine callOk_of_pFun2 (tt := ttG) (imm := imm121) follows ttG_ok depth6 func121 (by kernel_rfl) ?_; (conv => whnf))
  refine drawK_pure2 (by kernel_rfl) ?_
  (conv => whnf)
  (apply Exists.intro; apply And.intro; (focus ((conv => whnf); first | exact ⟨rfl, rfl, trivial⟩ | (refine ⟨by omega, ?_⟩; (conv => whnf); exact ⟨rfl, rfl, trivial⟩))); (conv => whnf))
  (apply Exists.intro; apply And.intro; (focus ((conv => whnf); first | exact ⟨rfl, rfl, trivial⟩ | (refine ⟨by omega, ?_⟩; (conv => whnf); exact ⟨rfl, rfl, trivial⟩))); (conv => whnf))
  refine ⟨_, callK_pure (c65 r n hr hn) ⟨rfl, rfl, trivial⟩, ?_⟩
  (conv => whnf)
  (apply Exists.intro; apply And.intro; (focus ((conv => whnf); first | exact ⟨rfl, rfl, trivial⟩ | (refine ⟨by omega, ?_⟩; (conv => whnf); exact ⟨rfl, rfl, trivial⟩))); (conv => whnf))
  (apply Exists.intro; apply And.intro; (focus ((conv => whnf); first | exact ⟨rfl, rfl, trivial⟩ | (refine ⟨by omega, ?_⟩; (conv => whnf); exact ⟨rfl, rfl, trivial⟩))); (conv => whnf))
  refine ⟨_, callK_pure (c68 kv) ⟨rfl, rfl, trivial⟩, ?_⟩
  (conv => whnf)
  (apply Exists.intro; apply And.intro; (focus ((conv => whnf); first | exact ⟨rfl, rfl, trivial⟩ | (refine ⟨by omega, ?_⟩; (conv => whnf); exact ⟨rfl, rfl, trivial⟩))); (conv => whnf))
  (apply Exists.intro; apply And.intro; (focus ((conv => whnf); first | exact ⟨rfl, rfl, trivial⟩ | (refine ⟨by omega, ?_⟩; (conv => whnf); exact ⟨rfl, rfl, trivial⟩))); (conv => whnf))
  refine ⟨_, callK_pure (c66p b (by omega)) ⟨rfl, rfl, trivial⟩, ?_⟩
  (conv => whnf)
  (apply Exists.intro; apply And.intro; (focus ((conv => whnf); first | exact ⟨rfl, rfl, trivial⟩ | (refine ⟨by omega, ?_⟩; (conv => whnf); exact ⟨rfl, rfl, trivial⟩))); (conv => whnf))
  refine ⟨_, callK_pure (c64p 97 [princE r n, intE kv, wrapB 4 b] (by simp) (by simp only [List.flatten_cons, List.flatten_nil, List.length_append, List.length_nil]; omega)) ⟨rfl, rfl, trivial⟩, ?_⟩
  (conv => whnf)
  (apply Exists.intro; apply And.intro; (focus ((conv => whnf); first | exact ⟨rfl, rfl, trivial⟩ | (refine ⟨by omega, ?_⟩; (conv => whnf); exact ⟨rfl, rfl, trivial⟩))); (conv => whnf))
  exact ⟨rfl, rfl⟩
def laidB (m : Msg) : List UInt8 :=
  if m.kind = 1 then wrapB 106 [princE m.a1 m.a2, princE m.a3 m.a4, intE m.aTill, intE m.aNonce].flatten
  else if m.kind = 2 then wrapB 108 [ticketE m.t1 m.t2 m.tKv m.tB, wrapB 4 m.tAu, princE m.t3 m.t4, intE m.tTill, intE m.tNonce].flatten
  else if m.kind = 3 then wrapB 107 [princE m.r1 m.r2, ticketE m.r3 m.r4 m.rKv m.rB, wrapB 4 m.rBl].flatten
  else if m.kind = 4 then wrapB 110 [ticketE m.p1 m.p2 m.pKv m.pB, wrapB 4 m.pAu].flatten
  else wrapB 126 [intE m.fErr, intE m.fNonce].flatten
theorem c60x (m : Msg) (hm : isB m = true) (H : PH) : CallOk prog 60 [.agg m.cells] H fun r H' => r = sl (laidB m) ∧ ∃ ext, H' = H ++ ext := by
  have hm := (Bool.and_eq_true _ _ ▸ hm : _ ∧ _).1
  (refine callOk_of_pFun2 (tt := ttG) (imm := imm60) follows ttG_ok depth6 func60 (by kernel_rfl) ?_; (conv => whnf))
  (conv => whnf)
  by_cases h1 : m.kind = 1
  · have hk := h1
    have n2 : ¬ m.kind = 2 := by omega
    have n3 : ¬ m.kind = 3 := by omega
    have n4 : ¬ m.kind = 4 := by omega
    have n5 : ¬ m.kind = 5 := by omega
    rw [if_pos hk] at hm
    simp only [Bool.and_eq_true] at hm
    have g1 := princ_len hm.1.1.1
    have g2 := princ_len hm.1.1.2
    have g3 := princE_len m.a1 m.a2
    have g4 := princE_len m.a3 m.a4
    have g5 := intE_len m.aTill
    have g6 := intE_len m.aNonce
    refine ⟨fun h => ?_, fun h => ?_⟩
    rotate_left
    · exact (h hk).elim
    (conv => whnf)
    ((conv in (_[_]?) => tactic => exact get_last _ _); (conv => whnf))
    refine drawK_pure2 (by kernel_rfl) ?_
    (conv => whnf)
    (apply Exists.intro; apply And.intro; (focus ((conv => whnf); first | exact ⟨rfl, rfl, trivial⟩ | (refine ⟨by omega, ?_⟩; (conv => whnf); exact ⟨rfl, rfl, trivial⟩))); (conv => whnf))
    apply Exists.intro
    apply And.intro
    focus
      (conv => whnf)
      ((conv in (_[_]?) => tactic => exact get_set (get_last _ _)); (conv => whnf))
      exact ⟨rfl, rfl, trivial⟩
    (conv => whnf)
    refine ⟨_, callK_pure (c65 m.a1 m.a2 (by omega) (by omega)) ⟨rfl, rfl, trivial⟩, ?_⟩
    (conv => whnf)
    (apply Exists.intro; apply And.intro; (focus ((conv => whnf); first | exact ⟨rfl, rfl, trivial⟩ | (refine ⟨by omega, ?_⟩; (conv => whnf); exact ⟨rfl, rfl, trivial⟩))); (conv => whnf))
    apply Exists.intro
    apply And.intro
    focus
      (conv => whnf)
      ((conv in (_[_]?) => tactic => exact get_set (get_last _ _)); (conv => whnf))
      exact ⟨rfl, rfl, trivial⟩
    (conv => whnf)
    refine ⟨_, callK_pure (c65 m.a3 m.a4 (by omega) (by omega)) ⟨rfl, rfl, trivial⟩, ?_⟩
    (conv => whnf)
    (apply Exists.intro; apply And.intro; (focus ((conv => whnf); first | exact ⟨rfl, rfl, trivial⟩ | (refine ⟨by omega, ?_⟩; (conv => whnf); exact ⟨rfl, rfl, trivial⟩))); (conv => whnf))
    apply Exists.intro
    apply And.intro
    focus
      (conv => whnf)
      ((conv in (_[_]?) => tactic => exact get_set (get_last _ _)); (conv => whnf))
      exact ⟨rfl, rfl, trivial⟩
    (conv => whnf)
    refine ⟨_, callK_pure (c68 m.aTill) ⟨rfl, rfl, trivial⟩, ?_⟩
    (conv => whnf)
    (apply Exists.intro; apply And.intro; (focus ((conv => whnf); first | exact ⟨rfl, rfl, trivial⟩ | (refine ⟨by omega, ?_⟩; (conv => whnf); exact ⟨rfl, rfl, trivial⟩))); (conv => whnf))
    apply Exists.intro
    apply And.intro
    focus
      (conv => whnf)
      ((conv in (_[_]?) => tactic => exact get_set (get_last _ _)); (conv => whnf))
      exact ⟨rfl, rfl, trivial⟩
    (conv => whnf)
    refine ⟨_, callK_pure (c68 m.aNonce) ⟨rfl, rfl, trivial⟩, ?_⟩
    (conv => whnf)
    (apply Exists.intro; apply And.intro; (focus ((conv => whnf); first | exact ⟨rfl, rfl, trivial⟩ | (refine ⟨by omega, ?_⟩; (conv => whnf); exact ⟨rfl, rfl, trivial⟩))); (conv => whnf))
    refine ⟨_, callK_pure (c64p 106 [princE m.a1 m.a2, princE m.a3 m.a4, intE m.aTill, intE m.aNonce] (by simp) (by simp only [List.flatten_cons, List.flatten_nil, List.length_append, List.length_nil]; omega)) ⟨rfl, rfl, trivial⟩, ?_⟩
    (conv => whnf)
    (apply Exists.intro; apply And.intro; (focus ((conv => whnf); first | exact ⟨rfl, rfl, trivial⟩ | (refine ⟨by omega, ?_⟩; (conv => whnf); exact ⟨rfl, rfl, trivial⟩))); (conv => whnf))
    exact ⟨by unfold laidB; rw [if_pos hk]; rfl, (Ext.refl _).push _ |>.set (Ext.refl _).len _⟩
  by_cases h2 : m.kind = 2
  · have hk := h2
    have n1 : ¬ m.kind = 1 := by omega
    have n3 : ¬ m.kind = 3 := by omega
    have n4 : ¬ m.kind = 4 := by omega
    have n5 : ¬ m.kind = 5 := by omega
    rw [if_neg n1] at hm
    rw [if_pos hk] at hm
    simp only [Bool.and_eq_true] at hm
    have g1 := tick_len hm.1.1.1.1
    have g2 := inZ_le hm.1.1.1.2
    have g3 := princ_len hm.1.1.2
    have g4 := ticketE_len m.t1 m.t2 m.tKv m.tB
    have g5 := wrapB_len 4 m.tAu
    have g6 := princE_len m.t3 m.t4
    have g7 := intE_len m.tTill
    have g8 := intE_len m.tNonce
    refine ⟨fun h => ?_, fun h => ?_⟩
    · exact (n1 h).elim
    (conv => whnf)
    refine ⟨fun h => ?_, fun h => ?_⟩
    rotate_left
    · exact (h hk).elim
    (conv => whnf)
    ((conv in (_[_]?) => tactic => exact get_last _ _); (conv => whnf))
    refine drawK_pure2 (by kernel_rfl) ?_
    (conv => whnf)
    (apply Exists.intro; apply And.intro; (focus ((conv => whnf); first | exact ⟨rfl, rfl, trivial⟩ | (refine ⟨by omega, ?_⟩; (conv => whnf); exact ⟨rfl, rfl, trivial⟩))); (conv => whnf))
    apply Exists.intro
    apply And.intro
    focus
      (conv => whnf)
      ((conv in (_[_]?) => tactic => exact get_set (get_last _ _)); (conv => whnf))
      exact ⟨rfl, rfl, trivial⟩
    (conv => whnf)
    refine ⟨_, callK_pure (c121 m.t1 m.t2 m.tKv m.tB none (by omega) (by omega) (by omega)) ⟨rfl, rfl, trivial⟩, ?_⟩
    (conv => whnf)
    (apply Exists.intro; apply And.intro; (focus ((conv => whnf); first | exact ⟨rfl, rfl, trivial⟩ | (refine ⟨by omega, ?_⟩; (conv => whnf); exact ⟨rfl, rfl, trivial⟩))); (conv => whnf))
    apply Exists.intro
    apply And.intro
    focus
      (conv => whnf)
      ((conv in (_[_]?) => tactic => exact get_set (get_last _ _)); (conv => whnf))
      exact ⟨rfl, rfl, trivial⟩
    (conv => whnf)
    refine ⟨_, callK_pure (c66p m.tAu (by omega)) ⟨rfl, rfl, trivial⟩, ?_⟩
    (conv => whnf)
    (apply Exists.intro; apply And.intro; (focus ((conv => whnf); first | exact ⟨rfl, rfl, trivial⟩ | (refine ⟨by omega, ?_⟩; (conv => whnf); exact ⟨rfl, rfl, trivial⟩))); (conv => whnf))
    apply Exists.intro
    apply And.intro
    focus
      (conv => whnf)
      ((conv in (_[_]?) => tactic => exact get_set (get_last _ _)); (conv => whnf))
      exact ⟨rfl, rfl, trivial⟩
    (conv => whnf)
    refine ⟨_, callK_pure (c65 m.t3 m.t4 (by omega) (by omega)) ⟨rfl, rfl, trivial⟩, ?_⟩
    (conv => whnf)
    (apply Exists.intro; apply And.intro; (focus ((conv => whnf); first | exact ⟨rfl, rfl, trivial⟩ | (refine ⟨by omega, ?_⟩; (conv => whnf); exact ⟨rfl, rfl, trivial⟩))); (conv => whnf))
    apply Exists.intro
    apply And.intro
    focus
      (conv => whnf)
      ((conv in (_[_]?) => tactic => exact get_set (get_last _ _)); (conv => whnf))
      exact ⟨rfl, rfl, trivial⟩
    (conv => whnf)
    refine ⟨_, callK_pure (c68 m.tTill) ⟨rfl, rfl, trivial⟩, ?_⟩
    (conv => whnf)
    (apply Exists.intro; apply And.intro; (focus ((conv => whnf); first | exact ⟨rfl, rfl, trivial⟩ | (refine ⟨by omega, ?_⟩; (conv => whnf); exact ⟨rfl, rfl, trivial⟩))); (conv => whnf))
    apply Exists.intro
    apply And.intro
    focus
      (conv => whnf)
      ((conv in (_[_]?) => tactic => exact get_set (get_last _ _)); (conv => whnf))
      exact ⟨rfl, rfl, trivial⟩
    (conv => whnf)
    refine ⟨_, callK_pure (c68 m.tNonce) ⟨rfl, rfl, trivial⟩, ?_⟩
    (conv => whnf)
    (apply Exists.intro; apply And.intro; (focus ((conv => whnf); first | exact ⟨rfl, rfl, trivial⟩ | (refine ⟨by omega, ?_⟩; (conv => whnf); exact ⟨rfl, rfl, trivial⟩))); (conv => whnf))
    refine ⟨_, callK_pure (c64p 108 [ticketE m.t1 m.t2 m.tKv m.tB, wrapB 4 m.tAu, princE m.t3 m.t4, intE m.tTill, intE m.tNonce] (by simp) (by simp only [List.flatten_cons, List.flatten_nil, List.length_append, List.length_nil]; omega)) ⟨rfl, rfl, trivial⟩, ?_⟩
    (conv => whnf)
    (apply Exists.intro; apply And.intro; (focus ((conv => whnf); first | exact ⟨rfl, rfl, trivial⟩ | (refine ⟨by omega, ?_⟩; (conv => whnf); exact ⟨rfl, rfl, trivial⟩))); (conv => whnf))
    exact ⟨by unfold laidB; rw [if_neg n1]; rw [if_pos hk]; rfl, (Ext.refl _).push _ |>.set (Ext.refl _).len _⟩
  by_cases h3 : m.kind = 3
  · have hk := h3
    have n1 : ¬ m.kind = 1 := by omega
    have n2 : ¬ m.kind = 2 := by omega
    have n4 : ¬ m.kind = 4 := by omega
    have n5 : ¬ m.kind = 5 := by omega
    rw [if_neg n1] at hm
    rw [if_neg n2] at hm
    rw [if_pos hk] at hm
    simp only [Bool.and_eq_true] at hm
    have g1 := princ_len hm.1.1
    have g2 := tick_len hm.1.2
    have g3 := inZ_le hm.2
    have g4 := princE_len m.r1 m.r2
    have g5 := ticketE_len m.r3 m.r4 m.rKv m.rB
    have g6 := wrapB_len 4 m.rBl
    refine ⟨fun h => ?_, fun h => ?_⟩
    · exact (n1 h).elim
    (conv => whnf)
    refine ⟨fun h => ?_, fun h => ?_⟩
    · exact (n2 h).elim
    (conv => whnf)
    refine ⟨fun h => ?_, fun h => ?_⟩
    rotate_left
    · exact (h hk).elim
    (conv => whnf)
    refine drawK_pure2 (by kernel_rfl) ?_
    (conv => whnf)
    (apply Exists.intro; apply And.intro; (focus ((conv => whnf); first | exact ⟨rfl, rfl, trivial⟩ | (refine ⟨by omega, ?_⟩; (conv => whnf); exact ⟨rfl, rfl, trivial⟩))); (conv => whnf))
    (apply Exists.intro; apply And.intro; (focus ((conv => whnf); first | exact ⟨rfl, rfl, trivial⟩ | (refine ⟨by omega, ?_⟩; (conv => whnf); exact ⟨rfl, rfl, trivial⟩))); (conv => whnf))
    (apply Exists.intro; apply And.intro; (focus ((conv => whnf); first | exact ⟨rfl, rfl, trivial⟩ | (refine ⟨by omega, ?_⟩; (conv => whnf); exact ⟨rfl, rfl, trivial⟩))); (conv => whnf))
    refine ⟨_, callK_pure (c65 m.r1 m.r2 (by omega) (by omega)) ⟨rfl, rfl, trivial⟩, ?_⟩
    (conv => whnf)
    (apply Exists.intro; apply And.intro; (focus ((conv => whnf); first | exact ⟨rfl, rfl, trivial⟩ | (refine ⟨by omega, ?_⟩; (conv => whnf); exact ⟨rfl, rfl, trivial⟩))); (conv => whnf))
    (apply Exists.intro; apply And.intro; (focus ((conv => whnf); first | exact ⟨rfl, rfl, trivial⟩ | (refine ⟨by omega, ?_⟩; (conv => whnf); exact ⟨rfl, rfl, trivial⟩))); (conv => whnf))
    (apply Exists.intro; apply And.intro; (focus ((conv => whnf); first | exact ⟨rfl, rfl, trivial⟩ | (refine ⟨by omega, ?_⟩; (conv => whnf); exact ⟨rfl, rfl, trivial⟩))); (conv => whnf))
    refine ⟨_, callK_pure (c121 m.r3 m.r4 m.rKv m.rB none (by omega) (by omega) (by omega)) ⟨rfl, rfl, trivial⟩, ?_⟩
    (conv => whnf)
    (apply Exists.intro; apply And.intro; (focus ((conv => whnf); first | exact ⟨rfl, rfl, trivial⟩ | (refine ⟨by omega, ?_⟩; (conv => whnf); exact ⟨rfl, rfl, trivial⟩))); (conv => whnf))
    (apply Exists.intro; apply And.intro; (focus ((conv => whnf); first | exact ⟨rfl, rfl, trivial⟩ | (refine ⟨by omega, ?_⟩; (conv => whnf); exact ⟨rfl, rfl, trivial⟩))); (conv => whnf))
    (apply Exists.intro; apply And.intro; (focus ((conv => whnf); first | exact ⟨rfl, rfl, trivial⟩ | (refine ⟨by omega, ?_⟩; (conv => whnf); exact ⟨rfl, rfl, trivial⟩))); (conv => whnf))
    refine ⟨_, callK_pure (c66p m.rBl (by omega)) ⟨rfl, rfl, trivial⟩, ?_⟩
    (conv => whnf)
    (apply Exists.intro; apply And.intro; (focus ((conv => whnf); first | exact ⟨rfl, rfl, trivial⟩ | (refine ⟨by omega, ?_⟩; (conv => whnf); exact ⟨rfl, rfl, trivial⟩))); (conv => whnf))
    refine ⟨_, callK_pure (c64p 107 [princE m.r1 m.r2, ticketE m.r3 m.r4 m.rKv m.rB, wrapB 4 m.rBl] (by simp) (by simp only [List.flatten_cons, List.flatten_nil, List.length_append, List.length_nil]; omega)) ⟨rfl, rfl, trivial⟩, ?_⟩
    (conv => whnf)
    (apply Exists.intro; apply And.intro; (focus ((conv => whnf); first | exact ⟨rfl, rfl, trivial⟩ | (refine ⟨by omega, ?_⟩; (conv => whnf); exact ⟨rfl, rfl, trivial⟩))); (conv => whnf))
    exact ⟨by unfold laidB; rw [if_neg n1]; rw [if_neg n2]; rw [if_pos hk]; rfl, Ext.refl _⟩
  by_cases h4 : m.kind = 4
  · have hk := h4
    have n1 : ¬ m.kind = 1 := by omega
    have n2 : ¬ m.kind = 2 := by omega
    have n3 : ¬ m.kind = 3 := by omega
    have n5 : ¬ m.kind = 5 := by omega
    rw [if_neg n1] at hm
    rw [if_neg n2] at hm
    rw [if_neg n3] at hm
    rw [if_pos hk] at hm
    simp only [Bool.and_eq_true] at hm
    have g1 := tick_len hm.1
    have g2 := inZ_le hm.2
    have g3 := ticketE_len m.p1 m.p2 m.pKv m.pB
    have g4 := wrapB_len 4 m.pAu
    refine ⟨fun h => ?_, fun h => ?_⟩
    · exact (n1 h).elim
    (conv => whnf)
    refine ⟨fun h => ?_, fun h => ?_⟩
    · exact (n2 h).elim
    (conv => whnf)
    refine ⟨fun h => ?_, fun h => ?_⟩
    · exact (n3 h).elim
    (conv => whnf)
    refine ⟨fun h => ?_, fun h => ?_⟩
    rotate_left
    · exact (h hk).elim
    (conv => whnf)
    refine drawK_pure2 (by kernel_rfl) ?_
    (conv => whnf)
    (apply Exists.intro; apply And.intro; (focus ((conv => whnf); first | exact ⟨rfl, rfl, trivial⟩ | (refine ⟨by omega, ?_⟩; (conv => whnf); exact ⟨rfl, rfl, trivial⟩))); (conv => whnf))
    (apply Exists.intro; apply And.intro; (focus ((conv => whnf); first | exact ⟨rfl, rfl, trivial⟩ | (refine ⟨by omega, ?_⟩; (conv => whnf); exact ⟨rfl, rfl, trivial⟩))); (conv => whnf))
    (apply Exists.intro; apply And.intro; (focus ((conv => whnf); first | exact ⟨rfl, rfl, trivial⟩ | (refine ⟨by omega, ?_⟩; (conv => whnf); exact ⟨rfl, rfl, trivial⟩))); (conv => whnf))
    refine ⟨_, callK_pure (c121 m.p1 m.p2 m.pKv m.pB none (by omega) (by omega) (by omega)) ⟨rfl, rfl, trivial⟩, ?_⟩
    (conv => whnf)
    (apply Exists.intro; apply And.intro; (focus ((conv => whnf); first | exact ⟨rfl, rfl, trivial⟩ | (refine ⟨by omega, ?_⟩; (conv => whnf); exact ⟨rfl, rfl, trivial⟩))); (conv => whnf))
    (apply Exists.intro; apply And.intro; (focus ((conv => whnf); first | exact ⟨rfl, rfl, trivial⟩ | (refine ⟨by omega, ?_⟩; (conv => whnf); exact ⟨rfl, rfl, trivial⟩))); (conv => whnf))
    (apply Exists.intro; apply And.intro; (focus ((conv => whnf); first | exact ⟨rfl, rfl, trivial⟩ | (refine ⟨by omega, ?_⟩; (conv => whnf); exact ⟨rfl, rfl, trivial⟩))); (conv => whnf))
    refine ⟨_, callK_pure (c66p m.pAu (by omega)) ⟨rfl, rfl, trivial⟩, ?_⟩
    (conv => whnf)
    (apply Exists.intro; apply And.intro; (focus ((conv => whnf); first | exact ⟨rfl, rfl, trivial⟩ | (refine ⟨by omega, ?_⟩; (conv => whnf); exact ⟨rfl, rfl, trivial⟩))); (conv => whnf))
    refine ⟨_, callK_pure (c64p 110 [ticketE m.p1 m.p2 m.pKv m.pB, wrapB 4 m.pAu] (by simp) (by simp only [List.flatten_cons, List.flatten_nil, List.length_append, List.length_nil]; omega)) ⟨rfl, rfl, trivial⟩, ?_⟩
    (conv => whnf)
    (apply Exists.intro; apply And.intro; (focus ((conv => whnf); first | exact ⟨rfl, rfl, trivial⟩ | (refine ⟨by omega, ?_⟩; (conv => whnf); exact ⟨rfl, rfl, trivial⟩))); (conv => whnf))
    exact ⟨by unfold laidB; rw [if_neg n1]; rw [if_neg n2]; rw [if_neg n3]; rw [if_pos hk]; rfl, Ext.refl _⟩
  have n1 : ¬ m.kind = 1 := h1
  have n2 : ¬ m.kind = 2 := h2
  have n3 : ¬ m.kind = 3 := h3
  have n4 : ¬ m.kind = 4 := h4
  have g1 := intE_len m.fErr
  have g2 := intE_len m.fNonce
  refine ⟨fun h => ?_, fun h => ?_⟩
  · exact (n1 h).elim
  (conv => whnf)
  refine ⟨fun h => ?_, fun h => ?_⟩
  · exact (n2 h).elim
  (conv => whnf)
  refine ⟨fun h => ?_, fun h => ?_⟩
  · exact (n3 h).elim
  (conv => whnf)
  refine ⟨fun h => ?_, fun h => ?_⟩
  · exact (n4 h).elim
  (conv => whnf)
  refine drawK_pure2 (by kernel_rfl) ?_
  (conv => whnf)
  (apply Exists.intro; apply And.intro; (focus ((conv => whnf); first | exact ⟨rfl, rfl, trivial⟩ | (refine ⟨by omega, ?_⟩; (conv => whnf); exact ⟨rfl, rfl, trivial⟩))); (conv => whnf))
  (apply Exists.intro; apply And.intro; (focus ((conv => whnf); first | exact ⟨rfl, rfl, trivial⟩ | (refine ⟨by omega, ?_⟩; (conv => whnf); exact ⟨rfl, rfl, trivial⟩))); (conv => whnf))
  (apply Exists.intro; apply And.intro; (focus ((conv => whnf); first | exact ⟨rfl, rfl, trivial⟩ | (refine ⟨by omega, ?_⟩; (conv => whnf); exact ⟨rfl, rfl, trivial⟩))); (conv => whnf))
  refine ⟨_, callK_pure (c68 m.fErr) ⟨rfl, rfl, trivial⟩, ?_⟩
  (conv => whnf)
  (apply Exists.intro; apply And.intro; (focus ((conv => whnf); first | exact ⟨rfl, rfl, trivial⟩ | (refine ⟨by omega, ?_⟩; (conv => whnf); exact ⟨rfl, rfl, trivial⟩))); (conv => whnf))
  (apply Exists.intro; apply And.intro; (focus ((conv => whnf); first | exact ⟨rfl, rfl, trivial⟩ | (refine ⟨by omega, ?_⟩; (conv => whnf); exact ⟨rfl, rfl, trivial⟩))); (conv => whnf))
  (apply Exists.intro; apply And.intro; (focus ((conv => whnf); first | exact ⟨rfl, rfl, trivial⟩ | (refine ⟨by omega, ?_⟩; (conv => whnf); exact ⟨rfl, rfl, trivial⟩))); (conv => whnf))
  refine ⟨_, callK_pure (c68 m.fNonce) ⟨rfl, rfl, trivial⟩, ?_⟩
  (conv => whnf)
  (apply Exists.intro; apply And.intro; (focus ((conv => whnf); first | exact ⟨rfl, rfl, trivial⟩ | (refine ⟨by omega, ?_⟩; (conv => whnf); exact ⟨rfl, rfl, trivial⟩))); (conv => whnf))
  refine ⟨_, callK_pure (c64p 126 [intE m.fErr, intE m.fNonce] (by simp) (by simp only [List.flatten_cons, List.flatten_nil, List.length_append, List.length_nil]; omega)) ⟨rfl, rfl, trivial⟩, ?_⟩
  (conv => whnf)
  (apply Exists.intro; apply And.intro; (focus ((conv => whnf); first | exact ⟨rfl, rfl, trivial⟩ | (refine ⟨by omega, ?_⟩; (conv => whnf); exact ⟨rfl, rfl, trivial⟩))); (conv => whnf))
  exact ⟨by unfold laidB; rw [if_neg n1]; rw [if_neg n2]; rw [if_neg n3]; rw [if_neg n4]; rfl, Ext.refl _⟩
theorem c60 (m : Msg) (hm : isB m = true) : Pure prog 60 [.agg m.cells] (sl (laidB m)) := Pure.of_gc (oldPs_bytes _) (c60x m hm)
theorem isd {m : Msg} : isB m.d = isB m := rfl
theorem laidd {m : Msg} : laidB m.d = laidB m := rfl
/-- What Encode answers. -/
def encV (m : Msg) : PV := limV (isB m) (laidB m)
theorem c14 (m : Msg) (hm : m.fits) : Pure prog 14 [.agg m.cells] (encV m) := by
  intro H
  (refine callOk_of_pFun2 (tt := ttG) (imm := imm14) follows ttG_ok depth6 func14 (by kernel_rfl) ?_; (conv => whnf))
  refine callK_pure ((c58 m.d hm).of_eq (show PV.bool (isB m.d) = .bool (isB m) from rfl)) ?_
  unfold encV
  cases hb : isB m
  · (conv => whnf)
    exact ⟨by unfold limV; rw [if_neg (by simp)]; rfl, rfl⟩
  · (conv => whnf)
    refine callK_pure ((c60 m.d hb).of_eq (show sl (laidB m.d) = sl (laidB m) from rfl)) ?_
    (conv => whnf)
    refine callK_pure (c59 true (laidB m)) ?_
    unfold limV
    by_cases hl : (laidB m).length ≤ 2000
    · rw [if_pos ⟨rfl, hl⟩]
      (conv => whnf)
      exact ⟨rfl, rfl⟩
    · rw [if_neg (by simp [hl])]
      (conv => whnf)
      exact ⟨rfl, rfl⟩
end Go.Proofs.Tryz

set_option maxRecDepth 100000
set_option linter.unusedVariables false
set_option linter.unusedSimpArgs false
namespace Go.Proofs.Tryz
open Go Ps
def m0 : Msg := ⟨5, [], [], [], [], 0, 0, [], [], 0, [], some 5, [], some 5, [], [], 0, 0, [], [], [], [], 0, [], some 5, [], some 5, [], [], 0, [], some 5, [], some 5, 3, 1⟩
def knownB : List UInt8 := [126, 6, 2, 1, 3, 2, 1, 1]
theorem m0_is : isB m0 = true := by decide
theorem m0_laid : laidB m0 = knownB := by decide
theorem m0_fits : m0.fits := by unfold Msg.fits m0; simp
theorem c13 : Pure prog 13 [] (.bool true) := by
  intro H
  (refine callOk_of_pFun2 (tt := ttG) (imm := imm13) follows ttG_ok depth6 func13 (by kernel_rfl) ?_; (conv => whnf))
  refine callK_pure ((c14 m0 m0_fits).of_eq (show encV m0 = .tup [sl knownB, .int .i64 0] by unfold encV; rw [m0_is, m0_laid]; rfl)) ?_
  (conv => whnf)
  refine ⟨fun _ => ?_, fun h => absurd rfl h⟩
  (conv => whnf)
  refine ⟨knownB, ⟨rfl, rfl⟩, ?_⟩
  (conv => whnf)
  refine ⟨fun _ => ?_, fun h => absurd rfl h⟩
  (conv => whnf)
  exact ⟨rfl, rfl⟩
end Go.Proofs.Tryz

set_option maxRecDepth 100000
set_option linter.unusedVariables false
set_option linter.unusedSimpArgs false
namespace Go.Proofs.Tryz
open Go Ps
def imm15 : List Nat := [1]
def imm100 : List Nat := [1]
def imm41 : List Nat := [1]
def imm7 : List Nat := [2]
theorem wadd {a b : Nat} (h : a + b ≤ 9223372036854775807) : PV.int .i64 (IntKind.i64.wrap ((a : Int) + (b : Int))) = PV.int .i64 ((a + b : Nat) : Int) := by
  rw [wrap64 (by omega) (by omega)]; rfl
theorem c15 (r n : List UInt8) (hr : r.length ≤ 140737488351232) (hn : n.length ≤ 140737488351232) : Pure prog 15 [.agg [.str r, .str n]] (.int .i64 ((r.length + n.length : Nat) : Int)) := by
  intro H
  (refine callOk_of_pFun2 (tt := ttG) (imm := imm15) follows ttG_ok depth6 func15 (by kernel_rfl) ?_; (conv => whnf))
  exact ⟨wadd (by omega), rfl⟩
theorem c100 (r n : List UInt8) (kv : Int) (b : List UInt8) (o : Option Nat) (hr : r.length ≤ 140737488351232) (hn : n.length ≤ 140737488351232) (hb : b.length ≤ 140737488351232) :
    Pure prog 100 [.agg [.str r, .str n, .int .i64 kv, slo b o]] (.int .i64 ((r.length + n.length + b.length : Nat) : Int)) := by
  intro H
  (refine callOk_of_pFun2 (tt := ttG) (imm := imm100) follows ttG_ok depth6 func100 (by kernel_rfl) ?_; (conv => whnf))
  refine drawK_pure2 (by kernel_rfl) ?_
  (conv => whnf)
  (apply Exists.intro; apply And.intro; (focus ((conv => whnf); first | exact ⟨rfl, rfl, trivial⟩ | (refine ⟨by omega, ?_⟩; (conv => whnf); exact ⟨rfl, rfl, trivial⟩))); (conv => whnf))
  (apply Exists.intro; apply And.intro; (focus ((conv => whnf); first | exact ⟨rfl, rfl, trivial⟩ | (refine ⟨by omega, ?_⟩; (conv => whnf); exact ⟨rfl, rfl, trivial⟩))); (conv => whnf))
  refine ⟨_, callK_pure (c15 r n hr hn) ⟨rfl, rfl, trivial⟩, ?_⟩
  (conv => whnf)
  (apply Exists.intro; apply And.intro; (focus ((conv => whnf); first | exact ⟨rfl, rfl, trivial⟩ | (refine ⟨by omega, ?_⟩; (conv => whnf); exact ⟨rfl, rfl, trivial⟩))); (conv => whnf))
  (apply Exists.intro; apply And.intro; (focus ((conv => whnf); first | exact ⟨rfl, rfl, trivial⟩ | (refine ⟨by omega, ?_⟩; (conv => whnf); exact ⟨rfl, rfl, trivial⟩))); (conv => whnf))
  (apply Exists.intro; apply And.intro; (focus ((conv => whnf); first | exact ⟨rfl, rfl, trivial⟩ | (refine ⟨by omega, ?_⟩; (conv => whnf); exact ⟨rfl, rfl, trivial⟩))); (conv => whnf))
  refine ⟨_, ⟨wadd (a := r.length + n.length) (b := b.length) (by omega), rfl, trivial⟩, ?_⟩
  (conv => whnf)
  (apply Exists.intro; apply And.intro; (focus ((conv => whnf); first | exact ⟨rfl, rfl, trivial⟩ | (refine ⟨by omega, ?_⟩; (conv => whnf); exact ⟨rfl, rfl, trivial⟩))); (conv => whnf))
  exact ⟨rfl, rfl⟩
def szN (m : Msg) : Nat := m.a1.length + m.a2.length + (m.a3.length + m.a4.length) + (m.t1.length + m.t2.length + m.tB.length) + m.tAu.length + (m.t3.length + m.t4.length) + (m.r1.length + m.r2.length) + (m.r3.length + m.r4.length + m.rB.length) + m.rBl.length + (m.p1.length + m.p2.length + m.pB.length) + m.pAu.length
def Msg.reach (m : Msg) : Prop := m.a1.length ≤ 140737488351232 ∧ m.a2.length ≤ 140737488351232 ∧ m.a3.length ≤ 140737488351232 ∧ m.a4.length ≤ 140737488351232 ∧ m.t1.length ≤ 140737488351232 ∧ m.t2.length ≤ 140737488351232 ∧ m.tB.length ≤ 140737488351232 ∧ m.tAu.length ≤ 140737488351232 ∧ m.t3.length ≤ 140737488351232 ∧ m.t4.length ≤ 140737488351232 ∧ m.r1.length ≤ 140737488351232 ∧ m.r2.length ≤ 140737488351232 ∧ m.r3.length ≤ 140737488351232 ∧ m.r4.length ≤ 140737488351232 ∧ m.rB.length ≤ 140737488351232 ∧ m.rBl.length ≤ 140737488351232 ∧ m.p1.length ≤ 140737488351232 ∧ m.p2.length ≤ 140737488351232 ∧ m.pB.length ≤ 140737488351232 ∧ m.pAu.length ≤ 140737488351232
theorem c41 (m : Msg) (hm : m.reach) : Pure prog 41 [.agg m.cells] (.int .i64 (szN m : Int)) := by
  intro H
  obtain ⟨g0, g1, g2, g3, g4, g5, g6, g7, g8, g9, g10, g11, g12, g13, g14, g15, g16, g17, g18, g19⟩ := hm
  (refine callOk_of_pFun2 (tt := ttG) (imm := imm41) follows ttG_ok depth6 func41 (by kernel_rfl) ?_; (conv => whnf))
  refine drawK_pure2 (by kernel_rfl) ?_
  (conv => whnf)
  (apply Exists.intro; apply And.intro; (focus ((conv => whnf); first | exact ⟨rfl, rfl, trivial⟩ | (refine ⟨by omega, ?_⟩; (conv => whnf); exact ⟨rfl, rfl, trivial⟩))); (conv => whnf))
  (apply Exists.intro; apply And.intro; (focus ((conv => whnf); first | exact ⟨rfl, rfl, trivial⟩ | (refine ⟨by omega, ?_⟩; (conv => whnf); exact ⟨rfl, rfl, trivial⟩))); (conv => whnf))
  (apply Exists.intro; apply And.intro; (focus ((conv => whnf); first | exact ⟨rfl, rfl, trivial⟩ | (refine ⟨by omega, ?_⟩; (conv => whnf); exact ⟨rfl, rfl, trivial⟩))); (conv => whnf))
  refine ⟨_, callK_pure (c15 m.a1 m.a2 (by omega) (by omega)) ⟨rfl, rfl, trivial⟩, ?_⟩
  (conv => whnf)
  (apply Exists.intro; apply And.intro; (focus ((conv => whnf); first | exact ⟨rfl, rfl, trivial⟩ | (refine ⟨by omega, ?_⟩; (conv => whnf); exact ⟨rfl, rfl, trivial⟩))); (conv => whnf))
  (apply Exists.intro; apply And.intro; (focus ((conv => whnf); first | exact ⟨rfl, rfl, trivial⟩ | (refine ⟨by omega, ?_⟩; (conv => whnf); exact ⟨rfl, rfl, trivial⟩))); (conv => whnf))
  (apply Exists.intro; apply And.intro; (focus ((conv => whnf); first | exact ⟨rfl, rfl, trivial⟩ | (refine ⟨by omega, ?_⟩; (conv => whnf); exact ⟨rfl, rfl, trivial⟩))); (conv => whnf))
  refine ⟨_, callK_pure (c15 m.a3 m.a4 (by omega) (by omega)) ⟨rfl, rfl, trivial⟩, ?_⟩
  (conv => whnf)
  refine ⟨_, ⟨wadd (a := m.a1.length + m.a2.length) (b := (m.a3.length + m.a4.length)) (by omega), rfl, trivial⟩, ?_⟩
  (conv => whnf)
  (apply Exists.intro; apply And.intro; (focus ((conv => whnf); first | exact ⟨rfl, rfl, trivial⟩ | (refine ⟨by omega, ?_⟩; (conv => whnf); exact ⟨rfl, rfl, trivial⟩))); (conv => whnf))
  (apply Exists.intro; apply And.intro; (focus ((conv => whnf); first | exact ⟨rfl, rfl, trivial⟩ | (refine ⟨by omega, ?_⟩; (conv => whnf); exact ⟨rfl, rfl, trivial⟩))); (conv => whnf))
  (apply Exists.intro; apply And.intro; (focus ((conv => whnf); first | exact ⟨rfl, rfl, trivial⟩ | (refine ⟨by omega, ?_⟩; (conv => whnf); exact ⟨rfl, rfl, trivial⟩))); (conv => whnf))
  refine ⟨_, callK_pure (c100 m.t1 m.t2 m.tKv m.tB none (by omega) (by omega) (by omega)) ⟨rfl, rfl, trivial⟩, ?_⟩
  (conv => whnf)
  refine ⟨_, ⟨wadd (a := m.a1.length + m.a2.length + (m.a3.length + m.a4.length)) (b := (m.t1.length + m.t2.length + m.tB.length)) (by omega), rfl, trivial⟩, ?_⟩
  (conv => whnf)
  (apply Exists.intro; apply And.intro; (focus ((conv => whnf); first | exact ⟨rfl, rfl, trivial⟩ | (refine ⟨by omega, ?_⟩; (conv => whnf); exact ⟨rfl, rfl, trivial⟩))); (conv => whnf))
  (apply Exists.intro; apply And.intro; (focus ((conv => whnf); first | exact ⟨rfl, rfl, trivial⟩ | (refine ⟨by omega, ?_⟩; (conv => whnf); exact ⟨rfl, rfl, trivial⟩))); (conv => whnf))
  (apply Exists.intro; apply And.intro; (focus ((conv => whnf); first | exact ⟨rfl, rfl, trivial⟩ | (refine ⟨by omega, ?_⟩; (conv => whnf); exact ⟨rfl, rfl, trivial⟩))); (conv => whnf))
  (apply Exists.intro; apply And.intro; (focus ((conv => whnf); first | exact ⟨rfl, rfl, trivial⟩ | (refine ⟨by omega, ?_⟩; (conv => whnf); exact ⟨rfl, rfl, trivial⟩))); (conv => whnf))
  refine ⟨_, ⟨wadd (a := m.a1.length + m.a2.length + (m.a3.length + m.a4.length) + (m.t1.length + m.t2.length + m.tB.length)) (b := m.tAu.length) (by omega), rfl, trivial⟩, ?_⟩
  (conv => whnf)
  (apply Exists.intro; apply And.intro; (focus ((conv => whnf); first | exact ⟨rfl, rfl, trivial⟩ | (refine ⟨by omega, ?_⟩; (conv => whnf); exact ⟨rfl, rfl, trivial⟩))); (conv => whnf))
  (apply Exists.intro; apply And.intro; (focus ((conv => whnf); first | exact ⟨rfl, rfl, trivial⟩ | (refine ⟨by omega, ?_⟩; (conv => whnf); exact ⟨rfl, rfl, trivial⟩))); (conv => whnf))
  (apply Exists.intro; apply And.intro; (focus ((conv => whnf); first | exact ⟨rfl, rfl, trivial⟩ | (refine ⟨by omega, ?_⟩; (conv => whnf); exact ⟨rfl, rfl, trivial⟩))); (conv => whnf))
  refine ⟨_, callK_pure (c15 m.t3 m.t4 (by omega) (by omega)) ⟨rfl, rfl, trivial⟩, ?_⟩
  (conv => whnf)
  refine ⟨_, ⟨wadd (a := m.a1.length + m.a2.length + (m.a3.length + m.a4.length) + (m.t1.length + m.t2.length + m.tB.length) + m.tAu.length) (b := (m.t3.length + m.t4.length)) (by omega), rfl, trivial⟩, ?_⟩
  (conv => whnf)
  (apply Exists.intro; apply And.intro; (focus ((conv => whnf); first | exact ⟨rfl, rfl, trivial⟩ | (refine ⟨by omega, ?_⟩; (conv => whnf); exact ⟨rfl, rfl, trivial⟩))); (conv => whnf))
  (apply Exists.intro; apply And.intro; (focus ((conv => whnf); first | exact ⟨rfl, rfl, trivial⟩ | (refine ⟨by omega, ?_⟩; (conv => whnf); exact ⟨rfl, rfl, trivial⟩))); (conv => whnf))
  (apply Exists.intro; apply And.intro; (focus ((conv => whnf); first | exact ⟨rfl, rfl, trivial⟩ | (refine ⟨by omega, ?_⟩; (conv => whnf); exact ⟨rfl, rfl, trivial⟩))); (conv => whnf))
  refine ⟨_, callK_pure (c15 m.r1 m.r2 (by omega) (by omega)) ⟨rfl, rfl, trivial⟩, ?_⟩
  (conv => whnf)
  refine ⟨_, ⟨wadd (a := m.a1.length + m.a2.length + (m.a3.length + m.a4.length) + (m.t1.length + m.t2.length + m.tB.length) + m.tAu.length + (m.t3.length + m.t4.length)) (b := (m.r1.length + m.r2.length)) (by omega), rfl, trivial⟩, ?_⟩
  (conv => whnf)
  (apply Exists.intro; apply And.intro; (focus ((conv => whnf); first | exact ⟨rfl, rfl, trivial⟩ | (refine ⟨by omega, ?_⟩; (conv => whnf); exact ⟨rfl, rfl, trivial⟩))); (conv => whnf))
  (apply Exists.intro; apply And.intro; (focus ((conv => whnf); first | exact ⟨rfl, rfl, trivial⟩ | (refine ⟨by omega, ?_⟩; (conv => whnf); exact ⟨rfl, rfl, trivial⟩))); (conv => whnf))
  (apply Exists.intro; apply And.intro; (focus ((conv => whnf); first | exact ⟨rfl, rfl, trivial⟩ | (refine ⟨by omega, ?_⟩; (conv => whnf); exact ⟨rfl, rfl, trivial⟩))); (conv => whnf))
  refine ⟨_, callK_pure (c100 m.r3 m.r4 m.rKv m.rB none (by omega) (by omega) (by omega)) ⟨rfl, rfl, trivial⟩, ?_⟩
  (conv => whnf)
  refine ⟨_, ⟨wadd (a := m.a1.length + m.a2.length + (m.a3.length + m.a4.length) + (m.t1.length + m.t2.length + m.tB.length) + m.tAu.length + (m.t3.length + m.t4.length) + (m.r1.length + m.r2.length)) (b := (m.r3.length + m.r4.length + m.rB.length)) (by omega), rfl, trivial⟩, ?_⟩
  (conv => whnf)
  (apply Exists.intro; apply And.intro; (focus ((conv => whnf); first | exact ⟨rfl, rfl, trivial⟩ | (refine ⟨by omega, ?_⟩; (conv => whnf); exact ⟨rfl, rfl, trivial⟩))); (conv => whnf))
  (apply Exists.intro; apply And.intro; (focus ((conv => whnf); first | exact ⟨rfl, rfl, trivial⟩ | (refine ⟨by omega, ?_⟩; (conv => whnf); exact ⟨rfl, rfl, trivial⟩))); (conv => whnf))
  (apply Exists.intro; apply And.intro; (focus ((conv => whnf); first | exact ⟨rfl, rfl, trivial⟩ | (refine ⟨by omega, ?_⟩; (conv => whnf); exact ⟨rfl, rfl, trivial⟩))); (conv => whnf))
  (apply Exists.intro; apply And.intro; (focus ((conv => whnf); first | exact ⟨rfl, rfl, trivial⟩ | (refine ⟨by omega, ?_⟩; (conv => whnf); exact ⟨rfl, rfl, trivial⟩))); (conv => whnf))
  refine ⟨_, ⟨wadd (a := m.a1.length + m.a2.length + (m.a3.length + m.a4.length) + (m.t1.length + m.t2.length + m.tB.length) + m.tAu.length + (m.t3.length + m.t4.length) + (m.r1.length + m.r2.length) + (m.r3.length + m.r4.length + m.rB.length)) (b := m.rBl.length) (by omega), rfl, trivial⟩, ?_⟩
  (conv => whnf)
  (apply Exists.intro; apply And.intro; (focus ((conv => whnf); first | exact ⟨rfl, rfl, trivial⟩ | (refine ⟨by omega, ?_⟩; (conv => whnf); exact ⟨rfl, rfl, trivial⟩))); (conv => whnf))
  (apply Exists.intro; apply And.intro; (focus ((conv => whnf); first | exact ⟨rfl, rfl, trivial⟩ | (refine ⟨by omega, ?_⟩; (conv => whnf); exact ⟨rfl, rfl, trivial⟩))); (conv => whnf))
  (apply Exists.intro; apply And.intro; (focus ((conv => whnf); first | exact ⟨rfl, rfl, trivial⟩ | (refine ⟨by omega, ?_⟩; (conv => whnf); exact ⟨rfl, rfl, trivial⟩))); (conv => whnf))
  refine ⟨_, callK_pure (c100 m.p1 m.p2 m.pKv m.pB none (by omega) (by omega) (by omega)) ⟨rfl, rfl, trivial⟩, ?_⟩
  (conv => whnf)
  refine ⟨_, ⟨wadd (a := m.a1.length + m.a2.length + (m.a3.length + m.a4.length) + (m.t1.length + m.t2.length + m.tB.length) + m.tAu.length + (m.t3.length + m.t4.length) + (m.r1.length + m.r2.length) + (m.r3.length + m.r4.length + m.rB.length) + m.rBl.length) (b := (m.p1.length + m.p2.length + m.pB.length)) (by omega), rfl, trivial⟩, ?_⟩
  (conv => whnf)
  (apply Exists.intro; apply And.intro; (focus ((conv => whnf); first | exact ⟨rfl, rfl, trivial⟩ | (refine ⟨by omega, ?_⟩; (conv => whnf); exact ⟨rfl, rfl, trivial⟩))); (conv => whnf))
  (apply Exists.intro; apply And.intro; (focus ((conv => whnf); first | exact ⟨rfl, rfl, trivial⟩ | (refine ⟨by omega, ?_⟩; (conv => whnf); exact ⟨rfl, rfl, trivial⟩))); (conv => whnf))
  (apply Exists.intro; apply And.intro; (focus ((conv => whnf); first | exact ⟨rfl, rfl, trivial⟩ | (refine ⟨by omega, ?_⟩; (conv => whnf); exact ⟨rfl, rfl, trivial⟩))); (conv => whnf))
  (apply Exists.intro; apply And.intro; (focus ((conv => whnf); first | exact ⟨rfl, rfl, trivial⟩ | (refine ⟨by omega, ?_⟩; (conv => whnf); exact ⟨rfl, rfl, trivial⟩))); (conv => whnf))
  refine ⟨_, ⟨wadd (a := m.a1.length + m.a2.length + (m.a3.length + m.a4.length) + (m.t1.length + m.t2.length + m.tB.length) + m.tAu.length + (m.t3.length + m.t4.length) + (m.r1.length + m.r2.length) + (m.r3.length + m.r4.length + m.rB.length) + m.rBl.length + (m.p1.length + m.p2.length + m.pB.length)) (b := m.pAu.length) (by omega), rfl, trivial⟩, ?_⟩
  (conv => whnf)
  (apply Exists.intro; apply And.intro; (focus ((conv => whnf); first | exact ⟨rfl, rfl, trivial⟩ | (refine ⟨by omega, ?_⟩; (conv => whnf); exact ⟨rfl, rfl, trivial⟩))); (conv => whnf))
  exact ⟨rfl, rfl⟩
theorem enc_no {m : Msg} (h : isB m = false) : encV m = .tup [.slice 0 [] (some 5), .int .i64 1] := by
  unfold encV limV; rw [h, if_neg (by simp)]
theorem isB_others {m : Msg} (h : othersB m = false) : isB m = false := by unfold isB; rw [h, Bool.and_false]
theorem fits_of {m : Msg} (h : szN m ≤ 5000) : m.fits := by
  unfold szN at h
  unfold Msg.fits
  omega
end Go.Proofs.Tryz

set_option maxRecDepth 100000
namespace Go.Proofs.YtbejjlmdmakdfaaGreatDoor
open Go Go.RowKit Ps
theorem rows_ints {k : IntKind} : ∀ {rs : List (List PV)}, (∀ r ∈ rs, ∃ x, r = [.int k x] ∧ (Lit.int k x).wf = true) → ∃ xs : List Int, rs.length = xs.length ∧ rs.flatten = xs.map (.int k) ∧ ∀ x ∈ xs, (Lit.int k x).wf = true
  | [], _ => ⟨[], rfl, rfl, fun x h => by cases h⟩
  | r :: rs, h => by
    obtain ⟨x, rfl, hx⟩ := h r List.mem_cons_self
    obtain ⟨xs, h1, h2, h3⟩ := rows_ints fun r hr => h r (List.mem_cons_of_mem _ hr)
    exact ⟨x :: xs, by simp [h1], by simp [h2], fun y hy => by
      rcases List.mem_cons.1 hy with rfl | hy
      · exact hx
      · exact h3 y hy⟩
/-- Integers that are bytes. -/
theorem bytes_of : ∀ {xs : List Int}, (∀ x ∈ xs, (Lit.int .u8 x).wf = true) → ∃ bs : List UInt8, xs.length = bs.length ∧ xs.map (PV.int .u8) = bs.map byteC
  | [], _ => ⟨[], rfl, rfl⟩
  | x :: xs, h => by
    obtain ⟨bs, h1, h2⟩ := bytes_of fun y hy => h y (List.mem_cons_of_mem _ hy)
    have hx := bounds_u8 (h x List.mem_cons_self)
    refine ⟨UInt8.ofNat x.toNat :: bs, by simp [h1], ?_⟩
    rw [List.map_cons, List.map_cons, h2]
    congr 1
    show PV.int .u8 x = .int .u8 _
    rw [UInt8.toNat_ofNat']
    congr 1; omega
theorem own : ownKnob Tryz.prog.godebug = none := by kernel_rfl
theorem laidOut : laidOutB Tryz.prog = true := by kernel_rfl
/-- The cells of a table. -/
def litV : DataW Unit → Value
  | .lit (.int k n) => .int k n
  | _ => Go.undef
def litVs : DataW Unit → List Value
  | .agg l => l.map litV
  | d => [litV d]
def tabVs : DataW Unit → List Value
  | .agg l => l.flatMap litVs
  | _ => []
def fillTab (l : List Value) : Obj → Obj
  | .cells _ t frozen => .cells l.toArray t frozen
  | o => o
/-- A world for the witness: the settled one, the listed tables laid. -/
noncomputable def laidWorld (os : Os) : World :=
  { World.holding Tryz.prog os ⟨#[], #[], []⟩ with heap := ((World.holding Tryz.prog os ⟨#[], #[], []⟩).heap.modify 0 (fillTab (tabVs Rows.laid_unicode_utf8_first))).modify 1 (fillTab (tabVs Rows.laid_unicode_utf8_acceptRanges)) }
theorem laid_met (os : Os) (args : Array Value) : laidMet Tryz.prog [("unicode/utf8.acceptRanges", Rows.laid_unicode_utf8_acceptRanges), ("unicode/utf8.first", Rows.laid_unicode_utf8_first)] ((laidWorld os).forCall (fun _ _ => 0) ⟨#[], args, []⟩).memory :=
  laidMet_of_run' 8 (by kernel_rfl) (by kernel_rfl)
theorem varsB (os : Os) (args : Array Value) : ((laidWorld os).forCall (fun _ _ => 0) ⟨#[], args, []⟩).variablesB Tryz.checked.prog = true := by kernel_rfl
theorem heapB (os : Os) (args : Array Value) : (((laidWorld os).forCall (fun _ _ => 0) ⟨#[], args, []⟩).heap.toList.drop Tryz.checked.prog.globals.size).take ((begin Tryz.checked.prog (fun _ _ => 0) default).world.heap.size - Tryz.checked.prog.globals.size) =
      (begin Tryz.checked.prog (fun _ _ => 0) default).world.heap.toList.drop Tryz.checked.prog.globals.size := by kernel_rfl
theorem noLooks : false = Tryz.prog.looks [] := by kernel_rfl
theorem plainOf {name : String} {k : Nat} {g : Func} (hn : Tryz.prog.funcNamed name = some k) (hg : Tryz.prog.funcs[k]? = some g) (hall : (g.params.toList.all fun t => Tryz.prog.wantsStandIn t == false) = true)
    (f : FuncId) (fn : Func) (hf : Tryz.pinned.checked.prog.funcNamed name = some f) (hfn : Tryz.pinned.checked.prog.funcs[f]? = some fn) :
    false = Tryz.pinned.checked.prog.looks [] ∧ ∀ (j : Nat) t, fn.params[j]? = some t → Tryz.pinned.checked.prog.wantsStandIn t = false := by
  obtain rfl : f = k := Option.some.inj (hn.symm.trans hf) |>.symm
  obtain rfl : fn = g := (Option.some.inj (hg.symm.trans hfn)).symm
  refine ⟨noLooks, fun j t ht => ?_⟩
  have h : Tryz.prog.wantsStandIn t = false := by simpa using List.all_eq_true.1 hall t (Array.mem_toList_iff.2 (Array.mem_of_getElem? ht))
  exact h
end Go.Proofs.YtbejjlmdmakdfaaGreatDoor

set_option maxRecDepth 100000
set_option linter.unusedVariables false
namespace Go.Proofs.Tryz
open Go Ps
open Go.Proofs.YtbejjlmdmakdfaaGreatDoor (rows_ints bytes_of)
theorem rdStr {B n : Nat} {ps : List PV} (h : RdP prog B (n + 1) 9 ps) : ∃ s : List UInt8, ps = [.str s] ∧ s.length ≤ B := h
theorem rdInt {B n : Nat} {ps : List PV} (h : RdP prog B (n + 1) 3 ps) : ∃ i, ps = [.int .i64 i] ∧ (Lit.int .i64 i).wf = true := h
theorem rdErr {B n : Nat} {ps : List PV} (h : RdP prog B (n + 1) 35 ps) : ∃ i, ps = [.int .i64 i] ∧ (Lit.int .i64 i).wf = true := h
theorem rdBytes {B n : Nat} {ps : List PV} (h : RdP prog B (n + 2) 22 ps) : ∃ b : List UInt8, ps = [slo b none] ∧ b.length ≤ B := by
  obtain ⟨rs, rfl, hb, _, hr⟩ : ∃ rs : List (List PV), ps = [.slice rs.length rs.flatten none] ∧ rs.length * prog.bytesOf 5 ≤ B ∧ rs.length ≤ 9223372036854775807 ∧ ∀ r ∈ rs, r.length = prog.cellsOf 5 ∧ RdP prog B (n + 1) 5 r := h
  obtain ⟨xs, e1, e2, e3⟩ := rows_ints (k := .u8) fun r hr' => (hr r hr').2
  obtain ⟨bs, e4, e5⟩ := bytes_of e3
  refine ⟨bs, by unfold slo; rw [e1, e2, e4, e5], ?_⟩
  have hb : rs.length * 1 ≤ B := hb
  omega
theorem rdL2 {R : Nat → List PV → Prop} {f g : Field} {ps : List PV} (h : RdL R [f, g] ps) : ∃ a b, ps = a ++ b ∧ R f.type a ∧ R g.type b := by
  obtain ⟨a, _, rfl, ha, b, _, rfl, hb, rfl⟩ := h
  exact ⟨a, b, by simp, ha, hb⟩
theorem rdPrinc {B n : Nat} {ps : List PV} (h : RdP prog B (n + 2) 24 ps) : ∃ r k : List UInt8, ps = [.str r, .str k] ∧ r.length ≤ B ∧ k.length ≤ B := by
  obtain ⟨a, _, rfl, ha, b, _, rfl, hb, rfl⟩ : ∃ a b, ps = a ++ b ∧ RdP prog B (n + 1) 9 a ∧ ∃ c d, b = c ++ d ∧ RdP prog B (n + 1) 9 c ∧ d = [] := h
  obtain ⟨r, rfl, hr⟩ := rdStr ha
  obtain ⟨k, rfl, hk⟩ := rdStr hb
  exact ⟨r, k, rfl, hr, hk⟩
theorem rdTicket {B n : Nat} {ps : List PV} (h : RdP prog B (n + 3) 28 ps) : ∃ (r k : List UInt8) (kv : Int) (b : List UInt8), ps = [.str r, .str k, .int .i64 kv, slo b none] ∧ r.length ≤ B ∧ k.length ≤ B ∧ b.length ≤ B := by
  obtain ⟨a, _, rfl, ha, b, _, rfl, hb, c, _, rfl, hc, rfl⟩ : ∃ a x, ps = a ++ x ∧ RdP prog B (n + 2) 24 a ∧ ∃ b y, x = b ++ y ∧ RdP prog B (n + 2) 3 b ∧ ∃ c z, y = c ++ z ∧ RdP prog B (n + 2) 22 c ∧ z = [] := h
  obtain ⟨r, k, rfl, hr, hk⟩ := rdPrinc ha
  obtain ⟨kv, rfl, _⟩ := rdInt hb
  obtain ⟨b, rfl, hb⟩ := rdBytes hc
  exact ⟨r, k, kv, b, rfl, hr, hk, hb⟩
theorem rdAs {B n : Nat} {ps : List PV} (h : RdP prog B (n + 3) 26 ps) : ∃ (r k r' k' : List UInt8) (x y : Int), ps = [.str r, .str k, .str r', .str k', .int .i64 x, .int .i64 y] ∧ r.length ≤ B ∧ k.length ≤ B ∧ r'.length ≤ B ∧ k'.length ≤ B := by
  obtain ⟨a, _, rfl, ha, b, _, rfl, hb, c, _, rfl, hc, d, _, rfl, hd, rfl⟩ : ∃ a x, ps = a ++ x ∧ RdP prog B (n + 2) 24 a ∧ ∃ b y, x = b ++ y ∧ RdP prog B (n + 2) 24 b ∧ ∃ c z, y = c ++ z ∧ RdP prog B (n + 2) 3 c ∧ ∃ d u, z = d ++ u ∧ RdP prog B (n + 2) 3 d ∧ u = [] := h
  obtain ⟨r, k, rfl, hr, hk⟩ := rdPrinc ha
  obtain ⟨r', k', rfl, hr', hk'⟩ := rdPrinc hb
  obtain ⟨x, rfl, _⟩ := rdInt hc
  obtain ⟨y, rfl, _⟩ := rdInt hd
  exact ⟨r, k, r', k', x, y, rfl, hr, hk, hr', hk'⟩
theorem rdTgs {B n : Nat} {ps : List PV} (h : RdP prog B (n + 4) 30 ps) : ∃ (r k : List UInt8) (kv : Int) (b au r' k' : List UInt8) (x y : Int), ps = [.str r, .str k, .int .i64 kv, slo b none, slo au none, .str r', .str k', .int .i64 x, .int .i64 y] ∧
    r.length ≤ B ∧ k.length ≤ B ∧ b.length ≤ B ∧ au.length ≤ B ∧ r'.length ≤ B ∧ k'.length ≤ B := by
  obtain ⟨a, _, rfl, ha, b, _, rfl, hb, c, _, rfl, hc, d, _, rfl, hd, e, _, rfl, he, rfl⟩ : ∃ a x, ps = a ++ x ∧ RdP prog B (n + 3) 28 a ∧ ∃ b y, x = b ++ y ∧ RdP prog B (n + 3) 22 b ∧ ∃ c z, y = c ++ z ∧ RdP prog B (n + 3) 24 c ∧ ∃ d u, z = d ++ u ∧ RdP prog B (n + 3) 3 d ∧
    ∃ e v, u = e ++ v ∧ RdP prog B (n + 3) 3 e ∧ v = [] := h
  obtain ⟨r, k, kv, bl, rfl, h1, h2, h3⟩ := rdTicket ha
  obtain ⟨au, rfl, h4⟩ := rdBytes hb
  obtain ⟨r', k', rfl, h5, h6⟩ := rdPrinc hc
  obtain ⟨x, rfl, _⟩ := rdInt hd
  obtain ⟨y, rfl, _⟩ := rdInt he
  exact ⟨r, k, kv, bl, au, r', k', x, y, rfl, h1, h2, h3, h4, h5, h6⟩
theorem rdRep {B n : Nat} {ps : List PV} (h : RdP prog B (n + 4) 32 ps) : ∃ (r k r' k' : List UInt8) (kv : Int) (b bl : List UInt8), ps = [.str r, .str k, .str r', .str k', .int .i64 kv, slo b none, slo bl none] ∧
    r.length ≤ B ∧ k.length ≤ B ∧ r'.length ≤ B ∧ k'.length ≤ B ∧ b.length ≤ B ∧ bl.length ≤ B := by
  obtain ⟨a, _, rfl, ha, b, _, rfl, hb, c, _, rfl, hc, rfl⟩ : ∃ a x, ps = a ++ x ∧ RdP prog B (n + 3) 24 a ∧ ∃ b y, x = b ++ y ∧ RdP prog B (n + 3) 28 b ∧ ∃ c z, y = c ++ z ∧ RdP prog B (n + 3) 22 c ∧ z = [] := h
  obtain ⟨r, k, rfl, h1, h2⟩ := rdPrinc ha
  obtain ⟨r', k', kv, b, rfl, h3, h4, h5⟩ := rdTicket hb
  obtain ⟨bl, rfl, h6⟩ := rdBytes hc
  exact ⟨r, k, r', k', kv, b, bl, rfl, h1, h2, h3, h4, h5, h6⟩
theorem rdAp {B n : Nat} {ps : List PV} (h : RdP prog B (n + 4) 34 ps) : ∃ (r k : List UInt8) (kv : Int) (b au : List UInt8), ps = [.str r, .str k, .int .i64 kv, slo b none, slo au none] ∧
    r.length ≤ B ∧ k.length ≤ B ∧ b.length ≤ B ∧ au.length ≤ B := by
  obtain ⟨a, _, rfl, ha, b, _, rfl, hb, rfl⟩ : ∃ a x, ps = a ++ x ∧ RdP prog B (n + 3) 28 a ∧ ∃ b y, x = b ++ y ∧ RdP prog B (n + 3) 22 b ∧ y = [] := h
  obtain ⟨r, k, kv, bl, rfl, h1, h2, h3⟩ := rdTicket ha
  obtain ⟨au, rfl, h4⟩ := rdBytes hb
  exact ⟨r, k, kv, bl, au, rfl, h1, h2, h3, h4⟩
theorem rdFail {B n : Nat} {ps : List PV} (h : RdP prog B (n + 2) 37 ps) : ∃ (x y : Int), ps = [.int .i64 x, .int .i64 y] := by
  obtain ⟨a, _, rfl, ha, b, _, rfl, hb, rfl⟩ : ∃ a x, ps = a ++ x ∧ RdP prog B (n + 1) 35 a ∧ ∃ b y, x = b ++ y ∧ RdP prog B (n + 1) 3 b ∧ y = [] := h
  obtain ⟨x, rfl, _⟩ := rdErr ha
  obtain ⟨y, rfl, _⟩ := rdInt hb
  exact ⟨x, y, rfl⟩
theorem rdMsg {n : Nat} {ps : List PV} (h : RdP prog 140737488351232 (n + 5) 39 ps) : ∃ m : Msg, ps = m.cells ∧ m.reach := by
  obtain ⟨a, _, rfl, ha, b, _, rfl, hb, c, _, rfl, hc, d, _, rfl, hd, e, _, rfl, he, f, _, rfl, hf, rfl⟩ : ∃ a x, ps = a ++ x ∧ RdP prog 140737488351232 (n + 4) 3 a ∧ ∃ b y, x = b ++ y ∧ RdP prog 140737488351232 (n + 4) 26 b ∧ ∃ c z, y = c ++ z ∧ RdP prog 140737488351232 (n + 4) 30 c ∧
    ∃ d u, z = d ++ u ∧ RdP prog 140737488351232 (n + 4) 32 d ∧ ∃ e v, u = e ++ v ∧ RdP prog 140737488351232 (n + 4) 34 e ∧ ∃ f w, v = f ++ w ∧ RdP prog 140737488351232 (n + 4) 37 f ∧ w = [] := h
  obtain ⟨k, rfl, _⟩ := rdInt ha
  obtain ⟨a1, a2, a3, a4, a5, a6, rfl, ga1, ga2, ga3, ga4⟩ := rdAs hb
  obtain ⟨t1, t2, t3, t4, t5, t6, t7, t8, t9, rfl, gt1, gt2, gt3, gt4, gt5, gt6⟩ := rdTgs hc
  obtain ⟨r1, r2, r3, r4, r5, r6, r7, rfl, gr1, gr2, gr3, gr4, gr5, gr6⟩ := rdRep hd
  obtain ⟨p1, p2, p3, p4, p5, rfl, gp1, gp2, gp3, gp4⟩ := rdAp he
  obtain ⟨f1, f2, rfl⟩ := rdFail hf
  exact ⟨⟨k, a1, a2, a3, a4, a5, a6, t1, t2, t3, t4, none, t5, none, t6, t7, t8, t9, r1, r2, r3, r4, r5, r6, none, r7, none, p1, p2, p3, p4, none, p5, none, f1, f2⟩, rfl,
    ga1, ga2, ga3, ga4, gt1, gt2, gt3, gt4, gt5, gt6, gr1, gr2, gr3, gr4, gr5, gr6, gp1, gp2, gp3, gp4⟩
end Go.Proofs.Tryz

set_option maxRecDepth 100000
set_option linter.unusedVariables false
set_option linter.unusedSimpArgs false
namespace Go.Proofs.Tryz
open Go Ps Go.Shelf Go.RowKit
def ρ67 : Ren := ⟨fun n => if n = 15 then 125 else 158, fun n => if n = 23 then 199 else if n = 21 then 21 else n, fun n => n⟩
def imm62 : List Nat := []
theorem lays125 : LaysGw.n15 prog ρ67 where
  mixed := by kernel_rfl
  f15 := by kernel_rfl
  f20 := by kernel_rfl
  t0 := by kernel_rfl
  a0 := fun w => by rfl
  z0 := fun w => by rfl
  v0 := fun w => by rfl
  i0 := by kernel_rfl
  t3 := by kernel_rfl
  a3 := fun w => by rfl
  z3 := fun w => by rfl
  v3 := fun w => by rfl
  i3 := by kernel_rfl
  t4 := by kernel_rfl
  a4 := fun w => by rfl
  z4 := fun w => by rfl
  v4 := fun w => by rfl
  i4 := by kernel_rfl
  t9 := by kernel_rfl
  a9 := fun w => by rfl
  z9 := fun w => by rfl
  v9 := fun w => by rfl
  i9 := by kernel_rfl
  t21 := by kernel_rfl
  a21 := fun w => by rfl
  z21 := fun w => by rfl
  v21 := fun w => by rfl
  i21 := by kernel_rfl
  t23 := by kernel_rfl
  a23 := fun w => by rfl
  z23 := fun w => by rfl
  v23 := fun w => by rfl
  i23 := by kernel_rfl
def badR (x : Nat) : Bool := decide (x < 32) || decide (126 < x)
def okT8 (b : UInt8) : Bool := decide (32 ≤ b.toNat) && decide (b.toNat ≤ 126)
theorem dec_low (s : ByteArray) (i : Nat) (h : (s.get! i).toNat < 128) : Utf8.decode s i = ((s.get! i).toNat, 1) := by
  unfold Utf8.decode
  simp only [Nat.add_zero]
  rw [if_pos h]
theorem dec_high (s : ByteArray) (i : Nat) (h : ¬ (s.get! i).toNat < 128) : 128 ≤ (Utf8.decode s i).1 := by
  unfold Utf8.decode
  simp only [Nat.add_zero]
  rw [if_neg h]
  have e : Utf8.runeError = 65533 := rfl
  split
  · split
    · assumption
    · rw [e]; decide
  · split
    · split
      · rename_i h2
        have : (decide (2048 ≤ _) && _) = true := h2
        rw [Bool.and_eq_true] at this
        have := of_decide_eq_true this.1
        omega
      · rw [e]; decide
    · split
      · split
        · rename_i h2
          have : (decide (65536 ≤ _) && _) = true := h2
          rw [Bool.and_eq_true] at this
          have := of_decide_eq_true this.1
          omega
        · rw [e]; decide
      · rw [e]; decide
theorem dec_bad (s : ByteArray) (i : Nat) : badR (Utf8.decode s i).1 = !okT8 (s.get! i) := by
  by_cases h : (s.get! i).toNat < 128
  · rw [dec_low s i h]
    unfold badR okT8
    by_cases h1 : (s.get! i).toNat < 32 <;> by_cases h2 : 126 < (s.get! i).toNat <;> simp [h1, h2] <;> omega
  · have := dec_high s i h
    unfold badR okT8
    have h1 : ¬ (s.get! i).toNat ≤ 126 := by omega
    have h2 : 126 < (Utf8.decode s i).1 := by omega
    simp [h1, h2]
theorem idx_from (s : ByteArray) : ∀ (f pos : Nat), s.size ≤ pos + f → (Lib.idxFuncFrom badR true s f pos < 0 ↔ ∀ i, pos ≤ i → i < s.size → okT8 (s.get! i) = true)
  | 0, pos, h => by
    rw [Lib.idxFuncFrom_end _ _ _ _ _ (by omega)]
    exact ⟨fun _ i h1 h2 => by omega, fun _ => by decide⟩
  | f + 1, pos, h => by
    unfold Lib.idxFuncFrom
    split
    · rename_i hp
      rw [dec_bad]
      cases hb : okT8 (s.get! pos)
      · simp only [Bool.not_false, if_true]
        exact ⟨fun h => by omega, fun h => by rw [h pos (Nat.le_refl _) hp] at hb; cases hb⟩
      · simp only [Bool.not_true, Bool.false_eq_true, if_false]
        have hlt : (s.get! pos).toNat < 128 := by
          unfold okT8 at hb
          rw [Bool.and_eq_true] at hb
          have := of_decide_eq_true hb.2
          omega
        rw [dec_low s pos hlt, idx_from s f (pos + 1) (by omega)]
        refine ⟨fun h i h1 h2 => ?_, fun h i h1 h2 => h i (by omega) h2⟩
        by_cases e : i = pos
        · rw [e]; exact hb
        · exact h i (by omega) h2
    · rename_i hp
      exact ⟨fun _ i h1 h2 => by omega, fun _ => by decide⟩
theorem idx_text (s : List UInt8) : (Lib.idxFunc badR true ⟨⟨s⟩⟩ < 0) ↔ s.all okT8 = true := by
  unfold Lib.idxFunc
  rw [idx_from _ _ _ (by omega), List.all_eq_true]
  have hg : ∀ i (h : i < s.length), (⟨⟨s⟩⟩ : ByteArray).get! i = s[i] := fun i h => by
    show (Array.mk s)[i]! = s[i]
    simp [h]
  refine ⟨fun h x hx => ?_, fun h i _ hi => ?_⟩
  · obtain ⟨i, hi, rfl⟩ := List.getElem_of_mem hx
    rw [← hg i hi]
    exact h i (Nat.zero_le _) hi
  · have hi : i < s.length := hi
    rw [hg i hi]
    exact h _ (List.getElem_mem hi)
theorem pred126 (W : World) (x : Nat) (hx : x ≤ 1114111) : FnGives prog 126 #[] #[.int .i32 (x : Int)] (.bool (badR x)) W := by
  unfold FnGives
  go_enter Tryz.func126, Tryz.ntmps126
  go_wp2
  · rename_i h
    go_ret
    refine ⟨congrArg Ending.returned (show Value.bool (decide ((x : Int) < 32) || decide (126 < (x : Int))) = Value.bool (badR x) from congrArg Value.bool ?_), 0, rfl⟩
    unfold badR
    rw [decide_eq_decide.2 (show (x : Int) < 32 ↔ x < 32 by omega), decide_eq_decide.2 (show 126 < (x : Int) ↔ 126 < x by omega)]
  · rename_i h
    go_ret
    refine ⟨congrArg Ending.returned (show Value.bool true = Value.bool (badR x) from congrArg Value.bool ?_), 0, rfl⟩
    unfold badR
    have h2 : x < 32 := by omega
    rw [decide_eq_true h2, Bool.true_or]
theorem c125 (s : List UInt8) : Pure prog 125 [.str s, .func 126 [] []] (.int .i64 (Lib.idxFunc badR true ⟨⟨s⟩⟩)) := fun H =>
  CallOk.of_below (fun g w => .int _ _) fun g w vs hs hv => by
    have h0 : VC prog g w (Ps.valOf vs 0) (.str s) := hv 0
    have h1 : VC prog g w (Ps.valOf vs 1) (.func 126 [] []) := hv 1
    have hvs : vs = #[.string ⟨⟨s⟩⟩, .func (.func 126) #[] #[]] := by
      have e0 := h0.str
      obtain ⟨a, b, e1, z1, z2, _⟩ := (plain_of h1 (by simp) (by simp)).inv_func
      have z1 : a = #[] := Array.eq_empty_of_size_eq_zero z1
      have z2 : b = #[] := Array.eq_empty_of_size_eq_zero z2
      subst z1; subst z2
      match vs, hs with
      | ⟨[x, y]⟩, _ =>
        simp [Ps.valOf] at e0 e1
        rw [e0, e1]; rfl
    subst hvs
    exact ⟨run_callFunc_body func125 (by kernel_rfl) (by kernel_rfl), Any.strings_IndexFunc_runes lays125 126 #[] (fun args w => run_callFunc_body func126 (by kernel_rfl) (by kernel_rfl)) badR ⟨⟨s⟩⟩ w fun W x hx _ => pred126 W x hx⟩
def isTextB (s : List UInt8) : Bool := decide (s.length ≤ 300) && s.all okT8
theorem c62 (s : List UInt8) : Pure prog 62 [.str s] (.bool (isTextB s)) := by
  intro H
  (refine callOk_of_pFun2 (tt := ttG) (imm := imm62) follows ttG_ok depth6 func62 (by kernel_rfl) ?_; (conv => whnf))
  refine ⟨fun h => ?_, fun h => ?_⟩
  · (conv => whnf)
    refine callK_pure (c125 s) ?_
    (conv => whnf)
    have e : decide (s.length ≤ 300) = true := decide_eq_true (by have h : (s.length : Int) ≤ 300 := h; omega)
    unfold isTextB
    rw [e, Bool.true_and]
    refine ⟨fun h2 => ?_, fun h2 => ?_⟩
    · (conv => whnf)
      rw [(idx_text s).1 h2]
      exact ⟨rfl, rfl⟩
    · (conv => whnf)
      cases hb : s.all okT8
      · exact ⟨rfl, rfl⟩
      · exact absurd ((idx_text s).2 hb) h2
  · (conv => whnf)
    have e : decide (s.length ≤ 300) = false := decide_eq_false (by have h : ¬ (s.length : Int) ≤ 300 := h; omega)
    unfold isTextB
    rw [e]
    exact ⟨rfl, rfl⟩
end Go.Proofs.Tryz

set_option maxRecDepth 100000
set_option maxHeartbeats 1000000
set_option linter.unusedVariables false
set_option linter.unusedSimpArgs false
namespace Go.Proofs.Tryz
open Go Ps
def ttC : TT := [(3, ⟨.int .i64, 1, 8, [.int .i64 0]⟩), (4, ⟨.bool, 1, 1, [.bool false]⟩), (5, ⟨.int .u8, 1, 1, [.int .u8 0]⟩), (9, ⟨.str, 1, 16, [.str []]⟩), (24, ⟨.strct [(9, 0), (9, 1)], 2, 32, [.str [], .str []]⟩), (35, ⟨.int .i64, 1, 8, [.int .i64 0]⟩), (49, ⟨.arr 32 5, 32, 32, List.replicate 32 (.int .u8 0)⟩), (200, ⟨.slice 3, 1, 24, [.slice 0 [] (some 3)]⟩), (22, ⟨.slice 5, 1, 24, [.slice 0 [] (some 5)]⟩), (51, ⟨.strct [(24, 0), (49, 2), (9, 34), (3, 35), (3, 36)], 37, 96, [.str [], .str []] ++ List.replicate 32 (.int .u8 0) ++ [.str [], .int .i64 0, .int .i64 0]⟩), (57, ⟨.fn, 1, 8, [.nilF]⟩), (144, ⟨.ptr, 1, 8, [.ptr none]⟩), (146, ⟨.strct [(144, 0)], 1, 8, [.ptr none]⟩), (199, ⟨.fn, 1, 8, [.nilF]⟩), (201, ⟨.slice 22, 1, 24, [.slice 0 [] (some 22)]⟩), (230, ⟨.strct [(22, 0), (4, 1)], 2, 32, [.slice 0 [] (some 5), .bool false]⟩)]
theorem ttC_ok : ttOk prog ttC = true := by kernel_rfl
def imm140 : List Nat := []
def imm130 : List Nat := []
def imm131 : List Nat := []
def imm113 : List Nat := []
def imm132 : List Nat := [1000003]
def imm133 : List Nat := []
def imm134 : List Nat := []
def imm106 : List Nat := []
def imm160 : List Nat := []
def imm161 : List Nat := []
def imm76 : List Nat := []
def imm77 : List Nat := [1]
def imm78 : List Nat := [1]
def imm79 : List Nat := []
def imm80 : List Nat := []
def imm81 : List Nat := [4]
def imm16 : List Nat := [1]
def imm22 : List Nat := []
def imm9 : List Nat := []
theorem c140 (b : List UInt8) (hb : b.length ≤ 140737488355328) : Pure prog 140 [sl b] (slo b (some 5)) := by
  intro H
  (refine callOk_of_pFun2 (tt := ttC) (imm := imm140) follows ttC_ok depth6 func140 (by kernel_rfl) ?_; (conv => whnf))
  have ht : ∀ K : PV → PH → Prop, K (slo b (some 5)) H → K (.slice (0 + b.length) ([] ++ b.map byteC) (some 5)) H := fun K k => by
    rw [Nat.zero_add, List.nil_append]; exact k
  have happ : (0 + b.length) * 1 ≤ 140737488355328 ∧ (b.map byteC).length = b.length * 1 ∧ (b.map byteC).all oneP = true := ⟨by omega, by simp, allOne b⟩
  refine ⟨fun h => ?_, fun h => ⟨?_, ?_⟩⟩
  · (conv => whnf)
    refine ⟨happ, ?_⟩
    (conv => whnf)
    exact ⟨by rw [Nat.zero_add]; rfl, rfl⟩
  · (conv => whnf)
    have e : b = [] := List.length_eq_zero_iff.1 h
    subst e
    exact ⟨rfl, rfl⟩
  · (conv => whnf)
    refine ⟨happ, ?_⟩
    (conv => whnf)
    exact ⟨by rw [Nat.zero_add]; rfl, rfl⟩
/-- A cursor's object: what is left; none: it erred. -/
def curAt (H : PH) (c : Nat) (s : Option (List UInt8)) : Prop := ∃ x v, H[c]? = some ⟨230, [x, .bool s.isNone], v⟩ ∧ ∀ l, s = some l → x = sl l
/-- All but these stays. -/
def Upd (X : Nat → Prop) (H H' : PH) : Prop := H.length ≤ H'.length ∧ ∀ i, i < H.length → ¬ X i → H'[i]? = H[i]?
theorem Upd.refl {X : Nat → Prop} (H : PH) : Upd X H H := ⟨Nat.le_refl _, fun _ _ _ => rfl⟩
theorem Upd.trans {X : Nat → Prop} {H H1 H2 : PH} (h : Upd X H H1) (k : Upd X H1 H2) : Upd X H H2 := ⟨Nat.le_trans h.1 k.1, fun i hi hx => (k.2 i (Nat.lt_of_lt_of_le hi h.1) hx).trans (h.2 i hi hx)⟩
theorem Upd.mono {X Y : Nat → Prop} {H H1 : PH} (h : Upd X H H1) (k : ∀ i, i < H.length → X i → Y i) : Upd Y H H1 := ⟨h.1, fun i hi hx => h.2 i hi fun hX => hx (k i hi hX)⟩
theorem Upd.set {X : Nat → Prop} {H H1 : PH} (h : Upd X H H1) {c : Nat} (hc : X c ∨ H.length ≤ c) (o : PObj) : Upd X H (H1.set c o) := ⟨by rw [List.length_set]; exact h.1, fun i hi hx => by
  rw [List.getElem?_set_ne (fun e => by subst e; rcases hc with hc | hc; exact hx hc; omega)]; exact h.2 i hi hx⟩
theorem Upd.push {X : Nat → Prop} {H H1 : PH} (h : Upd X H H1) (o : PObj) : Upd X H (H1 ++ [o]) := ⟨by rw [List.length_append]; exact Nat.le_add_right_of_le h.1, fun i hi hx => by
  rw [List.getElem?_append_left (Nat.lt_of_lt_of_le hi h.1)]; exact h.2 i hi hx⟩
theorem Upd.ext {H H' : PH} (h : Upd (fun _ => False) H H') : ∃ ext, H' = H ++ ext := by
  refine ⟨H'.drop H.length, ?_⟩
  apply List.ext_getElem?
  intro i
  by_cases hi : i < H.length
  · rw [List.getElem?_append_left hi, h.2 i hi (fun f => f)]
  · rw [List.getElem?_append_right (by omega), List.getElem?_drop]
    congr 1; omega
theorem curAt.lt {H : PH} {c : Nat} {s : Option (List UInt8)} (h : curAt H c s) : c < H.length := by
  obtain ⟨x, v, h, _⟩ := h
  exact (List.getElem?_eq_some_iff.1 h).1
theorem curAt.keep {X : Nat → Prop} {H H' : PH} {c : Nat} {s : Option (List UInt8)} (h : curAt H c s) (k : Upd X H H') (hc : ¬ X c) : curAt H' c s := by
  have hl := h.lt
  obtain ⟨x, v, h, h2⟩ := h
  exact ⟨x, v, (k.2 c hl hc).trans h, h2⟩
theorem c160 (c : Nat) (s : Option (List UInt8)) (H : PH) (hc : curAt H c s) : CallOk prog 160 [.ptr (some (c, 0))] H fun r H' => r = .bool (!s.isNone) ∧ H' = H := by
  obtain ⟨x, v, hc, _⟩ := hc
  (refine callOk_of_pFun2 (tt := ttC) (imm := imm160) follows ttC_ok depth6 func160 (by kernel_rfl) ?_; (conv => whnf))
  ((conv in (_[_]?) => tactic => exact hc); (conv => whnf))
  exact ⟨rfl, rfl⟩
theorem c134 (c : Nat) (s : Option (List UInt8)) (H : PH) (hc : curAt H c s) : CallOk prog 134 [.ptr (some (c, 0))] H fun r H' => r = .slice 0 [] (some 5) ∧ Upd (· = c) H H' ∧ curAt H' c none ∧ ∀ y u, H[c]? = some ⟨230, [y, .bool s.isNone], u⟩ → H' = H.set c ⟨230, [.nilS, .bool true], u + 2⟩ := by
  obtain ⟨x, v, hc, _⟩ := hc
  (refine callOk_of_pFun2 (tt := ttC) (imm := imm134) follows ttC_ok depth6 func134 (by kernel_rfl) ?_; (conv => whnf))
  ((conv in (_[_]?) => tactic => exact hc); (conv => whnf))
  ((conv in (_[_]?) => tactic => exact get_set hc); (conv => whnf))
  exact ⟨rfl, ((Upd.refl (X := (· = c)) H).set (c := c) (.inl rfl) _).set (c := c) (.inl rfl) _, ⟨.nilS, v + 2, get_set (get_set hc), (fun l h => by cases h)⟩, fun y u hy => by
    rw [hc] at hy
    cases hy
    exact List.set_set ..⟩
def headB : List UInt8 → Nat × Nat × Bool
  | [] => (0, 0, false)
  | [x] => if x.toNat < 128 then (1, x.toNat, true) else (0, 0, false)
  | [x, y] => if x.toNat < 128 then (1, x.toNat, true) else if x.toNat = 129 ∧ 128 ≤ y.toNat then (2, y.toNat, true) else (0, 0, false)
  | x :: y :: z :: _ => if x.toNat < 128 then (1, x.toNat, true) else if x.toNat = 129 ∧ 128 ≤ y.toNat then (2, y.toNat, true)
    else if x.toNat = 130 ∧ 0 < y.toNat then (3, y.toNat * 256 + z.toNat, true) else (0, 0, false)
theorem head_0 : headB [] = (0, 0, false) := rfl
theorem head_1 (x : UInt8) : headB [x] = if x.toNat < 128 then (1, x.toNat, true) else (0, 0, false) := rfl
theorem head_2 (x y : UInt8) : headB [x, y] = if x.toNat < 128 then (1, x.toNat, true) else if x.toNat = 129 ∧ 128 ≤ y.toNat then (2, y.toNat, true) else (0, 0, false) := rfl
theorem head_3 (x y z : UInt8) (r : List UInt8) : headB (x :: y :: z :: r) = if x.toNat < 128 then (1, x.toNat, true) else if x.toNat = 129 ∧ 128 ≤ y.toNat then (2, y.toNat, true)
    else if x.toNat = 130 ∧ 0 < y.toNat then (3, y.toNat * 256 + z.toNat, true) else (0, 0, false) := rfl
def headV (h : Nat × Nat × Bool) : PV := .tup [.int .i64 h.1, .int .i64 h.2.1, .bool h.2.2]
theorem at1 {cs : List PV} {k : Nat} {x : PV} (h : cs[k]? = some x) : ∀ (j : Nat) (c : PV), [x][j]? = some c → cs[k + j]? = some c := by
  intro j c hj
  match j with
  | 0 => simpa using h.trans hj
  | j + 1 => simp at hj
theorem wrapB1 (x : UInt8) : IntKind.i64.wrap (x.toNat : Int) = (x.toNat : Int) := by
  have := x.toNat_lt
  rw [wrap64 (by omega) (by omega)]
theorem wrapB2 (y z : UInt8) : IntKind.i64.wrap (ishl .i64 (IntKind.i64.wrap (y.toNat : Int)) 8 + IntKind.i64.wrap (z.toNat : Int)) = ((y.toNat * 256 + z.toNat : Nat) : Int) := by
  have := y.toNat_lt
  have := z.toNat_lt
  have h : ishl .i64 (IntKind.i64.wrap (y.toNat : Int)) 8 = (y.toNat : Int) * 256 := by
    rw [wrapB1]
    unfold ishl
    rw [show (2 : Int) ^ (min (Int.toNat 8) IntKind.i64.bits) = 256 from rfl, wrap64 (by omega) (by omega)]
  rw [h, wrapB1, wrap64 (by omega) (by omega)]
  omega
theorem c161_0 (H : PH) : CallOk prog 161 [sl ([])] H fun r H' => r = headV (headB ([])) ∧ H' = H := by
  (refine callOk_of_pFun2 (tt := ttC) (imm := imm161) follows ttC_ok depth6 func161 (by kernel_rfl) ?_; (conv => whnf))
  refine ⟨fun h => absurd h (by first | decide | omega | (simp; done) | (simp; omega)), fun _ => ?_⟩
  (conv => whnf)
  refine ⟨fun h => absurd h (by first | decide | omega | (simp; done) | (simp; omega)), fun _ => ?_⟩
  (conv => whnf)
  refine ⟨fun h => absurd h (by first | decide | omega | (simp; done) | (simp; omega)), fun _ => ?_⟩
  (conv => whnf)
  refine ⟨?_, rfl⟩
  rw [head_0]
  rfl
theorem c161_1 (x : UInt8) (H : PH) : CallOk prog 161 [sl ([x])] H fun r H' => r = headV (headB ([x])) ∧ H' = H := by
  (refine callOk_of_pFun2 (tt := ttC) (imm := imm161) follows ttC_ok depth6 func161 (by kernel_rfl) ?_; (conv => whnf))
  refine ⟨fun _ => ?_, fun h => absurd (by first | decide | omega | (simp; done) | (simp; omega)) h⟩
  (conv => whnf)
  refine ⟨⟨by first | decide | omega | (simp; done) | (simp; omega), by first | decide | omega | (simp; done) | (simp; omega)⟩, [byteC x], at1 (k := 0 * 1) rfl, ?_⟩
  (conv => whnf)
  refine ⟨fun h1 => ?_, fun h1 => ?_⟩
  · (conv => whnf)
    have h1 : (x.toNat : Int) < 128 := h1
    refine drawK_pure2 (by kernel_rfl) ?_
    (conv => whnf)
    (apply Exists.intro; apply And.intro; (focus ((conv => whnf); first | exact ⟨rfl, rfl, trivial⟩ | (refine ⟨by omega, ?_⟩; (conv => whnf); exact ⟨rfl, rfl, trivial⟩))); (conv => whnf))
    refine ⟨.elem [byteC x], ⟨⟨by first | decide | omega | (simp; done) | (simp; omega), by first | decide | omega | (simp; done) | (simp; omega)⟩, [byteC x], at1 (k := 0 * 1) rfl, rfl, rfl, trivial⟩, ?_⟩
    (conv => whnf)
    (apply Exists.intro; apply And.intro; (focus ((conv => whnf); first | exact ⟨rfl, rfl, trivial⟩ | (refine ⟨by omega, ?_⟩; (conv => whnf); exact ⟨rfl, rfl, trivial⟩))); (conv => whnf))
    (apply Exists.intro; apply And.intro; (focus ((conv => whnf); first | exact ⟨rfl, rfl, trivial⟩ | (refine ⟨by omega, ?_⟩; (conv => whnf); exact ⟨rfl, rfl, trivial⟩))); (conv => whnf))
    (apply Exists.intro; apply And.intro; (focus ((conv => whnf); first | exact ⟨rfl, rfl, trivial⟩ | (refine ⟨by omega, ?_⟩; (conv => whnf); exact ⟨rfl, rfl, trivial⟩))); (conv => whnf))
    (apply Exists.intro; apply And.intro; (focus ((conv => whnf); first | exact ⟨rfl, rfl, trivial⟩ | (refine ⟨by omega, ?_⟩; (conv => whnf); exact ⟨rfl, rfl, trivial⟩))); (conv => whnf))
    (apply Exists.intro; apply And.intro; (focus ((conv => whnf); first | exact ⟨rfl, rfl, trivial⟩ | (refine ⟨by omega, ?_⟩; (conv => whnf); exact ⟨rfl, rfl, trivial⟩))); (conv => whnf))
    refine ⟨?_, rfl⟩
    rw [head_1]
    rw [if_pos (by omega)]
    show PV.tup [_, PV.int .i64 (IntKind.i64.wrap (x.toNat : Int)), _] = PV.tup [_, _, _]
    rw [wrapB1]
    rfl
  (conv => whnf)
  have h1 : ¬ (x.toNat : Int) < 128 := h1
  refine ⟨fun h => absurd h (by first | decide | omega | (simp; done) | (simp; omega)), fun _ => ?_⟩
  (conv => whnf)
  refine ⟨fun h => absurd h (by first | decide | omega | (simp; done) | (simp; omega)), fun _ => ?_⟩
  (conv => whnf)
  refine ⟨?_, rfl⟩
  rw [head_1]
  rw [if_neg (by omega)]
  rfl
theorem c161_2 (x y : UInt8) (H : PH) : CallOk prog 161 [sl ([x, y])] H fun r H' => r = headV (headB ([x, y])) ∧ H' = H := by
  (refine callOk_of_pFun2 (tt := ttC) (imm := imm161) follows ttC_ok depth6 func161 (by kernel_rfl) ?_; (conv => whnf))
  refine ⟨fun _ => ?_, fun h => absurd (by first | decide | omega | (simp; done) | (simp; omega)) h⟩
  (conv => whnf)
  refine ⟨⟨by first | decide | omega | (simp; done) | (simp; omega), by first | decide | omega | (simp; done) | (simp; omega)⟩, [byteC x], at1 (k := 0 * 1) rfl, ?_⟩
  (conv => whnf)
  refine ⟨fun h1 => ?_, fun h1 => ?_⟩
  · (conv => whnf)
    have h1 : (x.toNat : Int) < 128 := h1
    refine drawK_pure2 (by kernel_rfl) ?_
    (conv => whnf)
    (apply Exists.intro; apply And.intro; (focus ((conv => whnf); first | exact ⟨rfl, rfl, trivial⟩ | (refine ⟨by omega, ?_⟩; (conv => whnf); exact ⟨rfl, rfl, trivial⟩))); (conv => whnf))
    refine ⟨.elem [byteC x], ⟨⟨by first | decide | omega | (simp; done) | (simp; omega), by first | decide | omega | (simp; done) | (simp; omega)⟩, [byteC x], at1 (k := 0 * 1) rfl, rfl, rfl, trivial⟩, ?_⟩
    (conv => whnf)
    (apply Exists.intro; apply And.intro; (focus ((conv => whnf); first | exact ⟨rfl, rfl, trivial⟩ | (refine ⟨by omega, ?_⟩; (conv => whnf); exact ⟨rfl, rfl, trivial⟩))); (conv => whnf))
    (apply Exists.intro; apply And.intro; (focus ((conv => whnf); first | exact ⟨rfl, rfl, trivial⟩ | (refine ⟨by omega, ?_⟩; (conv => whnf); exact ⟨rfl, rfl, trivial⟩))); (conv => whnf))
    (apply Exists.intro; apply And.intro; (focus ((conv => whnf); first | exact ⟨rfl, rfl, trivial⟩ | (refine ⟨by omega, ?_⟩; (conv => whnf); exact ⟨rfl, rfl, trivial⟩))); (conv => whnf))
    (apply Exists.intro; apply And.intro; (focus ((conv => whnf); first | exact ⟨rfl, rfl, trivial⟩ | (refine ⟨by omega, ?_⟩; (conv => whnf); exact ⟨rfl, rfl, trivial⟩))); (conv => whnf))
    (apply Exists.intro; apply And.intro; (focus ((conv => whnf); first | exact ⟨rfl, rfl, trivial⟩ | (refine ⟨by omega, ?_⟩; (conv => whnf); exact ⟨rfl, rfl, trivial⟩))); (conv => whnf))
    refine ⟨?_, rfl⟩
    rw [head_2]
    rw [if_pos (by omega)]
    show PV.tup [_, PV.int .i64 (IntKind.i64.wrap (x.toNat : Int)), _] = PV.tup [_, _, _]
    rw [wrapB1]
    rfl
  (conv => whnf)
  have h1 : ¬ (x.toNat : Int) < 128 := h1
  refine ⟨fun _ => ?_, fun h => absurd (by first | decide | omega | (simp; done) | (simp; omega)) h⟩
  (conv => whnf)
  refine ⟨⟨by first | decide | omega | (simp; done) | (simp; omega), by first | decide | omega | (simp; done) | (simp; omega)⟩, [byteC x], at1 (k := 0 * 1) rfl, ?_⟩
  (conv => whnf)
  refine ⟨fun h2 => ?_, fun h2 => ?_⟩
  · (conv => whnf)
    have h2 : (x.toNat : Int) = 129 := h2
    refine ⟨⟨by first | decide | omega | (simp; done) | (simp; omega), by first | decide | omega | (simp; done) | (simp; omega)⟩, [byteC y], at1 (k := 1 * 1) rfl, ?_⟩
    (conv => whnf)
    refine ⟨fun h5 => ?_, fun h5 => ?_⟩
    · (conv => whnf)
      have h5 : (128 : Int) ≤ (y.toNat : Int) := h5
      refine drawK_pure2 (by kernel_rfl) ?_
      (conv => whnf)
      (apply Exists.intro; apply And.intro; (focus ((conv => whnf); first | exact ⟨rfl, rfl, trivial⟩ | (refine ⟨by omega, ?_⟩; (conv => whnf); exact ⟨rfl, rfl, trivial⟩))); (conv => whnf))
      refine ⟨.elem [byteC y], ⟨⟨by first | decide | omega | (simp; done) | (simp; omega), by first | decide | omega | (simp; done) | (simp; omega)⟩, [byteC y], at1 (k := 1 * 1) rfl, rfl, rfl, trivial⟩, ?_⟩
      (conv => whnf)
      (apply Exists.intro; apply And.intro; (focus ((conv => whnf); first | exact ⟨rfl, rfl, trivial⟩ | (refine ⟨by omega, ?_⟩; (conv => whnf); exact ⟨rfl, rfl, trivial⟩))); (conv => whnf))
      (apply Exists.intro; apply And.intro; (focus ((conv => whnf); first | exact ⟨rfl, rfl, trivial⟩ | (refine ⟨by omega, ?_⟩; (conv => whnf); exact ⟨rfl, rfl, trivial⟩))); (conv => whnf))
      (apply Exists.intro; apply And.intro; (focus ((conv => whnf); first | exact ⟨rfl, rfl, trivial⟩ | (refine ⟨by omega, ?_⟩; (conv => whnf); exact ⟨rfl, rfl, trivial⟩))); (conv => whnf))
      (apply Exists.intro; apply And.intro; (focus ((conv => whnf); first | exact ⟨rfl, rfl, trivial⟩ | (refine ⟨by omega, ?_⟩; (conv => whnf); exact ⟨rfl, rfl, trivial⟩))); (conv => whnf))
      (apply Exists.intro; apply And.intro; (focus ((conv => whnf); first | exact ⟨rfl, rfl, trivial⟩ | (refine ⟨by omega, ?_⟩; (conv => whnf); exact ⟨rfl, rfl, trivial⟩))); (conv => whnf))
      refine ⟨?_, rfl⟩
      rw [head_2]
      rw [if_neg (by omega)]
      rw [if_pos ⟨by omega, by omega⟩]
      show PV.tup [_, PV.int .i64 (IntKind.i64.wrap (y.toNat : Int)), _] = PV.tup [_, _, _]
      rw [wrapB1]
      rfl
    · (conv => whnf)
      have h5 : ¬ (128 : Int) ≤ (y.toNat : Int) := h5
      refine ⟨fun h => absurd h (by first | decide | omega | (simp; done) | (simp; omega)), fun _ => ?_⟩
      (conv => whnf)
      refine ⟨?_, rfl⟩
      rw [head_2]
      rw [if_neg (by omega)]
      rw [if_neg (fun hh => by omega)]
      rfl
  · (conv => whnf)
    have h2 : ¬ (x.toNat : Int) = 129 := h2
    refine ⟨fun h => absurd h (by first | decide | omega | (simp; done) | (simp; omega)), fun _ => ?_⟩
    (conv => whnf)
    refine ⟨?_, rfl⟩
    rw [head_2]
    rw [if_neg (by omega)]
    rw [if_neg (fun hh => by omega)]
    rfl
theorem c161_3 (x y z : UInt8) (t : List UInt8) (H : PH) : CallOk prog 161 [sl (x :: y :: z :: t)] H fun r H' => r = headV (headB (x :: y :: z :: t)) ∧ H' = H := by
  (refine callOk_of_pFun2 (tt := ttC) (imm := imm161) follows ttC_ok depth6 func161 (by kernel_rfl) ?_; (conv => whnf))
  refine ⟨fun _ => ?_, fun h => absurd (by first | decide | omega | (simp; done) | (simp; omega)) h⟩
  (conv => whnf)
  refine ⟨⟨by first | decide | omega | (simp; done) | (simp; omega), by first | decide | omega | (simp; done) | (simp; omega)⟩, [byteC x], at1 (k := 0 * 1) rfl, ?_⟩
  (conv => whnf)
  refine ⟨fun h1 => ?_, fun h1 => ?_⟩
  · (conv => whnf)
    have h1 : (x.toNat : Int) < 128 := h1
    refine drawK_pure2 (by kernel_rfl) ?_
    (conv => whnf)
    (apply Exists.intro; apply And.intro; (focus ((conv => whnf); first | exact ⟨rfl, rfl, trivial⟩ | (refine ⟨by omega, ?_⟩; (conv => whnf); exact ⟨rfl, rfl, trivial⟩))); (conv => whnf))
    refine ⟨.elem [byteC x], ⟨⟨by first | decide | omega | (simp; done) | (simp; omega), by first | decide | omega | (simp; done) | (simp; omega)⟩, [byteC x], at1 (k := 0 * 1) rfl, rfl, rfl, trivial⟩, ?_⟩
    (conv => whnf)
    (apply Exists.intro; apply And.intro; (focus ((conv => whnf); first | exact ⟨rfl, rfl, trivial⟩ | (refine ⟨by omega, ?_⟩; (conv => whnf); exact ⟨rfl, rfl, trivial⟩))); (conv => whnf))
    (apply Exists.intro; apply And.intro; (focus ((conv => whnf); first | exact ⟨rfl, rfl, trivial⟩ | (refine ⟨by omega, ?_⟩; (conv => whnf); exact ⟨rfl, rfl, trivial⟩))); (conv => whnf))
    (apply Exists.intro; apply And.intro; (focus ((conv => whnf); first | exact ⟨rfl, rfl, trivial⟩ | (refine ⟨by omega, ?_⟩; (conv => whnf); exact ⟨rfl, rfl, trivial⟩))); (conv => whnf))
    (apply Exists.intro; apply And.intro; (focus ((conv => whnf); first | exact ⟨rfl, rfl, trivial⟩ | (refine ⟨by omega, ?_⟩; (conv => whnf); exact ⟨rfl, rfl, trivial⟩))); (conv => whnf))
    (apply Exists.intro; apply And.intro; (focus ((conv => whnf); first | exact ⟨rfl, rfl, trivial⟩ | (refine ⟨by omega, ?_⟩; (conv => whnf); exact ⟨rfl, rfl, trivial⟩))); (conv => whnf))
    refine ⟨?_, rfl⟩
    rw [head_3]
    rw [if_pos (by omega)]
    show PV.tup [_, PV.int .i64 (IntKind.i64.wrap (x.toNat : Int)), _] = PV.tup [_, _, _]
    rw [wrapB1]
    rfl
  (conv => whnf)
  have h1 : ¬ (x.toNat : Int) < 128 := h1
  refine ⟨fun _ => ?_, fun h => absurd (by first | decide | omega | (simp; done) | (simp; omega)) h⟩
  (conv => whnf)
  refine ⟨⟨by first | decide | omega | (simp; done) | (simp; omega), by first | decide | omega | (simp; done) | (simp; omega)⟩, [byteC x], at1 (k := 0 * 1) rfl, ?_⟩
  (conv => whnf)
  refine ⟨fun h2 => ?_, fun h2 => ?_⟩
  · (conv => whnf)
    have h2 : (x.toNat : Int) = 129 := h2
    refine ⟨⟨by first | decide | omega | (simp; done) | (simp; omega), by first | decide | omega | (simp; done) | (simp; omega)⟩, [byteC y], at1 (k := 1 * 1) rfl, ?_⟩
    (conv => whnf)
    refine ⟨fun h5 => ?_, fun h5 => ?_⟩
    · (conv => whnf)
      have h5 : (128 : Int) ≤ (y.toNat : Int) := h5
      refine drawK_pure2 (by kernel_rfl) ?_
      (conv => whnf)
      (apply Exists.intro; apply And.intro; (focus ((conv => whnf); first | exact ⟨rfl, rfl, trivial⟩ | (refine ⟨by omega, ?_⟩; (conv => whnf); exact ⟨rfl, rfl, trivial⟩))); (conv => whnf))
      refine ⟨.elem [byteC y], ⟨⟨by first | decide | omega | (simp; done) | (simp; omega), by first | decide | omega | (simp; done) | (simp; omega)⟩, [byteC y], at1 (k := 1 * 1) rfl, rfl, rfl, trivial⟩, ?_⟩
      (conv => whnf)
      (apply Exists.intro; apply And.intro; (focus ((conv => whnf); first | exact ⟨rfl, rfl, trivial⟩ | (refine ⟨by omega, ?_⟩; (conv => whnf); exact ⟨rfl, rfl, trivial⟩))); (conv => whnf))
      (apply Exists.intro; apply And.intro; (focus ((conv => whnf); first | exact ⟨rfl, rfl, trivial⟩ | (refine ⟨by omega, ?_⟩; (conv => whnf); exact ⟨rfl, rfl, trivial⟩))); (conv => whnf))
      (apply Exists.intro; apply And.intro; (focus ((conv => whnf); first | exact ⟨rfl, rfl, trivial⟩ | (refine ⟨by omega, ?_⟩; (conv => whnf); exact ⟨rfl, rfl, trivial⟩))); (conv => whnf))
      (apply Exists.intro; apply And.intro; (focus ((conv => whnf); first | exact ⟨rfl, rfl, trivial⟩ | (refine ⟨by omega, ?_⟩; (conv => whnf); exact ⟨rfl, rfl, trivial⟩))); (conv => whnf))
      (apply Exists.intro; apply And.intro; (focus ((conv => whnf); first | exact ⟨rfl, rfl, trivial⟩ | (refine ⟨by omega, ?_⟩; (conv => whnf); exact ⟨rfl, rfl, trivial⟩))); (conv => whnf))
      refine ⟨?_, rfl⟩
      rw [head_3]
      rw [if_neg (by omega)]
      rw [if_pos ⟨by omega, by omega⟩]
      show PV.tup [_, PV.int .i64 (IntKind.i64.wrap (y.toNat : Int)), _] = PV.tup [_, _, _]
      rw [wrapB1]
      rfl
    · (conv => whnf)
      have h5 : ¬ (128 : Int) ≤ (y.toNat : Int) := h5
      refine ⟨fun _ => ?_, fun h => absurd (by first | decide | omega | (simp; done) | (simp; omega)) h⟩
      (conv => whnf)
      refine ⟨⟨by first | decide | omega | (simp; done) | (simp; omega), by first | decide | omega | (simp; done) | (simp; omega)⟩, [byteC x], at1 (k := 0 * 1) rfl, ?_⟩
      (conv => whnf)
      refine ⟨fun h3 => ?_, fun h3 => ?_⟩
      · (conv => whnf)
        have h3 : (x.toNat : Int) = 130 := h3
        refine ⟨⟨by first | decide | omega | (simp; done) | (simp; omega), by first | decide | omega | (simp; done) | (simp; omega)⟩, [byteC y], at1 (k := 1 * 1) rfl, ?_⟩
        (conv => whnf)
        refine ⟨fun h4 => ?_, fun h4 => ?_⟩
        · (conv => whnf)
          have h4 : (0 : Int) < (y.toNat : Int) := h4
          refine drawK_pure2 (by kernel_rfl) ?_
          (conv => whnf)
          (apply Exists.intro; apply And.intro; (focus ((conv => whnf); first | exact ⟨rfl, rfl, trivial⟩ | (refine ⟨by omega, ?_⟩; (conv => whnf); exact ⟨rfl, rfl, trivial⟩))); (conv => whnf))
          refine ⟨.elem [byteC y], ⟨⟨by first | decide | omega | (simp; done) | (simp; omega), by first | decide | omega | (simp; done) | (simp; omega)⟩, [byteC y], at1 (k := 1 * 1) rfl, rfl, rfl, trivial⟩, ?_⟩
          (conv => whnf)
          (apply Exists.intro; apply And.intro; (focus ((conv => whnf); first | exact ⟨rfl, rfl, trivial⟩ | (refine ⟨by omega, ?_⟩; (conv => whnf); exact ⟨rfl, rfl, trivial⟩))); (conv => whnf))
          (apply Exists.intro; apply And.intro; (focus ((conv => whnf); first | exact ⟨rfl, rfl, trivial⟩ | (refine ⟨by omega, ?_⟩; (conv => whnf); exact ⟨rfl, rfl, trivial⟩))); (conv => whnf))
          (apply Exists.intro; apply And.intro; (focus ((conv => whnf); first | exact ⟨rfl, rfl, trivial⟩ | (refine ⟨by omega, ?_⟩; (conv => whnf); exact ⟨rfl, rfl, trivial⟩))); (conv => whnf))
          (apply Exists.intro; apply And.intro; (focus ((conv => whnf); first | exact ⟨rfl, rfl, trivial⟩ | (refine ⟨by omega, ?_⟩; (conv => whnf); exact ⟨rfl, rfl, trivial⟩))); (conv => whnf))
          refine ⟨.elem [byteC z], ⟨⟨by first | decide | omega | (simp; done) | (simp; omega), by first | decide | omega | (simp; done) | (simp; omega)⟩, [byteC z], at1 (k := 2 * 1) rfl, rfl, rfl, trivial⟩, ?_⟩
          (conv => whnf)
          (apply Exists.intro; apply And.intro; (focus ((conv => whnf); first | exact ⟨rfl, rfl, trivial⟩ | (refine ⟨by omega, ?_⟩; (conv => whnf); exact ⟨rfl, rfl, trivial⟩))); (conv => whnf))
          (apply Exists.intro; apply And.intro; (focus ((conv => whnf); first | exact ⟨rfl, rfl, trivial⟩ | (refine ⟨by omega, ?_⟩; (conv => whnf); exact ⟨rfl, rfl, trivial⟩))); (conv => whnf))
          (apply Exists.intro; apply And.intro; (focus ((conv => whnf); first | exact ⟨rfl, rfl, trivial⟩ | (refine ⟨by omega, ?_⟩; (conv => whnf); exact ⟨rfl, rfl, trivial⟩))); (conv => whnf))
          (apply Exists.intro; apply And.intro; (focus ((conv => whnf); first | exact ⟨rfl, rfl, trivial⟩ | (refine ⟨by omega, ?_⟩; (conv => whnf); exact ⟨rfl, rfl, trivial⟩))); (conv => whnf))
          (apply Exists.intro; apply And.intro; (focus ((conv => whnf); first | exact ⟨rfl, rfl, trivial⟩ | (refine ⟨by omega, ?_⟩; (conv => whnf); exact ⟨rfl, rfl, trivial⟩))); (conv => whnf))
          (apply Exists.intro; apply And.intro; (focus ((conv => whnf); first | exact ⟨rfl, rfl, trivial⟩ | (refine ⟨by omega, ?_⟩; (conv => whnf); exact ⟨rfl, rfl, trivial⟩))); (conv => whnf))
          refine ⟨?_, rfl⟩
          rw [head_3]
          rw [if_neg (by omega)]
          rw [if_neg (fun hh => by omega)]
          rw [if_pos ⟨by omega, by omega⟩]
          show PV.tup [_, PV.int .i64 (IntKind.i64.wrap (ishl .i64 (IntKind.i64.wrap (y.toNat : Int)) 8 + IntKind.i64.wrap (z.toNat : Int))), _] = PV.tup [_, _, _]
          rw [wrapB2]
          rfl
        · (conv => whnf)
          have h4 : ¬ (0 : Int) < (y.toNat : Int) := h4
          refine ⟨?_, rfl⟩
          rw [head_3]
          rw [if_neg (by omega)]
          rw [if_neg (fun hh => by omega)]
          rw [if_neg (fun hh => by omega)]
          rfl
      · (conv => whnf)
        have h3 : ¬ (x.toNat : Int) = 130 := h3
        refine ⟨?_, rfl⟩
        rw [head_3]
        rw [if_neg (by omega)]
        rw [if_neg (fun hh => by omega)]
        rw [if_neg (fun hh => by omega)]
        rfl
  · (conv => whnf)
    have h2 : ¬ (x.toNat : Int) = 129 := h2
    refine ⟨fun _ => ?_, fun h => absurd (by first | decide | omega | (simp; done) | (simp; omega)) h⟩
    (conv => whnf)
    refine ⟨⟨by first | decide | omega | (simp; done) | (simp; omega), by first | decide | omega | (simp; done) | (simp; omega)⟩, [byteC x], at1 (k := 0 * 1) rfl, ?_⟩
    (conv => whnf)
    refine ⟨fun h3 => ?_, fun h3 => ?_⟩
    · (conv => whnf)
      have h3 : (x.toNat : Int) = 130 := h3
      refine ⟨⟨by first | decide | omega | (simp; done) | (simp; omega), by first | decide | omega | (simp; done) | (simp; omega)⟩, [byteC y], at1 (k := 1 * 1) rfl, ?_⟩
      (conv => whnf)
      refine ⟨fun h4 => ?_, fun h4 => ?_⟩
      · (conv => whnf)
        have h4 : (0 : Int) < (y.toNat : Int) := h4
        refine drawK_pure2 (by kernel_rfl) ?_
        (conv => whnf)
        (apply Exists.intro; apply And.intro; (focus ((conv => whnf); first | exact ⟨rfl, rfl, trivial⟩ | (refine ⟨by omega, ?_⟩; (conv => whnf); exact ⟨rfl, rfl, trivial⟩))); (conv => whnf))
        refine ⟨.elem [byteC y], ⟨⟨by first | decide | omega | (simp; done) | (simp; omega), by first | decide | omega | (simp; done) | (simp; omega)⟩, [byteC y], at1 (k := 1 * 1) rfl, rfl, rfl, trivial⟩, ?_⟩
        (conv => whnf)
        (apply Exists.intro; apply And.intro; (focus ((conv => whnf); first | exact ⟨rfl, rfl, trivial⟩ | (refine ⟨by omega, ?_⟩; (conv => whnf); exact ⟨rfl, rfl, trivial⟩))); (conv => whnf))
        (apply Exists.intro; apply And.intro; (focus ((conv => whnf); first | exact ⟨rfl, rfl, trivial⟩ | (refine ⟨by omega, ?_⟩; (conv => whnf); exact ⟨rfl, rfl, trivial⟩))); (conv => whnf))
        (apply Exists.intro; apply And.intro; (focus ((conv => whnf); first | exact ⟨rfl, rfl, trivial⟩ | (refine ⟨by omega, ?_⟩; (conv => whnf); exact ⟨rfl, rfl, trivial⟩))); (conv => whnf))
        (apply Exists.intro; apply And.intro; (focus ((conv => whnf); first | exact ⟨rfl, rfl, trivial⟩ | (refine ⟨by omega, ?_⟩; (conv => whnf); exact ⟨rfl, rfl, trivial⟩))); (conv => whnf))
        refine ⟨.elem [byteC z], ⟨⟨by first | decide | omega | (simp; done) | (simp; omega), by first | decide | omega | (simp; done) | (simp; omega)⟩, [byteC z], at1 (k := 2 * 1) rfl, rfl, rfl, trivial⟩, ?_⟩
        (conv => whnf)
        (apply Exists.intro; apply And.intro; (focus ((conv => whnf); first | exact ⟨rfl, rfl, trivial⟩ | (refine ⟨by omega, ?_⟩; (conv => whnf); exact ⟨rfl, rfl, trivial⟩))); (conv => whnf))
        (apply Exists.intro; apply And.intro; (focus ((conv => whnf); first | exact ⟨rfl, rfl, trivial⟩ | (refine ⟨by omega, ?_⟩; (conv => whnf); exact ⟨rfl, rfl, trivial⟩))); (conv => whnf))
        (apply Exists.intro; apply And.intro; (focus ((conv => whnf); first | exact ⟨rfl, rfl, trivial⟩ | (refine ⟨by omega, ?_⟩; (conv => whnf); exact ⟨rfl, rfl, trivial⟩))); (conv => whnf))
        (apply Exists.intro; apply And.intro; (focus ((conv => whnf); first | exact ⟨rfl, rfl, trivial⟩ | (refine ⟨by omega, ?_⟩; (conv => whnf); exact ⟨rfl, rfl, trivial⟩))); (conv => whnf))
        (apply Exists.intro; apply And.intro; (focus ((conv => whnf); first | exact ⟨rfl, rfl, trivial⟩ | (refine ⟨by omega, ?_⟩; (conv => whnf); exact ⟨rfl, rfl, trivial⟩))); (conv => whnf))
        (apply Exists.intro; apply And.intro; (focus ((conv => whnf); first | exact ⟨rfl, rfl, trivial⟩ | (refine ⟨by omega, ?_⟩; (conv => whnf); exact ⟨rfl, rfl, trivial⟩))); (conv => whnf))
        refine ⟨?_, rfl⟩
        rw [head_3]
        rw [if_neg (by omega)]
        rw [if_neg (fun hh => by omega)]
        rw [if_pos ⟨by omega, by omega⟩]
        show PV.tup [_, PV.int .i64 (IntKind.i64.wrap (ishl .i64 (IntKind.i64.wrap (y.toNat : Int)) 8 + IntKind.i64.wrap (z.toNat : Int))), _] = PV.tup [_, _, _]
        rw [wrapB2]
        rfl
      · (conv => whnf)
        have h4 : ¬ (0 : Int) < (y.toNat : Int) := h4
        refine ⟨?_, rfl⟩
        rw [head_3]
        rw [if_neg (by omega)]
        rw [if_neg (fun hh => by omega)]
        rw [if_neg (fun hh => by omega)]
        rfl
    · (conv => whnf)
      have h3 : ¬ (x.toNat : Int) = 130 := h3
      refine ⟨?_, rfl⟩
      rw [head_3]
      rw [if_neg (by omega)]
      rw [if_neg (fun hh => by omega)]
      rw [if_neg (fun hh => by omega)]
      rfl
theorem c161 (b : List UInt8) : Pure prog 161 [sl b] (headV (headB b)) := fun H => match b with
  | [] => c161_0 H
  | [x] => c161_1 x H
  | [x, y] => c161_2 x y H
  | x :: y :: z :: r => c161_3 x y z r H
end Go.Proofs.Tryz

set_option maxRecDepth 100000
set_option maxHeartbeats 1000000
set_option linter.unusedVariables false
set_option linter.unusedSimpArgs false
namespace Go.Proofs.Tryz
open Go Ps
theorem c106 (a b : List UInt8) : Pure prog 106 [sl a, sl b] (.bool (decide (a = b))) := by
  intro H
  (refine callOk_of_pFun2 (tt := ttC) (imm := imm106) follows ttC_ok depth6 func106 (by kernel_rfl) ?_; (conv => whnf))
  refine ⟨a, ⟨rfl, rfl⟩, ?_⟩
  (conv => whnf)
  refine ⟨b, ⟨rfl, rfl⟩, ?_⟩
  (conv => whnf)
  refine ⟨fun h => ?_, fun h => ?_⟩
  · (conv => whnf)
    exact ⟨congrArg PV.bool (decide_eq_true h).symm, rfl⟩
  · (conv => whnf)
    exact ⟨congrArg PV.bool (decide_eq_false h).symm, rfl⟩
def isNumB : List UInt8 → Bool
  | [] => false
  | [x] => decide (x.toNat < 128)
  | x :: y :: t => decide (t.length ≤ 6) && (decide (x.toNat < 128) && (decide (x.toNat ≠ 0) || decide (128 ≤ y.toNat)))
theorem c133 (b : List UInt8) : Pure prog 133 [sl b] (.bool (isNumB b)) := by
  intro H
  (refine callOk_of_pFun2 (tt := ttC) (imm := imm133) follows ttC_ok depth6 func133 (by kernel_rfl) ?_; (conv => whnf))
  match b with
  | [] =>
    refine ⟨fun _ => ?_, fun h => absurd rfl h⟩
    (conv => whnf)
    exact ⟨rfl, rfl⟩
  | [x] =>
    refine ⟨fun h => absurd h (by simp), fun _ => ?_⟩
    (conv => whnf)
    refine ⟨fun h => absurd h (by simp), fun _ => ?_⟩
    (conv => whnf)
    refine ⟨⟨by decide, by simp⟩, [byteC x], at1 (k := 0 * 1) rfl, ?_⟩
    (conv => whnf)
    refine ⟨fun h => ?_, fun h => ?_⟩
    · (conv => whnf)
      have h : (128 : Int) ≤ (x.toNat : Int) := h
      exact ⟨congrArg PV.bool (decide_eq_false (by omega)).symm, rfl⟩
    · (conv => whnf)
      have h : ¬ (128 : Int) ≤ (x.toNat : Int) := h
      refine ⟨fun h => absurd h (by simp), fun _ => ?_⟩
      (conv => whnf)
      exact ⟨congrArg PV.bool (decide_eq_true (by omega)).symm, rfl⟩
  | x :: y :: t =>
    refine ⟨fun h => absurd h (by simp; omega), fun _ => ?_⟩
    (conv => whnf)
    refine ⟨fun h => ?_, fun h => ?_⟩
    · (conv => whnf)
      have h : (8 : Int) < ((t.length + 1 + 1 : Nat) : Int) := h
      exact ⟨congrArg PV.bool (show false = (decide (t.length ≤ 6) && _) by rw [decide_eq_false (by omega)]; rfl), rfl⟩
    (conv => whnf)
    have h : ¬ (8 : Int) < ((t.length + 1 + 1 : Nat) : Int) := h
    have e1 : decide (t.length ≤ 6) = true := decide_eq_true (by omega)
    refine ⟨⟨by decide, by simp; omega⟩, [byteC x], at1 (k := 0 * 1) rfl, ?_⟩
    (conv => whnf)
    refine ⟨fun h2 => ?_, fun h2 => ?_⟩
    · (conv => whnf)
      have h2 : (128 : Int) ≤ (x.toNat : Int) := h2
      exact ⟨congrArg PV.bool (show false = (decide (t.length ≤ 6) && (decide (x.toNat < 128) && _)) by rw [e1, decide_eq_false (show ¬ x.toNat < 128 by omega)]; rfl), rfl⟩
    (conv => whnf)
    have h2 : ¬ (128 : Int) ≤ (x.toNat : Int) := h2
    have e2 : decide (x.toNat < 128) = true := decide_eq_true (by omega)
    refine ⟨fun _ => ?_, fun h => absurd (by simp; omega) h⟩
    (conv => whnf)
    refine ⟨⟨by decide, by simp; omega⟩, [byteC x], at1 (k := 0 * 1) rfl, ?_⟩
    (conv => whnf)
    refine ⟨fun h3 => ?_, fun h3 => ?_⟩
    · (conv => whnf)
      have h3 : (x.toNat : Int) = 0 := h3
      have e3 : decide (x.toNat ≠ 0) = false := decide_eq_false (by omega)
      refine ⟨⟨by decide, by simp; omega⟩, [byteC y], at1 (k := 1 * 1) rfl, ?_⟩
      (conv => whnf)
      refine ⟨fun h4 => ?_, fun h4 => ?_⟩
      · (conv => whnf)
        have h4 : (128 : Int) ≤ (y.toNat : Int) := h4
        exact ⟨congrArg PV.bool (show true = (decide (t.length ≤ 6) && (decide (x.toNat < 128) && (decide (x.toNat ≠ 0) || decide (128 ≤ y.toNat)))) by rw [e1, e2, e3, decide_eq_true (show 128 ≤ y.toNat by omega)]; rfl), rfl⟩
      · (conv => whnf)
        have h4 : ¬ (128 : Int) ≤ (y.toNat : Int) := h4
        exact ⟨congrArg PV.bool (show false = (decide (t.length ≤ 6) && (decide (x.toNat < 128) && (decide (x.toNat ≠ 0) || decide (128 ≤ y.toNat)))) by rw [e1, e2, e3, decide_eq_false (show ¬ 128 ≤ y.toNat by omega)]; rfl), rfl⟩
    · (conv => whnf)
      have h3 : ¬ (x.toNat : Int) = 0 := h3
      have e3 : decide (x.toNat ≠ 0) = true := decide_eq_true (by omega)
      exact ⟨congrArg PV.bool (show true = (decide (t.length ≤ 6) && (decide (x.toNat < 128) && (decide (x.toNat ≠ 0) || decide (128 ≤ y.toNat)))) by rw [e1, e2, e3]; rfl), rfl⟩
theorem c130 (b : List UInt8) (hb : b.length ≤ 140737488355328) (H : PH) : CallOk prog 130 [sl b] H fun r H' => r = .ptr (some (H.length, 0)) ∧ H' = H ++ [⟨230, [sl b, .bool false], 0⟩] := by
  (refine callOk_of_pFun2 (tt := ttC) (imm := imm130) follows ttC_ok depth6 func130 (by kernel_rfl) ?_; (conv => whnf))
  refine callK_pure (c140 b hb) ?_
  (conv => whnf)
  exact ⟨rfl, rfl⟩
def elemB (tag : UInt8) : List UInt8 → Option (List UInt8 × List UInt8)
  | [] => none
  | t :: b => if t = tag then (if (headB b).2.2 = true ∧ (headB b).1 + (headB b).2.1 ≤ b.length then some ((b.drop (headB b).1).take (headB b).2.1, b.drop ((headB b).1 + (headB b).2.1)) else none) else none
/-- What is left, and what is taken. -/
def elemC (tag : UInt8) (s : Option (List UInt8)) : Option (List UInt8) × Option (List UInt8) := match s with
  | none => (none, none)
  | some l => match elemB tag l with
    | none => (none, none)
    | some (x, r) => (some r, some x)
theorem head_le (b : List UInt8) : (headB b).2.2 = true → (headB b).1 ≤ 3 ∧ (headB b).1 ≤ b.length ∧ (headB b).2.1 ≤ 65535 := by
  match b with
  | [] => intro h; cases h
  | [x] =>
    rw [head_1]
    have := x.toNat_lt
    split <;> intro h <;> first | (cases h; done) | (simp; omega)
  | [x, y] =>
    rw [head_2]
    have := x.toNat_lt
    have := y.toNat_lt
    split <;> (try split) <;> intro h <;> first | (cases h; done) | (simp; omega)
  | x :: y :: z :: t =>
    rw [head_3]
    have := x.toNat_lt
    have := y.toNat_lt
    have := z.toNat_lt
    split <;> (try split) <;> (try split) <;> intro h <;> first | (cases h; done) | (simp; omega)
theorem sl_cut (b : List UInt8) (l h : Int) (h0 : 0 ≤ l ∧ l ≤ h ∧ h ≤ b.length) :
    PV.slice (h.toNat - l.toNat) (((b.map byteC).take (h.toNat * 1)).drop (l.toNat * 1)) none = sl ((b.take h.toNat).drop l.toNat) := by
  unfold sl
  have : ((b.take h.toNat).drop l.toNat).length = h.toNat - l.toNat := by rw [List.length_drop, List.length_take]; omega
  rw [this, List.map_drop, List.map_take, Nat.mul_one, Nat.mul_one]
end Go.Proofs.Tryz

set_option maxRecDepth 100000
set_option maxHeartbeats 1000000
set_option linter.unusedVariables false
set_option linter.unusedSimpArgs false
namespace Go.Proofs.Tryz
open Go Ps
/-- What an element's taking answers. -/
def elemV (o : Option (List UInt8)) : PV := .tup [slo (o.getD []) (some 5), .bool o.isSome]
theorem elemC_bad {tag : UInt8} {l : List UInt8} (h : elemB tag l = none) : elemC tag (some l) = (none, none) := by
  show (match elemB tag l with | none => (none, none) | some (x, r) => (some r, some x)) = _
  rw [h]
/-- A cursor's object behind such a step. -/
def curStep (tag : UInt8) (s : Option (List UInt8)) (v : Nat) : PObj := match (elemC tag s).1 with
  | some r => ⟨230, [sl r, .bool false], v + 1⟩
  | none => ⟨230, [.nilS, .bool true], v + 2⟩
theorem curStep_no {tag : UInt8} {s : Option (List UInt8)} {v : Nat} (h : elemC tag s = (none, none)) : curStep tag s v = ⟨230, [.nilS, .bool true], v + 2⟩ := by unfold curStep; rw [h]
theorem curStep_yes {tag : UInt8} {s : Option (List UInt8)} {v : Nat} {r x : List UInt8} (h : elemC tag s = (some r, some x)) : curStep tag s v = ⟨230, [sl r, .bool false], v + 1⟩ := by unfold curStep; rw [h]
theorem c132 (c : Nat) (tag : UInt8) (s : Option (List UInt8)) (H : PH) (hc : curAt H c s) (hl : ∀ l, s = some l → l.length ≤ 140737488355328) :
    CallOk prog 132 [.ptr (some (c, 0)), byteC tag] H fun r H' => r = elemV (elemC tag s).2 ∧ Upd (· = c) H H' ∧ curAt H' c (elemC tag s).1 ∧ ∀ y u, H[c]? = some ⟨230, [y, .bool s.isNone], u⟩ → H' = H.set c (curStep tag s u) := by
  (refine callOk_of_pFun2 (tt := ttC) (imm := imm132) follows ttC_ok depth6 func132 (by kernel_rfl) ?_; (conv => whnf))
  refine callK_of (c160 c s H hc) ?_
  rintro _ _ ⟨rfl, rfl⟩
  rename_i H
  have errs : ∀ (K : PV → PH → Prop), elemC tag s = (none, none) → (∀ H', Upd (· = c) H H' → curAt H' c none → (∀ y u, H[c]? = some ⟨230, [y, .bool s.isNone], u⟩ → H' = H.set c (curStep tag s u)) → K (.slice 0 [] (some 5)) H') → callK prog 134 [.ptr (some (c, 0))] H K := fun K he k =>
    callK_of (c134 c s H hc) fun r H' ⟨h1, h2, h3, h4⟩ => by rw [h1]; exact k H' h2 h3 fun y u hy => by rw [curStep_no he]; exact h4 y u hy
  cases s with
  | none =>
    (conv => whnf)
    refine errs _ rfl fun H' h1 h2 h3 => ?_
    (conv => whnf)
    exact ⟨rfl, h1, h2, h3⟩
  | some l =>
    have hll := hl l rfl
    obtain ⟨x, v, hc0, hx⟩ := hc
    have hx := hx l rfl
    subst hx
    (conv => whnf)
    ((conv in (_[_]?) => tactic => exact hc0); (conv => whnf))
    cases l with
    | nil =>
      refine ⟨fun _ => ?_, fun h => absurd rfl h⟩
      (conv => whnf)
      refine errs _ rfl fun H' h1 h2 h3 => ?_
      (conv => whnf)
      exact ⟨rfl, h1, h2, h3⟩
    | cons t b =>
      refine ⟨fun h => absurd h (by simp <;> omega), fun _ => ?_⟩
      (conv => whnf)
      ((conv in (_[_]?) => tactic => exact hc0); (conv => whnf))
      refine ⟨⟨by decide, by first | (simp; done) | (simp; omega)⟩, [byteC t], at1 (k := 0 * 1) rfl, ?_⟩
      (conv => whnf)
      refine ⟨fun h => ?_, fun h => ?_⟩
      · have ht : t = tag := by
          have h : (t.toNat : Int) = (tag.toNat : Int) := h
          exact UInt8.toNat_inj.1 (by omega)
        subst ht
        (conv => whnf)
        refine cutK_of [(0, .ptr (some (c, 0))), (6, sl b)] H ?_ ?_
        rotate_left
        · (conv => whnf)
          ((conv in (_[_]?) => tactic => exact hc0); (conv => whnf))
          refine ⟨⟨by decide, by simp <;> omega, by simp⟩, ?_⟩
          (conv => whnf)
          have e := sl_cut (t :: b) 1 ((t :: b).length : Int) ⟨by decide, by simp <;> omega, by simp⟩
          refine ⟨(), trivial, ⟨rfl, e.trans (by rw [Int.toNat_natCast, List.take_length]; rfl), trivial⟩, rfl⟩
        (conv => whnf)
        refine callK_pure (c161 b) ?_
        have hle := head_le b
        have heb : elemB t (t :: b) = if (headB b).2.2 = true ∧ (headB b).1 + (headB b).2.1 ≤ b.length then some ((b.drop (headB b).1).take (headB b).2.1, b.drop ((headB b).1 + (headB b).2.1)) else none := by
          show (if t = t then _ else none) = _
          rw [if_pos rfl]
        revert hle heb
        generalize hq : headB b = q
        obtain ⟨at', n, ok⟩ := q
        intro hle heb
        have hbl : b.length + 1 ≤ 140737488355328 := hll
        cases ok
        · (conv => whnf)
          refine errs _ (elemC_bad (by rw [heb]; rfl)) fun H' h1 h2 h3 => ?_
          (conv => whnf)
          rw [elemC_bad (by rw [heb]; rfl)]
          exact ⟨rfl, h1, h2, h3⟩
        · obtain ⟨k1, k2, k3⟩ := hle rfl
          have k1 : at' ≤ 3 := k1
          have k2 : at' ≤ b.length := k2
          have k3 : n ≤ 65535 := k3
          (conv => whnf)
          have hw : IntKind.i64.wrap ((b.length : Int) - (at' : Int)) = (b.length : Int) - at' := by rw [wrap64 (by omega) (by omega)]
          have hw2 : IntKind.i64.wrap ((at' : Int) + (n : Int)) = ((at' + n : Nat) : Int) := by rw [wrap64 (by omega) (by omega)]; rfl
          refine ⟨fun h => ?_, fun h => ?_⟩
          · (conv => whnf)
            have h : IntKind.i64.wrap ((b.length : Int) - (at' : Int)) < (n : Int) := h
            rw [hw] at h
            have hn : elemB t (t :: b) = none := by rw [heb, if_neg (fun hh => by have hh : at' + n ≤ b.length := hh.2; omega)]
            refine errs _ (elemC_bad hn) fun H' h1 h2 h3 => ?_
            (conv => whnf)
            rw [elemC_bad hn]
            exact ⟨rfl, h1, h2, h3⟩
          · (conv => whnf)
            have h : ¬ IntKind.i64.wrap ((b.length : Int) - (at' : Int)) < (n : Int) := h
            rw [hw] at h
            have hfit : at' + n ≤ b.length := by omega
            have hs : elemC t (some (t :: b)) = (some (b.drop (at' + n)), some ((b.drop at').take n)) := by
              show (match elemB t (t :: b) with | none => (none, none) | some (x, r) => (some r, some x)) = _
              rw [heb, if_pos ⟨rfl, hfit⟩]
            refine ⟨⟨by show 0 ≤ IntKind.i64.wrap ((at' : Int) + (n : Int)); rw [hw2]; omega, by show IntKind.i64.wrap ((at' : Int) + (n : Int)) ≤ (b.length : Int); rw [hw2]; omega, by omega⟩, ?_⟩
            (conv => whnf)
            ((conv in (_[_]?) => tactic => exact hc0); (conv => whnf))
            refine ⟨⟨by show (0 : Int) ≤ (at' : Int); omega, by show (at' : Int) ≤ IntKind.i64.wrap ((at' : Int) + (n : Int)); rw [hw2]; omega, by show IntKind.i64.wrap ((at' : Int) + (n : Int)) ≤ (b.length : Int); rw [hw2]; omega⟩, ?_⟩
            (conv => whnf)
            have e1 := sl_cut b (at' : Int) (IntKind.i64.wrap ((at' : Int) + (n : Int))) ⟨by omega, by rw [hw2]; omega, by rw [hw2]; omega⟩
            have e2 := sl_cut b (IntKind.i64.wrap ((at' : Int) + (n : Int))) (b.length : Int) ⟨by rw [hw2]; omega, by rw [hw2]; omega, by omega⟩
            have e3 : (b.take (IntKind.i64.wrap ((at' : Int) + (n : Int))).toNat).drop (at' : Int).toNat = (b.drop at').take n := by
              rw [hw2, Int.toNat_natCast, Int.toNat_natCast, List.drop_take]
              congr 1; omega
            have e4 : (b.take (b.length : Int).toNat).drop (IntKind.i64.wrap ((at' : Int) + (n : Int))).toNat = b.drop (at' + n) := by
              rw [hw2, Int.toNat_natCast, Int.toNat_natCast, List.take_length]
            refine callK_args (args' := [sl ((b.drop at').take n)]) (congrArg (fun x => [x]) (e1.trans (by rw [e3]))) (callK_pure (c140 _ (by rw [List.length_take, List.length_drop]; omega)) ?_)
            (conv => whnf)
            rw [hs]
            exact ⟨rfl, (Upd.refl (X := (· = c)) H).set (c := c) (.inl rfl) _, ⟨_, v + 1, get_set hc0, fun l hl => by
              have hl : b.drop (at' + n) = l := Option.some.inj hl
              rw [← hl]
              exact e2.trans (by rw [e4])⟩, fun y u hy => by
              rw [hc0] at hy
              cases hy
              rw [curStep_yes hs, ← e4, ← e2]; rfl⟩
      · have ht : ¬ t = tag := fun e => h (show (t.toNat : Int) = (tag.toNat : Int) by rw [e])
        have hn : elemB tag (t :: b) = none := by
          show (if t = tag then _ else none) = none
          rw [if_neg ht]
        (conv => whnf)
        refine errs _ (elemC_bad hn) fun H' h1 h2 h3 => ?_
        (conv => whnf)
        rw [elemC_bad hn]
        exact ⟨rfl, h1, h2, h3⟩
end Go.Proofs.Tryz

set_option maxRecDepth 100000
set_option maxHeartbeats 1000000
set_option linter.unusedVariables false
set_option linter.unusedSimpArgs false
namespace Go.Proofs.Tryz
open Go Ps
theorem c131 (c : Nat) (tag : UInt8) (s : Option (List UInt8)) (H : PH) (hc : curAt H c s) (hl : ∀ l, s = some l → l.length ≤ 140737488355328) :
    CallOk prog 131 [.ptr (some (c, 0)), byteC tag] H fun r H' => ∃ d, r = .ptr (some (d, 0)) ∧ H.length ≤ d ∧ Upd (· = c) H H' ∧ curAt H' c (elemC tag s).1 ∧ curAt H' d (elemC tag s).2 := by
  (refine callOk_of_pFun2 (tt := ttC) (imm := imm131) follows ttC_ok depth6 func131 (by kernel_rfl) ?_; (conv => whnf))
  refine callK_of (c132 c tag s H hc hl) ?_
  rintro _ H1 ⟨rfl, h1, h2, h3⟩
  revert h2
  generalize elemC tag s = q
  obtain ⟨s', o⟩ := q
  intro h2
  have h2 : curAt H1 c s' := h2
  cases o with
  | none =>
    (conv => whnf)
    exact ⟨H1.length, rfl, h1.1, h1.push _, h2.keep (X := fun _ => False) ((Upd.refl H1).push _) (fun f => f), _, 0, get_last _ _, fun l hl => by cases hl⟩
  | some x =>
    (conv => whnf)
    exact ⟨H1.length, rfl, h1.1, h1.push _, h2.keep (X := fun _ => False) ((Upd.refl H1).push _) (fun f => f), sl x, 0, get_last _ _, fun l hl => by cases hl; rfl⟩
theorem c79 (c : Nat) (s : Option (List UInt8)) (H : PH) (hc : curAt H c s) (hl : ∀ l, s = some l → l.length ≤ 140737488355328) :
    CallOk prog 79 [.ptr (some (c, 0))] H fun r H' => r = .str ((elemC 27 s).2.getD []) ∧ Upd (· = c) H H' ∧ curAt H' c (elemC 27 s).1 := by
  (refine callOk_of_pFun2 (tt := ttC) (imm := imm79) follows ttC_ok depth6 func79 (by kernel_rfl) ?_; (conv => whnf))
  refine callK_of (c132 c 27 s H hc hl) ?_
  rintro _ H1 ⟨rfl, h1, h2, h3⟩
  (conv => whnf)
  refine ⟨_, ⟨rfl, rfl⟩, ?_⟩
  (conv => whnf)
  exact ⟨rfl, h1, h2⟩
theorem c113 (c : Nat) (s : Option (List UInt8)) (H : PH) (hc : curAt H c s) (hl : ∀ l, s = some l → l.length ≤ 140737488355328) :
    CallOk prog 113 [.ptr (some (c, 0))] H fun r H' => r = sl ((elemC 4 s).2.getD []) ∧ Upd (· = c) H H' ∧ curAt H' c (elemC 4 s).1 ∧ ∀ y u, H[c]? = some ⟨230, [y, .bool s.isNone], u⟩ → H' = H.set c (curStep 4 s u) := by
  (refine callOk_of_pFun2 (tt := ttC) (imm := imm113) follows ttC_ok depth6 func113 (by kernel_rfl) ?_; (conv => whnf))
  refine callK_of (c132 c 4 s H hc hl) ?_
  rintro _ H1 ⟨rfl, h1, h2, h3⟩
  (conv => whnf)
  exact ⟨rfl, h1, h2, h3⟩
def numW (l : List UInt8) : Int := l.foldl (fun n x => IntKind.i64.wrap (ishl .i64 n 8 + IntKind.i64.wrap (x.toNat : Int))) 0
def intR (s' : Option (List UInt8)) : Option (List UInt8) → Option (List UInt8) × Int
  | none => (s', 0)
  | some b => if isNumB b = true ∧ numW (b.take 8) ≤ 4611686018427387904 then (s', numW (b.take 8)) else (none, 0)
def intC (s : Option (List UInt8)) : Option (List UInt8) × Int := intR (elemC 2 s).1 (elemC 2 s).2
theorem intR_no {s' : Option (List UInt8)} {b : List UInt8} (h : ¬ (isNumB b = true ∧ numW (b.take 8) ≤ 4611686018427387904)) : intR s' (some b) = (none, 0) := if_neg h
theorem intR_yes {s' : Option (List UInt8)} {b : List UInt8} (h : isNumB b = true ∧ numW (b.take 8) ≤ 4611686018427387904) : intR s' (some b) = (s', numW (b.take 8)) := if_pos h
structure NuS where
  k : Nat
theorem c80 (c : Nat) (s : Option (List UInt8)) (H : PH) (hc : curAt H c s) (hl : ∀ l, s = some l → l.length ≤ 140737488355328) :
    CallOk prog 80 [.ptr (some (c, 0))] H fun r H' => r = .int .i64 (intC s).2 ∧ Upd (· = c) H H' ∧ curAt H' c (intC s).1 := by
  (refine callOk_of_pFun2 (tt := ttC) (imm := imm80) follows ttC_ok depth6 func80 (by kernel_rfl) ?_; (conv => whnf))
  refine callK_of (c132 c 2 s H hc hl) ?_
  rintro _ H1 ⟨rfl, h1, h2, h3⟩
  unfold intC
  revert h2
  generalize elemC 2 s = q
  obtain ⟨s', o⟩ := q
  intro h2
  have h2 : curAt H1 c s' := h2
  cases o with
  | none =>
    (conv => whnf)
    exact ⟨rfl, h1, h2⟩
  | some b =>
    (conv => whnf)
    have hcut := sl_cut b 0 (min (b.length : Int) 8) ⟨by decide, by omega, by omega⟩
    have hL : (b.take (min (b.length : Int) 8).toNat).drop (0 : Int).toNat = b.take 8 := by
      show (b.take (min (b.length : Int) 8).toNat).drop 0 = _
      rw [List.drop_zero]
      by_cases h : b.length ≤ 8
      · rw [show (min (b.length : Int) 8).toNat = b.length by omega, List.take_length, List.take_of_length_le h]
      · rw [show (min (b.length : Int) 8).toNat = 8 by omega]
    rw [hL] at hcut
    have hm : (min (b.length : Int) 8).toNat - (0 : Int).toNat = (b.take 8).length := by rw [List.length_take]; omega
    refine ⟨⟨by decide, by show (0 : Int) ≤ min (b.length : Int) 8; omega, by show min (b.length : Int) 8 ≤ (b.length : Int); omega⟩, ?_⟩
    (conv => whnf)
    refine loopK_of NuS (fun x => [(0, .ptr (some (c, 0))), (3, slo b (some 5)), (19, sl (b.take 8)), (20, .int .i64 (b.take 8).length), (21, .int .i64 x.k), (5, .int .i64 (numW ((b.take 8).take x.k)))]) (fun _ => H1) (fun x => x.k ≤ (b.take 8).length) (fun x => (b.take 8).length - x.k)
      ⟨⟨0⟩, Nat.zero_le _, ⟨rfl, rfl, hcut, congrArg (fun n : Nat => PV.int .i64 (n : Int)) hm, rfl, rfl, trivial⟩, rfl⟩ ?_
    rintro ⟨k⟩ hk
    have hk : k ≤ (b.take 8).length := hk
    have h8 : (b.take 8).length ≤ 8 := by rw [List.length_take]; omega
    (conv => whnf)
    refine ⟨fun h => ?_, fun h => ?_⟩
    · (conv => whnf)
      have h : (k : Int) < ((b.take 8).length : Int) := h
      have hi : k < (b.take 8).length := by omega
      refine ⟨⟨by show (0 : Int) ≤ (k : Int); omega, h⟩, [byteC (b.take 8)[k]], at1 ?_, ?_⟩
      · show ((b.take 8).map byteC)[(k : Int).toNat * 1]? = _
        rw [Int.toNat_natCast, Nat.mul_one, List.getElem?_map, List.getElem?_eq_getElem hi]; rfl
      (conv => whnf)
      refine ⟨by decide, ?_⟩
      (conv => whnf)
      refine ⟨⟨k + 1⟩, by show k + 1 ≤ _; omega, ⟨rfl, rfl, rfl, rfl, ?_, ?_, trivial⟩, rfl, by show (b.take 8).length - (k + 1) < (b.take 8).length - k; omega⟩
      · show PV.int _ (IntKind.i64.wrap ((k : Int) + 1)) = PV.int _ ((k + 1 : Nat) : Int)
        rw [wrap64 (by omega) (by omega)]; rfl
      · rw [List.take_succ_eq_append_getElem hi]
        unfold numW
        rw [List.foldl_append]
        rfl
    · (conv => whnf)
      have h : ¬ (k : Int) < ((b.take 8).length : Int) := h
      rw [List.take_of_length_le (l := b.take 8) (by omega)]
      refine callK_pure (c133 b) ?_
      cases hn : isNumB b
      · (conv => whnf)
        refine callK_of (c134 c s' H1 h2) fun r H2 ⟨k1, k2, k3, _⟩ => ?_
        subst k1
        (conv => whnf)
        have hq : intR s' (some b) = (none, 0) := intR_no (fun hh => by rw [hn] at hh; cases hh.1)
        rw [show intR (s', some b).1 (s', some b).2 = (none, 0) from hq]
        exact ⟨rfl, h1.trans k2, k3⟩
      · (conv => whnf)
        refine ⟨fun h5 => ?_, fun h5 => ?_⟩
        · (conv => whnf)
          have h5 : (4611686018427387904 : Int) < numW (b.take 8) := h5
          refine callK_of (c134 c s' H1 h2) fun r H2 ⟨k1, k2, k3, _⟩ => ?_
          subst k1
          (conv => whnf)
          have hq : intR s' (some b) = (none, 0) := intR_no (fun hh => by omega)
          rw [show intR (s', some b).1 (s', some b).2 = (none, 0) from hq]
          exact ⟨rfl, h1.trans k2, k3⟩
        · (conv => whnf)
          have h5 : ¬ (4611686018427387904 : Int) < numW (b.take 8) := h5
          have hq : intR s' (some b) = (s', numW (b.take 8)) := intR_yes ⟨hn, by omega⟩
          rw [show intR (s', some b).1 (s', some b).2 = (s', numW (b.take 8)) from hq]
          exact ⟨rfl, h1, h2⟩
end Go.Proofs.Tryz

set_option maxRecDepth 100000
set_option maxHeartbeats 1000000
set_option linter.unusedVariables false
set_option linter.unusedSimpArgs false
namespace Go.Proofs.Tryz
open Go Ps
theorem lenB_head (n : Nat) (hn : n ≤ 65535) (r : List UInt8) : headB (lenB n ++ r) = ((lenB n).length, n, true) := by
  unfold lenB
  split
  · rename_i h
    have e : (UInt8.ofNat n).toNat = n := by rw [UInt8.toNat_ofNat']; omega
    match r with
    | [] => show headB [_] = _; rw [head_1, e, if_pos h]; rfl
    | [y] => show headB [_, _] = _; rw [head_2, e, if_pos h]; rfl
    | y :: z :: t => show headB (_ :: _ :: _ :: _) = _; rw [head_3, e, if_pos h]; rfl
  · rename_i h
    split
    · rename_i h2
      have e : (UInt8.ofNat n).toNat = n := by rw [UInt8.toNat_ofNat']; omega
      match r with
      | [] => show headB [_, _] = _; rw [head_2, e, if_neg (by decide), if_pos ⟨by decide, by omega⟩]; rfl
      | y :: t => show headB (_ :: _ :: _ :: _) = _; rw [head_3, e, if_neg (by decide), if_pos ⟨by decide, by omega⟩]; rfl
    · rename_i h2
      have e1 : (UInt8.ofNat (n / 256)).toNat = n / 256 := by rw [UInt8.toNat_ofNat']; omega
      have e2 : (UInt8.ofNat n).toNat = n % 256 := by rw [UInt8.toNat_ofNat']
      show headB (_ :: _ :: _ :: _) = _
      rw [head_3, e1, e2, if_neg (by decide), if_neg (fun hh => absurd hh.1 (by decide)), if_pos ⟨by decide, by omega⟩]
      show (3, n / 256 * 256 + n % 256, true) = (3, n, true)
      rw [show n / 256 * 256 + n % 256 = n by omega]
theorem elem_wrap (tag : UInt8) (x rest : List UInt8) (hx : x.length ≤ 65535) : elemB tag (wrapB tag x ++ rest) = some (x, rest) := by
  have e : wrapB tag x ++ rest = tag :: (lenB x.length ++ (x ++ rest)) := by unfold wrapB; simp
  rw [e]
  show (if tag = tag then (if (headB (lenB x.length ++ (x ++ rest))).2.2 = true ∧ (headB (lenB x.length ++ (x ++ rest))).1 + (headB (lenB x.length ++ (x ++ rest))).2.1 ≤ (lenB x.length ++ (x ++ rest)).length then some (((lenB x.length ++ (x ++ rest)).drop (headB (lenB x.length ++ (x ++ rest))).1).take (headB (lenB x.length ++ (x ++ rest))).2.1, (lenB x.length ++ (x ++ rest)).drop ((headB (lenB x.length ++ (x ++ rest))).1 + (headB (lenB x.length ++ (x ++ rest))).2.1)) else none) else none) = _
  rw [if_pos rfl, lenB_head _ hx]
  rw [if_pos ⟨rfl, by show (lenB x.length).length + x.length ≤ _; simp⟩]
  show some (((lenB x.length ++ (x ++ rest)).drop (lenB x.length).length).take x.length, (lenB x.length ++ (x ++ rest)).drop ((lenB x.length).length + x.length)) = _
  rw [List.drop_left, List.take_left, ← List.drop_drop, List.drop_left, List.drop_left]
theorem elemC_wrap (tag : UInt8) (x rest : List UInt8) (hx : x.length ≤ 65535) : elemC tag (some (wrapB tag x ++ rest)) = (some rest, some x) := by
  show (match elemB tag (wrapB tag x ++ rest) with | none => (none, none) | some (x, r) => (some r, some x)) = _
  rw [elem_wrap tag x rest hx]
theorem ishl8 (v : Int) : ishl .i64 v 8 = IntKind.i64.wrap (v * 256) := by
  unfold ishl
  rw [show (2 : Int) ^ (min (Int.toNat 8) IntKind.i64.bits) = 256 from rfl]
def stepV (n : Nat) (x : UInt8) : Nat := n * 256 + x.toNat
def valB (l : List UInt8) : Nat := l.foldl stepV 0
theorem fold_pow : ∀ (l : List UInt8) (a : Nat), a * 256 ^ l.length ≤ l.foldl stepV a
  | [], a => by simp
  | x :: l, a => by
    have h := fold_pow l (stepV a x)
    refine Nat.le_trans ?_ h
    unfold stepV
    rw [List.length_cons, Nat.pow_succ, Nat.mul_comm (256 ^ l.length) 256, ← Nat.mul_assoc]
    exact Nat.mul_le_mul_right _ (Nat.le_add_right _ _)
theorem fold_ge (l : List UInt8) (a : Nat) : a ≤ l.foldl stepV a :=
  Nat.le_trans (Nat.le_mul_of_pos_right _ (Nat.pow_pos (by decide))) (fold_pow l a)
theorem numW_fold : ∀ (l : List UInt8) (a : Nat), l.foldl stepV a < 9223372036854775808 → l.foldl (fun n x => IntKind.i64.wrap (ishl .i64 n 8 + IntKind.i64.wrap (x.toNat : Int))) (a : Int) = ((l.foldl stepV a : Nat) : Int)
  | [], a, _ => rfl
  | x :: l, a, h => by
    have h : l.foldl stepV (stepV a x) < 9223372036854775808 := h
    have h1 := fold_ge l (stepV a x)
    have h2 : stepV a x = a * 256 + x.toNat := rfl
    have hx := x.toNat_lt
    show l.foldl _ (IntKind.i64.wrap (ishl .i64 (a : Int) 8 + IntKind.i64.wrap (x.toNat : Int))) = ((l.foldl stepV (stepV a x) : Nat) : Int)
    rw [← numW_fold l (stepV a x) h]
    congr 1
    rw [ishl8, wrapB1, wrap64 (x := (a : Int) * 256) (by omega) (by omega), wrap64 (by omega) (by omega), h2]
    omega
theorem numW_val (l : List UInt8) (h : valB l < 9223372036854775808) : numW l = (valB l : Int) := numW_fold l 0 h
theorem le_val : ∀ (f n : Nat), n < 256 ^ f → valB (le f n).reverse = n
  | 0, n, h => by simp at h; subst h; rfl
  | f + 1, n, h => by
    unfold le
    split
    · rename_i e; rw [e]; rfl
    · rw [List.reverse_cons]
      unfold valB
      rw [List.foldl_append]
      have ih : (le f (n / 256)).reverse.foldl stepV 0 = n / 256 := le_val f (n / 256) (by rw [Nat.pow_succ] at h; omega)
      rw [ih]
      show n / 256 * 256 + (UInt8.ofNat n).toNat = n
      rw [UInt8.toNat_ofNat']; omega
theorem le_top : ∀ (f n : Nat), n < 256 ^ f → ∀ x t, (le f n).reverse = x :: t → 0 < x.toNat
  | 0, n, _ => fun x t e => by simp [le] at e
  | f + 1, n, h => fun x t e => by
    have h' : n / 256 < 256 ^ f := by rw [Nat.pow_succ] at h; omega
    unfold le at e
    split at e
    · cases e
    · rename_i hn
      rw [List.reverse_cons] at e
      cases hd : (le f (n / 256)).reverse with
      | nil =>
        have hv := le_val f (n / 256) h'
        rw [hd] at hv
        have hv : 0 = n / 256 := hv
        rw [hd] at e
        cases e
        rw [UInt8.toNat_ofNat']; omega
      | cons y u =>
        rw [hd] at e
        cases e
        exact le_top f (n / 256) h' _ _ hd
theorem le_nil (f n : Nat) (h : n < 256 ^ f) (e : le f n = []) : n = 0 := by
  have := le_val f n h
  rw [e] at this
  exact this.symm
/-- What stands for a number is read as it, and is a number. -/
theorem intB_ok (n : Nat) (hn : n ≤ 4611686018427387904) : isNumB (intB n) = true ∧ valB (intB n) = n ∧ (intB n).length ≤ 8 := by
  have h9 : n < 256 ^ 9 := by omega
  have hv := le_val 9 n h9
  have ht := le_top 9 n h9
  unfold intB padB
  generalize hd : (le 9 n).reverse = b at hv ht
  have hl : le 9 n = b.reverse := by rw [← hd, List.reverse_reverse]
  rw [hl]
  cases b with
  | nil => exact ⟨by decide, by rw [← hv]; rfl, by decide⟩
  | cons x t =>
    have hx := ht x t rfl
    have hp : x.toNat * 256 ^ t.length ≤ n := by
      have h := fold_pow t (stepV 0 x)
      have e : t.foldl stepV (stepV 0 x) = n := hv
      rw [e] at h
      have e2 : stepV 0 x = x.toNat := by unfold stepV; omega
      rw [e2] at h; exact h
    have hg : ((x :: t).reverse.getLast?.getD 0) = x := by simp
    rw [hg]
    have p7 : 7 ≤ t.length → 256 ^ 7 ≤ 256 ^ t.length := fun h => Nat.pow_le_pow_right (by decide) h
    have p8 : 8 ≤ t.length → 256 ^ 8 ≤ 256 ^ t.length := fun h => Nat.pow_le_pow_right (by decide) h
    have k8 : t.length ≤ 7 := by
      refine Nat.le_of_not_lt fun h => ?_
      have := p8 h
      have : 256 ^ t.length ≤ x.toNat * 256 ^ t.length := Nat.le_mul_of_pos_left _ hx
      have e : (256 : Nat) ^ 8 = 18446744073709551616 := by decide
      omega
    by_cases hc : 128 ≤ x.toNat
    · rw [if_pos (.inr hc)]
      have k7 : t.length ≤ 6 := by
        refine Nat.le_of_not_lt fun h => ?_
        have h1 := p7 h
        have : x.toNat * 256 ^ 7 ≤ x.toNat * 256 ^ t.length := Nat.mul_le_mul_left _ h1
        have e : (256 : Nat) ^ 7 = 72057594037927936 := by decide
        rw [e] at this
        omega
      rw [List.reverse_append, List.reverse_reverse]
      refine ⟨?_, ?_, ?_⟩
      · show (decide (t.length ≤ 6) && (decide ((0 : UInt8).toNat < 128) && (decide ((0 : UInt8).toNat ≠ 0) || decide (128 ≤ x.toNat)))) = true
        rw [decide_eq_true k7, decide_eq_true hc]; rfl
      · exact hv
      · show t.length + 1 + 1 ≤ 8
        omega
    · rw [if_neg (fun hh => by rcases hh with hh | hh; · simp at hh
                               · exact hc hh)]
      rw [List.reverse_reverse]
      refine ⟨?_, hv, by show t.length + 1 ≤ 8; omega⟩
      cases t with
      | nil => exact decide_eq_true (by omega)
      | cons y u =>
        show (decide (u.length ≤ 6) && (decide (x.toNat < 128) && (decide (x.toNat ≠ 0) || decide (128 ≤ y.toNat)))) = true
        have : u.length + 1 ≤ 7 := k8
        rw [decide_eq_true (show u.length ≤ 6 by omega), decide_eq_true (show x.toNat < 128 by omega), decide_eq_true (show x.toNat ≠ 0 by omega)]; rfl
theorem intC_wrap (n : Int) (h0 : 0 ≤ n) (h1 : n ≤ 4611686018427387904) (rest : List UInt8) : intC (some (intE n ++ rest)) = (some rest, n) := by
  have hc : clampI n = n.toNat := by unfold clampI; omega
  obtain ⟨k1, k2, k3⟩ := intB_ok n.toNat (by omega)
  unfold intC intE
  rw [hc, elemC_wrap 2 _ rest (by omega)]
  have e8 : (intB n.toNat).take 8 = intB n.toNat := List.take_of_length_le k3
  have hw : numW ((intB n.toNat).take 8) = n := by rw [e8, numW_val _ (by omega), k2]; omega
  show intR (some rest) (some (intB n.toNat)) = _
  rw [intR_yes ⟨k1, by rw [hw]; exact h1⟩, hw]
/-- A principal as it is taken: what is left, and it. -/
def princC (s : Option (List UInt8)) : Option (List UInt8) × (List UInt8 × List UInt8) :=
  ((elemC 48 s).1, ((elemC 27 (elemC 48 s).2).2.getD [], (elemC 27 (elemC 27 (elemC 48 s).2).1).2.getD []))
theorem princC_wrap (r n rest : List UInt8) (hr : r.length ≤ 1000) (hn : n.length ≤ 1000) : princC (some (princE r n ++ rest)) = (some rest, (r, n)) := by
  have h1 := wrapB_len 27 r
  have h2 := wrapB_len 27 n
  unfold princC princE
  rw [elemC_wrap 48 _ rest (by simp only [List.flatten_cons, List.flatten_nil, List.length_append, List.length_nil]; omega)]
  show (some rest, ((elemC 27 (some [wrapB 27 r, wrapB 27 n].flatten)).2.getD [], (elemC 27 (elemC 27 (some [wrapB 27 r, wrapB 27 n].flatten)).1).2.getD [])) = _
  simp only [List.flatten_cons, List.flatten_nil]
  rw [elemC_wrap 27 r _ (by omega)]
  show (some rest, (r, (elemC 27 (some (wrapB 27 n ++ []))).2.getD [])) = _
  rw [elemC_wrap 27 n _ (by omega)]
  rfl
theorem elemB_len {tag : UInt8} {l x r : List UInt8} (h : elemB tag l = some (x, r)) : x.length ≤ l.length ∧ r.length ≤ l.length ∧ x.length ≤ 65535 := by
  cases l with
  | nil => cases h
  | cons t b =>
    have h : (if t = tag then (if (headB b).2.2 = true ∧ (headB b).1 + (headB b).2.1 ≤ b.length then some ((b.drop (headB b).1).take (headB b).2.1, b.drop ((headB b).1 + (headB b).2.1)) else none) else none) = some (x, r) := h
    split at h
    · split at h
      · rename_i h1 h2
        have := head_le b h2.1
        cases h
        simp only [List.length_take, List.length_drop, List.length_cons]
        omega
      · cases h
    · cases h
theorem elemC_len {tag : UInt8} {s : Option (List UInt8)} {B : Nat} (h : ∀ l, s = some l → l.length ≤ B) : (∀ l, (elemC tag s).1 = some l → l.length ≤ B) ∧ (∀ l, (elemC tag s).2 = some l → l.length ≤ B ∧ l.length ≤ 65535) := by
  cases s with
  | none => exact ⟨(fun l h => by cases h), (fun l h => by cases h)⟩
  | some l =>
    have hb := h l rfl
    have e : elemC tag (some l) = (match elemB tag l with | none => (none, none) | some (x, r) => (some r, some x)) := rfl
    rw [e]
    cases he : elemB tag l with
    | none => exact ⟨(fun l h => by cases h), (fun l h => by cases h)⟩
    | some p =>
      obtain ⟨x, r⟩ := p
      have hl := elemB_len he
      exact ⟨(fun l h => by cases h; omega), (fun l h => by cases h; omega)⟩
theorem intC_len {s : Option (List UInt8)} {B : Nat} (h : ∀ l, s = some l → l.length ≤ B) : ∀ l, (intC s).1 = some l → l.length ≤ B := by
  have hl := (elemC_len (tag := 2) h).1
  unfold intC
  revert hl
  generalize elemC 2 s = q
  obtain ⟨s', o⟩ := q
  intro hl l
  cases o with
  | none => exact hl l
  | some b =>
    show (if isNumB b = true ∧ numW (b.take 8) ≤ 4611686018427387904 then (s', numW (b.take 8)) else (none, 0)).1 = some l → _
    split
    · exact hl l
    · intro e; cases e
end Go.Proofs.Tryz

set_option maxRecDepth 100000
set_option maxHeartbeats 1000000
set_option linter.unusedVariables false
set_option linter.unusedSimpArgs false
namespace Go.Proofs.Tryz
open Go Ps
def keyC (k : Nat → UInt8) : List PV := [byteC (k 0), byteC (k 1), byteC (k 2), byteC (k 3), byteC (k 4), byteC (k 5), byteC (k 6), byteC (k 7), byteC (k 8), byteC (k 9), byteC (k 10), byteC (k 11), byteC (k 12), byteC (k 13), byteC (k 14), byteC (k 15), byteC (k 16), byteC (k 17), byteC (k 18), byteC (k 19), byteC (k 20), byteC (k 21), byteC (k 22), byteC (k 23), byteC (k 24), byteC (k 25), byteC (k 26), byteC (k 27), byteC (k 28), byteC (k 29), byteC (k 30), byteC (k 31)]
def keyB (k : Nat → UInt8) : List UInt8 := [k 0, k 1, k 2, k 3, k 4, k 5, k 6, k 7, k 8, k 9, k 10, k 11, k 12, k 13, k 14, k 15, k 16, k 17, k 18, k 19, k 20, k 21, k 22, k 23, k 24, k 25, k 26, k 27, k 28, k 29, k 30, k 31]
/-- The key that bytes are copied to. -/
def keyOf (x : List UInt8) : Nat → UInt8 := fun i => x.getD i 0
theorem keyC_map (k : Nat → UInt8) : keyC k = (keyB k).map byteC := rfl
theorem keyB_len (k : Nat → UInt8) : (keyB k).length = 32 := rfl
theorem keyB_of (k : Nat → UInt8) : keyB (keyOf (keyB k)) = keyB k := rfl
structure Prt where
  r : List UInt8
  n : List UInt8
  k : Nat → UInt8
  tr : List UInt8
  st : Int
  en : Int
def Prt.cells (p : Prt) : List PV := [.str p.r, .str p.n] ++ keyC p.k ++ [.str p.tr, .int .i64 p.st, .int .i64 p.en]
def isPartB (p : Prt) : Bool := isPrincB p.r p.n && isTextB p.tr && (inZ p.st 0 1073741824 && inZ p.en 0 1073741824)
def partL (p : Prt) : List UInt8 := wrapB 99 [princE p.r p.n, wrapB 4 (keyB p.k), wrapB 27 p.tr, intE p.st, intE p.en].flatten
def encPV (p : Prt) : PV := if isPartB p = true ∧ (partL p).length ≤ 2000 then .tup [sl (partL p), .int .i64 0] else .tup [sl [], .int .i64 1]
theorem encPV_yes {p : Prt} (h : isPartB p = true ∧ (partL p).length ≤ 2000) : encPV p = .tup [sl (partL p), .int .i64 0] := if_pos h
theorem encPV_no {p : Prt} (h : ¬ (isPartB p = true ∧ (partL p).length ≤ 2000)) : encPV p = .tup [sl [], .int .i64 1] := if_neg h
def octC (s : Option (List UInt8)) : Option (List UInt8) × List UInt8 := ((elemC 4 s).1, (elemC 4 s).2.getD [])
def txtC (s : Option (List UInt8)) : Option (List UInt8) × List UInt8 := ((elemC 27 s).1, (elemC 27 s).2.getD [])
theorem octC_wrap (x rest : List UInt8) (hx : x.length ≤ 65535) : octC (some (wrapB 4 x ++ rest)) = (some rest, x) := by
  unfold octC; rw [elemC_wrap 4 x rest hx]; rfl
theorem txtC_wrap (x rest : List UInt8) (hx : x.length ≤ 65535) : txtC (some (wrapB 27 x ++ rest)) = (some rest, x) := by
  unfold txtC; rw [elemC_wrap 27 x rest hx]; rfl
def partD (s : Option (List UInt8)) : Prt :=
  ⟨(princC s).2.1, (princC s).2.2, keyOf (octC (princC s).1).2, (txtC (octC (princC s).1).1).2, (intC (txtC (octC (princC s).1).1).1).2, (intC (intC (txtC (octC (princC s).1).1).1).1).2⟩
def partC (b : List UInt8) : Prt := partD (elemC 99 (some b)).2
def Prt.same (p q : Prt) : Prop := p.r = q.r ∧ p.n = q.n ∧ keyB p.k = keyB q.k ∧ p.tr = q.tr ∧ p.st = q.st ∧ p.en = q.en
theorem part_len (p : Prt) : (partL p).length ≤ p.r.length + p.n.length + p.tr.length + 88 := by
  have h0 := wrapB_len 99 [princE p.r p.n, wrapB 4 (keyB p.k), wrapB 27 p.tr, intE p.st, intE p.en].flatten
  have h1 := princE_len p.r p.n
  have h2 := wrapB_len 4 (keyB p.k)
  have h3 := wrapB_len 27 p.tr
  have h4 := intE_len p.st
  have h5 := intE_len p.en
  have h6 := keyB_len p.k
  simp only [List.flatten_cons, List.flatten_nil, List.length_append, List.length_nil] at h0
  unfold partL
  simp only [List.flatten_cons, List.flatten_nil]
  omega
theorem isText_len {s : List UInt8} (h : isTextB s = true) : s.length ≤ 300 := by
  unfold isTextB at h
  rw [Bool.and_eq_true] at h
  exact of_decide_eq_true h.1
/-- What is laid is read as it was. -/
theorem partC_laid (p : Prt) (h : isPartB p = true) : (partC (partL p)).same p := by
  unfold isPartB at h
  simp only [Bool.and_eq_true] at h
  have g1 := princ_len h.1.1
  have g2 := isText_len h.1.2
  have g3 := inZ_le h.2.1
  have g4 := inZ_le h.2.2
  have h1 := princE_len p.r p.n
  have h2 := wrapB_len 4 (keyB p.k)
  have h3 := wrapB_len 27 p.tr
  have h4 := intE_len p.st
  have h5 := intE_len p.en
  have h6 := keyB_len p.k
  have e0 := elemC_wrap 99 [princE p.r p.n, wrapB 4 (keyB p.k), wrapB 27 p.tr, intE p.st, intE p.en].flatten [] (by simp only [List.flatten_cons, List.flatten_nil, List.length_append, List.length_nil]; omega)
  rw [List.append_nil] at e0
  have w1 := princC_wrap p.r p.n (wrapB 4 (keyB p.k) ++ (wrapB 27 p.tr ++ (intE p.st ++ (intE p.en ++ [])))) (by omega) (by omega)
  have w2 := octC_wrap (keyB p.k) (wrapB 27 p.tr ++ (intE p.st ++ (intE p.en ++ []))) (by omega)
  have w3 := txtC_wrap p.tr (intE p.st ++ (intE p.en ++ [])) (by omega)
  have w4 := intC_wrap p.st (by omega) (by omega) (intE p.en ++ [])
  have w5 := intC_wrap p.en (by omega) (by omega) []
  unfold partC partL
  rw [e0]
  show (partD (some [princE p.r p.n, wrapB 4 (keyB p.k), wrapB 27 p.tr, intE p.st, intE p.en].flatten)).same p
  simp only [List.flatten_cons, List.flatten_nil]
  unfold partD
  simp only [w1, w2, w3, w4, w5]
  exact ⟨rfl, rfl, keyB_of _, rfl, rfl, rfl⟩
theorem part_same {p q : Prt} (h : p.same q) : isPartB p = isPartB q ∧ partL p = partL q := by
  obtain ⟨h1, h2, h3, h4, h5, h6⟩ := h
  unfold isPartB partL
  rw [h1, h2, h3, h4, h5, h6]
  exact ⟨rfl, rfl⟩
end Go.Proofs.Tryz

set_option maxRecDepth 100000
set_option maxHeartbeats 2000000
set_option linter.unusedVariables false
set_option linter.unusedSimpArgs false
namespace Go.Proofs.Tryz
open Go Ps
theorem Upd.over {X Y : Nat → Prop} {H H1 H2 : PH} (h : Upd X H H1) (k : Upd Y H1 H2) (hy : ∀ i, i < H.length → Y i → X i) : Upd X H H2 :=
  ⟨Nat.le_trans h.1 k.1, fun i hi hx => (k.2 i (Nat.lt_of_lt_of_le hi h.1) fun hY => hx (hy i hi hY)).trans (h.2 i hi hx)⟩
theorem curAt.set_ne {H : PH} {c j : Nat} {s : Option (List UInt8)} (h : curAt H c s) (hj : j ≠ c) (o : PObj) : curAt (H.set j o) c s := by
  obtain ⟨x, v, h1, h2⟩ := h
  exact ⟨x, v, by rw [List.getElem?_set_ne hj]; exact h1, h2⟩
theorem c76 (b : List UInt8) (tag : UInt8) (hb : b.length ≤ 140737488355328) (H : PH) : CallOk prog 76 [sl b, byteC tag] H fun r H' =>
    ∃ d, r = .agg [.ptr (some (d, 0))] ∧ H.length ≤ d ∧ Upd (fun _ => False) H H' ∧ curAt H' d (elemC tag (some b)).2 := by
  (refine callOk_of_pFun2 (tt := ttC) (imm := imm76) follows ttC_ok depth6 func76 (by kernel_rfl) ?_; (conv => whnf))
  refine callK_of (c130 b hb _) ?_
  rintro _ _ ⟨rfl, rfl⟩
  (conv => whnf)
  obtain ⟨H1, hH1⟩ : ∃ H1, H1 = H ++ [PObj.mk 146 [.ptr none] 0] := ⟨_, rfl⟩
  have hl1 : H1.length = H.length + 1 := by rw [hH1]; simp
  have h0 : H1[H.length]? = some ⟨146, [.ptr none], 0⟩ := by rw [hH1]; exact get_last _ _
  have u1 : Upd (fun _ => False) H H1 := by rw [hH1]; exact (Upd.refl H).push _
  rw [← hH1]
  have hcur : curAt (H1 ++ [PObj.mk 230 [sl b, .bool false] 0]) H1.length (some b) := ⟨sl b, 0, get_last _ _, fun l hl => by cases hl; rfl⟩
  refine callK_of (c131 H1.length tag (some b) (H1 ++ [PObj.mk 230 [sl b, .bool false] 0]) hcur (fun l hl => by cases hl; exact hb)) ?_
  rintro _ H2 ⟨d, rfl, k1, k2, k3, k4⟩
  have hl2 : (H1 ++ [PObj.mk 230 [sl b, .bool false] 0]).length = H.length + 2 := by simp [hl1]
  have u2 : Upd (fun _ => False) H (H1 ++ [⟨230, [sl b, .bool false], 0⟩]) := u1.push _
  have u3 : Upd (fun _ => False) H H2 := u2.over k2 (fun i hi e => by have e : i = H1.length := e; omega)
  have hat : H2[H.length]? = some ⟨146, [.ptr none], 0⟩ := by
    rw [k2.2 H.length (by omega) (fun e => by have e : H.length = H1.length := e; omega), List.getElem?_append_left (by omega)]
    exact h0
  (conv => whnf)
  ((conv in (_[_]?) => tactic => exact hat); (conv => whnf))
  ((conv in (_[_]?) => tactic => exact get_set hat); (conv => whnf))
  exact ⟨d, rfl, by omega, u3.set (.inr (Nat.le_refl _)) _, k4.set_ne (by omega) _⟩
theorem c77 (d : Nat) (s : Option (List UInt8)) (H : PH) (hc : curAt H d s) (hl : ∀ l, s = some l → l.length ≤ 140737488355328) :
    CallOk prog 77 [.agg [.ptr (some (d, 0))]] H fun r H' => r = .agg [.str (princC s).2.1, .str (princC s).2.2] ∧ Upd (· = d) H H' ∧ curAt H' d (princC s).1 := by
  have hd := hc.lt
  have g0 := elemC_len (tag := 48) hl
  have g1 : ∀ l, (elemC 48 s).2 = some l → l.length ≤ 140737488355328 := fun l h => (g0.2 l h).1
  have g2 := (elemC_len (tag := 27) g1).1
  (refine callOk_of_pFun2 (tt := ttC) (imm := imm77) follows ttC_ok depth6 func77 (by kernel_rfl) ?_; (conv => whnf))
  obtain ⟨H1, hH1⟩ : ∃ H1, H1 = H ++ [PObj.mk 24 [.str [], .str []] 0] := ⟨_, rfl⟩
  have hl1 : H1.length = H.length + 1 := by rw [hH1]; simp
  have h0 : H1[H.length]? = some ⟨24, [.str [], .str []], 0⟩ := by rw [hH1]; exact get_last _ _
  have u1 : Upd (· = d) H H1 := by rw [hH1]; exact (Upd.refl H).push _
  have hc1 : curAt H1 d s := hc.keep (X := fun _ => False) (by rw [hH1]; exact (Upd.refl H).push _) (fun f => f)
  rw [← hH1]
  refine callK_of (c131 d 48 s H1 hc1 hl) ?_
  rintro _ H2 ⟨e, rfl, k1, k2, k3, k4⟩
  (conv => whnf)
  refine callK_of (c79 e _ H2 k4 g1) ?_
  rintro _ H3 ⟨rfl, k5, k6⟩
  (conv => whnf)
  refine callK_of (c79 e _ H3 k6 g2) ?_
  rintro _ H4 ⟨rfl, k7, k8⟩
  have u4 : Upd (fun i => i = d ∨ i = e) H1 H4 := ((k2.mono fun i _ h => .inl h).trans (k5.mono fun i _ h => .inr h)).trans (k7.mono fun i _ h => .inr h)
  have hat : H4[H.length]? = some ⟨24, [.str [], .str []], 0⟩ := by
    rw [u4.2 H.length (by omega) (fun h => by rcases h with h | h <;> omega)]
    exact h0
  have u5 : Upd (· = d) H H4 := u1.over u4 (fun i hi h => by rcases h with h | h; exact h; omega)
  have hc4 : curAt H4 d (elemC 48 s).1 := (k3.keep k5 (fun h => by omega)).keep k7 (fun h => by omega)
  (conv => whnf)
  ((conv in (_[_]?) => tactic => exact hat); (conv => whnf))
  ((conv in (_[_]?) => tactic => exact get_set hat); (conv => whnf))
  exact ⟨rfl, u5.set (.inr (Nat.le_refl _)) _, hc4.set_ne (by omega) _⟩
theorem keyB_range (k : Nat → UInt8) : keyB k = (List.range 32).map k := rfl
end Go.Proofs.Tryz

set_option maxRecDepth 100000
set_option maxHeartbeats 2000000
set_option linter.unusedVariables false
set_option linter.unusedSimpArgs false
namespace Go.Proofs.Tryz
open Go Ps
def D78 : Draw := { imp := [3, 4], win := [(0, 0, 1), (4, 1, 1)] }
theorem keyC_set (x : List UInt8) (m : Nat) (hm : m = min 32 x.length) : setCells 0 ((x.take m).map byteC) (List.replicate 32 (.int .u8 0)) = keyC (keyOf x) := by
  have hl : 0 + ((x.take m).map byteC).length ≤ (List.replicate 32 (PV.int .u8 0)).length := by rw [List.length_map, List.length_take, List.length_replicate]; omega
  rw [keyC_map, keyB_range]
  apply List.ext_getElem?
  intro j
  rw [setCells_get _ _ _ hl, List.length_map, List.length_take, List.getElem?_map, List.getElem?_map, List.getElem?_map]
  by_cases h : j < 32
  · rw [List.getElem?_range h]
    by_cases h2 : j < x.length
    · rw [if_pos (by omega), Nat.sub_zero, List.getElem?_take, if_pos (by omega), List.getElem?_eq_getElem h2]
      show some (byteC x[j]) = some (byteC (x.getD j 0))
      rw [List.getD_eq_getElem?_getD, List.getElem?_eq_getElem h2]; rfl
    · rw [if_neg (by omega), List.getElem?_replicate, if_pos h]
      show some (PV.int .u8 0) = some (byteC (x.getD j 0))
      rw [List.getD_eq_getElem?_getD, List.getElem?_eq_none (by omega)]; rfl
  · rw [if_neg (by omega), List.getElem?_replicate, if_neg h, List.getElem?_eq_none (by rw [List.length_range]; omega)]
    rfl
theorem curStep_at {H : PH} {d : Nat} {o : PObj} (h : H[d]? = some o) (t : UInt8) (s : Option (List UInt8)) (v : Nat) : curAt (H.set d (curStep t s v)) d (elemC t s).1 := by
  unfold curStep
  cases (elemC t s).1 with
  | none => exact ⟨.nilS, v + 2, get_set h, fun l hl => by cases hl⟩
  | some r => exact ⟨sl r, v + 1, get_set h, fun l hl => by cases hl; rfl⟩
theorem c78 (d : Nat) (s : Option (List UInt8)) (H : PH) (hc : curAt H d s) (hl : ∀ l, s = some l → l.length ≤ 140737488355328) :
    CallOk prog 78 [.agg [.ptr (some (d, 0))]] H fun r H' => r = .agg (keyC (keyOf (octC s).2)) ∧ Upd (· = d) H H' ∧ curAt H' d (octC s).1 := by
  have hd := hc.lt
  obtain ⟨y, v, h0, hy⟩ := id hc
  obtain ⟨HA, hHA⟩ : ∃ HA, HA = H ++ [PObj.mk 49 (List.replicate 32 (.int .u8 0)) 0] := ⟨_, rfl⟩
  obtain ⟨H1, hH1⟩ : ∃ H1, H1 = HA ++ [PObj.mk 49 (List.replicate 32 (.int .u8 0)) 1] := ⟨_, rfl⟩
  have hlA : HA.length = H.length + 1 := by rw [hHA]; simp
  have hl1 : H1.length = H.length + 2 := by rw [hH1]; simp [hlA]
  have uA : Upd (· = d) H HA := by rw [hHA]; exact (Upd.refl H).push _
  have u1 : Upd (· = d) H H1 := by rw [hH1]; exact uA.push _
  have hc1 : curAt H1 d s := hc.keep (X := fun _ => False) (by rw [hH1, hHA]; exact ((Upd.refl H).push _).push _) (fun f => f)
  have h1d : H1[d]? = some ⟨230, [y, .bool s.isNone], v⟩ := by
    rw [hH1, List.getElem?_append_left (by omega), hHA, List.getElem?_append_left hd]; exact h0
  obtain ⟨H2, hH2⟩ : ∃ H2, H2 = H1.set d (curStep 4 s v) := ⟨_, rfl⟩
  have hl2 : H2.length = H.length + 2 := by rw [hH2, List.length_set, hl1]
  have h2k : H2[HA.length]? = some ⟨49, List.replicate 32 (.int .u8 0), 1⟩ := by
    rw [hH2, List.getElem?_set_ne (by omega), hH1]; exact get_last _ _
  have h2r : H2[H.length]? = some ⟨49, List.replicate 32 (.int .u8 0), 0⟩ := by
    rw [hH2, List.getElem?_set_ne (by omega), hH1, List.getElem?_append_left (by omega), hHA]; exact get_last _ _
  obtain ⟨H3, hH3⟩ : ∃ H3, H3 = H2.set HA.length ⟨49, keyC (keyOf (octC s).2), 2⟩ := ⟨_, rfl⟩
  have h3k : H3[HA.length]? = some ⟨49, keyC (keyOf (octC s).2), 2⟩ := by rw [hH3]; exact get_set h2k
  have h3r : H3[H.length]? = some ⟨49, List.replicate 32 (.int .u8 0), 0⟩ := by rw [hH3, List.getElem?_set_ne (by omega)]; exact h2r
  (refine callOk_of_pFun2 (tt := ttC) (imm := imm78) follows ttC_ok depth6 func78 (by kernel_rfl) ?_; (conv => whnf))
  ((conv in (_[_]?) => tactic => exact get_last _ _); (conv => whnf))
  refine drawK_of2 D78 [H1, H2, H3] (by kernel_rfl) ?_ trivial ?_
  · rw [hH1, hHA]
    exact (set_last _ _ _).symm
  rw [← hHA]
  (conv => whnf)
  refine ⟨.sref HA.length 0 32 32, ⟨?_, ?_⟩, ?_⟩
  · (conv => whnf)
    exact ⟨⟨by decide, by decide, by decide⟩, fun _ => ⟨rfl, rfl, trivial⟩, fun h => absurd (show (0 : Int) < 32 by decide) h⟩
  · (conv => whnf)
    exact ⟨⟨by decide, by decide, by decide⟩, fun _ => ⟨rfl, rfl, trivial⟩, fun h => absurd (show (0 : Int) < 32 by decide) h⟩
  (conv => whnf)
  (apply Exists.intro; apply And.intro; (focus ((conv => whnf); first | exact ⟨rfl, rfl, trivial⟩ | (refine ⟨by omega, ?_⟩; (conv => whnf); exact ⟨rfl, rfl, trivial⟩))); (conv => whnf))
  (apply Exists.intro; apply And.intro; (focus ((conv => whnf); first | exact ⟨rfl, rfl, trivial⟩ | (refine ⟨by omega, ?_⟩; (conv => whnf); exact ⟨rfl, rfl, trivial⟩))); (conv => whnf))
  refine ⟨_, callK_of (c113 d s H1 hc1 hl) (fun r H' ⟨k1, _, _, k4⟩ => ⟨k1, (k4 _ _ h1d).trans hH2.symm, trivial⟩), ?_⟩
  (conv => whnf)
  apply Exists.intro
  apply And.intro
  · (conv => whnf)
    ((conv in (_[_]?) => tactic => exact h2k); (conv => whnf))
    refine ⟨⟨by rw [List.length_map]; exact (Nat.mul_one _).symm, allOne _, by decide⟩, rfl, ?_, trivial⟩
    show H2.set HA.length ⟨49, setCells 0 (((octC s).2.map byteC).take (min (octC s).2.length 32 * 1)) (List.replicate 32 (.int .u8 0)), 2⟩ = H3
    rw [hH3, Nat.mul_one, ← List.map_take, keyC_set _ _ (Nat.min_comm _ _)]
  (conv => whnf)
  ((conv in (_[_]?) => tactic => exact h3k); (conv => whnf))
  ((conv in (_[_]?) => tactic => exact h3r); (conv => whnf))
  ((conv in (_[_]?) => tactic => exact get_set h3r); (conv => whnf))
  refine ⟨rfl, ?_, ?_⟩
  · have u2 : Upd (· = d) H H2 := by rw [hH2]; exact u1.set (.inl rfl) _
    have u3 : Upd (· = d) H H3 := by rw [hH3]; exact u2.set (.inr (by omega)) _
    exact u3.set (.inr (Nat.le_refl _)) _
  · have k2 : curAt H2 d (octC s).1 := by rw [hH2]; exact curStep_at h1d 4 s v
    have k3 : curAt H3 d (octC s).1 := by rw [hH3]; exact k2.set_ne (by omega) _
    exact k3.set_ne (by omega) _
end Go.Proofs.Tryz
