import Derived.Test.YtbejjlmdmakdfaaDoorA0
set_option linter.all false
set_option maxRecDepth 100000
set_option maxHeartbeats 2000000
set_option linter.unusedVariables false
set_option linter.unusedSimpArgs false
namespace Go.Proofs.Tryd
open Go Ps
theorem c19 (m : Msg) (hm : m.fits) : Pure prog 19 [.agg m.cells] (.bool (isB m)) := by
  intro H
  (refine callOk_of_pFun2 (tt := ttG) (imm := imm19) follows ttG_ok depth6 func19 (by kernel_rfl) ?_; (conv => whnf))
  refine cutK_of [(1, .elem m.cells), (3, .int .i64 m.kind), (4, .bool (noAs m)), (5, .bool (noTgs m))] H ?_ ?_
  rotate_left
  · refine drawK_pure2 (by kernel_rfl) ?_
    (conv => whnf)
    (apply Exists.intro; apply And.intro; (focus ((conv => whnf); first | exact ⟨rfl, rfl, trivial⟩ | (refine ⟨by omega, ?_⟩; (conv => whnf); exact ⟨rfl, rfl, trivial⟩))); (conv => whnf))
    (apply Exists.intro; apply And.intro; (focus ((conv => whnf); first | exact ⟨rfl, rfl, trivial⟩ | (refine ⟨by omega, ?_⟩; (conv => whnf); exact ⟨rfl, rfl, trivial⟩))); (conv => whnf))
    (apply Exists.intro; apply And.intro; (focus ((conv => whnf); first | exact ⟨rfl, rfl, trivial⟩ | (refine ⟨by omega, ?_⟩; (conv => whnf); exact ⟨rfl, rfl, trivial⟩))); (conv => whnf))
    cases f1 : noAs m
    · refine ⟨.bool false, ?_, ?_⟩
      · (conv => whnf)
        refine ⟨⟨fitA _ _ _ _ _ _, fitA [] [] [] [] 0 0⟩, ?_⟩
        (conv => whnf)
        exact ⟨fun h => (of_decide_eq_false f1 (Iff.mp as_eq h)).elim, fun _ => ⟨rfl, rfl, trivial⟩⟩
      (conv => whnf)
      (apply Exists.intro; apply And.intro; (focus ((conv => whnf); first | exact ⟨rfl, rfl, trivial⟩ | (refine ⟨by omega, ?_⟩; (conv => whnf); exact ⟨rfl, rfl, trivial⟩))); (conv => whnf))
      (apply Exists.intro; apply And.intro; (focus ((conv => whnf); first | exact ⟨rfl, rfl, trivial⟩ | (refine ⟨by omega, ?_⟩; (conv => whnf); exact ⟨rfl, rfl, trivial⟩))); (conv => whnf))
      (apply Exists.intro; apply And.intro; (focus ((conv => whnf); first | exact ⟨rfl, rfl, trivial⟩ | (refine ⟨by omega, ?_⟩; (conv => whnf); exact ⟨rfl, rfl, trivial⟩))); (conv => whnf))
      refine ⟨_, callK_pure (c33 m.t1 m.t2 m.tKv m.tB none) ⟨rfl, rfl, trivial⟩, ?_⟩
      (conv => whnf)
      cases f2 : noTk m.t1 m.t2 m.tKv m.tB.length
      · skip
        (apply Exists.intro; apply And.intro; (focus ((conv => whnf); first | exact ⟨rfl, rfl, trivial⟩ | (refine ⟨by omega, ?_⟩; (conv => whnf); exact ⟨rfl, rfl, trivial⟩))); (conv => whnf))
        (apply Exists.intro; apply And.intro; (focus ((conv => whnf); first | exact ⟨rfl, rfl, trivial⟩ | (refine ⟨by omega, ?_⟩; (conv => whnf); exact ⟨rfl, rfl, trivial⟩))); (conv => whnf))
        (apply Exists.intro; apply And.intro; (focus ((conv => whnf); first | exact ⟨rfl, rfl, trivial⟩ | (refine ⟨by omega, ?_⟩; (conv => whnf); exact ⟨rfl, rfl, trivial⟩))); (conv => whnf))
        (apply Exists.intro; apply And.intro; (focus ((conv => whnf); first | exact ⟨rfl, rfl, trivial⟩ | (refine ⟨by omega, ?_⟩; (conv => whnf); exact ⟨rfl, rfl, trivial⟩))); (conv => whnf))
        (apply Exists.intro; apply And.intro; (focus ((conv => whnf); first | exact ⟨rfl, rfl, trivial⟩ | (refine ⟨by omega, ?_⟩; (conv => whnf); exact ⟨rfl, rfl, trivial⟩))); (conv => whnf))
        (apply Exists.intro; apply And.intro; (focus ((conv => whnf); first | exact ⟨rfl, rfl, trivial⟩ | (refine ⟨by omega, ?_⟩; (conv => whnf); exact ⟨rfl, rfl, trivial⟩))); (conv => whnf))
        (apply Exists.intro; apply And.intro; (focus ((conv => whnf); first | exact ⟨rfl, rfl, trivial⟩ | (refine ⟨by omega, ?_⟩; (conv => whnf); exact ⟨rfl, rfl, trivial⟩))); (conv => whnf))
        (apply Exists.intro; apply And.intro; (focus ((conv => whnf); first | exact ⟨rfl, rfl, trivial⟩ | (refine ⟨by omega, ?_⟩; (conv => whnf); exact ⟨rfl, rfl, trivial⟩))); (conv => whnf))
        (apply Exists.intro; apply And.intro; (focus ((conv => whnf); first | exact ⟨rfl, rfl, trivial⟩ | (refine ⟨by omega, ?_⟩; (conv => whnf); exact ⟨rfl, rfl, trivial⟩))); (conv => whnf))
        (apply Exists.intro; apply And.intro; (focus ((conv => whnf); first | exact ⟨rfl, rfl, trivial⟩ | (refine ⟨by omega, ?_⟩; (conv => whnf); exact ⟨rfl, rfl, trivial⟩))); (conv => whnf))
        (apply Exists.intro; apply And.intro; (focus ((conv => whnf); first | exact ⟨rfl, rfl, trivial⟩ | (refine ⟨by omega, ?_⟩; (conv => whnf); exact ⟨rfl, rfl, trivial⟩))); (conv => whnf))
        (apply Exists.intro; apply And.intro; (focus ((conv => whnf); first | exact ⟨rfl, rfl, trivial⟩ | (refine ⟨by omega, ?_⟩; (conv => whnf); exact ⟨rfl, rfl, trivial⟩))); (conv => whnf))
        (apply Exists.intro; apply And.intro; (focus ((conv => whnf); first | exact ⟨rfl, rfl, trivial⟩ | (refine ⟨by omega, ?_⟩; (conv => whnf); exact ⟨rfl, rfl, trivial⟩))); (conv => whnf))
        (apply Exists.intro; apply And.intro; (focus ((conv => whnf); first | exact ⟨rfl, rfl, trivial⟩ | (refine ⟨by omega, ?_⟩; (conv => whnf); exact ⟨rfl, rfl, trivial⟩))); (conv => whnf))
        (apply Exists.intro; apply And.intro; (focus ((conv => whnf); first | exact ⟨rfl, rfl, trivial⟩ | (refine ⟨by omega, ?_⟩; (conv => whnf); exact ⟨rfl, rfl, trivial⟩))); (conv => whnf))
        (apply Exists.intro; apply And.intro; (focus ((conv => whnf); first | exact ⟨rfl, rfl, trivial⟩ | (refine ⟨by omega, ?_⟩; (conv => whnf); exact ⟨rfl, rfl, trivial⟩))); (conv => whnf))
        (apply Exists.intro; apply And.intro; (focus ((conv => whnf); first | exact ⟨rfl, rfl, trivial⟩ | (refine ⟨by omega, ?_⟩; (conv => whnf); exact ⟨rfl, rfl, trivial⟩))); (conv => whnf))
        (apply Exists.intro; apply And.intro; (focus ((conv => whnf); first | exact ⟨rfl, rfl, trivial⟩ | (refine ⟨by omega, ?_⟩; (conv => whnf); exact ⟨rfl, rfl, trivial⟩))); (conv => whnf))
        (apply Exists.intro; apply And.intro; (focus ((conv => whnf); first | exact ⟨rfl, rfl, trivial⟩ | (refine ⟨by omega, ?_⟩; (conv => whnf); exact ⟨rfl, rfl, trivial⟩))); (conv => whnf))
        (apply Exists.intro; apply And.intro; (focus ((conv => whnf); first | exact ⟨rfl, rfl, trivial⟩ | (refine ⟨by omega, ?_⟩; (conv => whnf); exact ⟨rfl, rfl, trivial⟩))); (conv => whnf))
        (apply Exists.intro; apply And.intro; (focus ((conv => whnf); first | exact ⟨rfl, rfl, trivial⟩ | (refine ⟨by omega, ?_⟩; (conv => whnf); exact ⟨rfl, rfl, trivial⟩))); (conv => whnf))
        (apply Exists.intro; apply And.intro; (focus ((conv => whnf); first | exact ⟨rfl, rfl, trivial⟩ | (refine ⟨by omega, ?_⟩; (conv => whnf); exact ⟨rfl, rfl, trivial⟩))); (conv => whnf))
        (apply Exists.intro; apply And.intro; (focus ((conv => whnf); first | exact ⟨rfl, rfl, trivial⟩ | (refine ⟨by omega, ?_⟩; (conv => whnf); exact ⟨rfl, rfl, trivial⟩))); (conv => whnf))
        (apply Exists.intro; apply And.intro; (focus ((conv => whnf); first | exact ⟨rfl, rfl, trivial⟩ | (refine ⟨by omega, ?_⟩; (conv => whnf); exact ⟨rfl, rfl, trivial⟩))); (conv => whnf))
        (apply Exists.intro; apply And.intro; (focus ((conv => whnf); first | exact ⟨rfl, rfl, trivial⟩ | (refine ⟨by omega, ?_⟩; (conv => whnf); exact ⟨rfl, rfl, trivial⟩))); (conv => whnf))
        (apply Exists.intro; apply And.intro; (focus ((conv => whnf); first | exact ⟨rfl, rfl, trivial⟩ | (refine ⟨by omega, ?_⟩; (conv => whnf); exact ⟨rfl, rfl, trivial⟩))); (conv => whnf))
        (apply Exists.intro; apply And.intro; (focus ((conv => whnf); first | exact ⟨rfl, rfl, trivial⟩ | (refine ⟨by omega, ?_⟩; (conv => whnf); exact ⟨rfl, rfl, trivial⟩))); (conv => whnf))
        (apply Exists.intro; apply And.intro; (focus ((conv => whnf); first | exact ⟨rfl, rfl, trivial⟩ | (refine ⟨by omega, ?_⟩; (conv => whnf); exact ⟨rfl, rfl, trivial⟩))); (conv => whnf))
        exact ⟨(), trivial, ⟨rfl, rfl, rfl, congrArg PV.bool (by unfold noTgs; simp only [f2, Bool.and_true, Bool.true_and, Bool.and_false, Bool.false_and]), trivial⟩, rfl⟩
      (apply Exists.intro; apply And.intro; (focus ((conv => whnf); first | exact ⟨rfl, rfl, trivial⟩ | (refine ⟨by omega, ?_⟩; (conv => whnf); exact ⟨rfl, rfl, trivial⟩))); (conv => whnf))
      (apply Exists.intro; apply And.intro; (focus ((conv => whnf); first | exact ⟨rfl, rfl, trivial⟩ | (refine ⟨by omega, ?_⟩; (conv => whnf); exact ⟨rfl, rfl, trivial⟩))); (conv => whnf))
      (apply Exists.intro; apply And.intro; (focus ((conv => whnf); first | exact ⟨rfl, rfl, trivial⟩ | (refine ⟨by omega, ?_⟩; (conv => whnf); exact ⟨rfl, rfl, trivial⟩))); (conv => whnf))
      (apply Exists.intro; apply And.intro; (focus ((conv => whnf); first | exact ⟨rfl, rfl, trivial⟩ | (refine ⟨by omega, ?_⟩; (conv => whnf); exact ⟨rfl, rfl, trivial⟩))); (conv => whnf))
      (apply Exists.intro; apply And.intro; (focus ((conv => whnf); first | exact ⟨rfl, rfl, trivial⟩ | (refine ⟨by omega, ?_⟩; (conv => whnf); exact ⟨rfl, rfl, trivial⟩))); (conv => whnf))
      cases f3 : decide (m.tAu.length = 0)
      · refine ⟨.bool false, ?_, ?_⟩
        · (conv => whnf)
          exact ⟨fun h => (of_decide_eq_false f3 (Iff.mp nat0 h)).elim, fun _ => ⟨rfl, rfl, trivial⟩⟩
        (conv => whnf)
        (apply Exists.intro; apply And.intro; (focus ((conv => whnf); first | exact ⟨rfl, rfl, trivial⟩ | (refine ⟨by omega, ?_⟩; (conv => whnf); exact ⟨rfl, rfl, trivial⟩))); (conv => whnf))
        (apply Exists.intro; apply And.intro; (focus ((conv => whnf); first | exact ⟨rfl, rfl, trivial⟩ | (refine ⟨by omega, ?_⟩; (conv => whnf); exact ⟨rfl, rfl, trivial⟩))); (conv => whnf))
        (apply Exists.intro; apply And.intro; (focus ((conv => whnf); first | exact ⟨rfl, rfl, trivial⟩ | (refine ⟨by omega, ?_⟩; (conv => whnf); exact ⟨rfl, rfl, trivial⟩))); (conv => whnf))
        (apply Exists.intro; apply And.intro; (focus ((conv => whnf); first | exact ⟨rfl, rfl, trivial⟩ | (refine ⟨by omega, ?_⟩; (conv => whnf); exact ⟨rfl, rfl, trivial⟩))); (conv => whnf))
        (apply Exists.intro; apply And.intro; (focus ((conv => whnf); first | exact ⟨rfl, rfl, trivial⟩ | (refine ⟨by omega, ?_⟩; (conv => whnf); exact ⟨rfl, rfl, trivial⟩))); (conv => whnf))
        (apply Exists.intro; apply And.intro; (focus ((conv => whnf); first | exact ⟨rfl, rfl, trivial⟩ | (refine ⟨by omega, ?_⟩; (conv => whnf); exact ⟨rfl, rfl, trivial⟩))); (conv => whnf))
        (apply Exists.intro; apply And.intro; (focus ((conv => whnf); first | exact ⟨rfl, rfl, trivial⟩ | (refine ⟨by omega, ?_⟩; (conv => whnf); exact ⟨rfl, rfl, trivial⟩))); (conv => whnf))
        (apply Exists.intro; apply And.intro; (focus ((conv => whnf); first | exact ⟨rfl, rfl, trivial⟩ | (refine ⟨by omega, ?_⟩; (conv => whnf); exact ⟨rfl, rfl, trivial⟩))); (conv => whnf))
        (apply Exists.intro; apply And.intro; (focus ((conv => whnf); first | exact ⟨rfl, rfl, trivial⟩ | (refine ⟨by omega, ?_⟩; (conv => whnf); exact ⟨rfl, rfl, trivial⟩))); (conv => whnf))
        (apply Exists.intro; apply And.intro; (focus ((conv => whnf); first | exact ⟨rfl, rfl, trivial⟩ | (refine ⟨by omega, ?_⟩; (conv => whnf); exact ⟨rfl, rfl, trivial⟩))); (conv => whnf))
        (apply Exists.intro; apply And.intro; (focus ((conv => whnf); first | exact ⟨rfl, rfl, trivial⟩ | (refine ⟨by omega, ?_⟩; (conv => whnf); exact ⟨rfl, rfl, trivial⟩))); (conv => whnf))
        (apply Exists.intro; apply And.intro; (focus ((conv => whnf); first | exact ⟨rfl, rfl, trivial⟩ | (refine ⟨by omega, ?_⟩; (conv => whnf); exact ⟨rfl, rfl, trivial⟩))); (conv => whnf))
        (apply Exists.intro; apply And.intro; (focus ((conv => whnf); first | exact ⟨rfl, rfl, trivial⟩ | (refine ⟨by omega, ?_⟩; (conv => whnf); exact ⟨rfl, rfl, trivial⟩))); (conv => whnf))
        (apply Exists.intro; apply And.intro; (focus ((conv => whnf); first | exact ⟨rfl, rfl, trivial⟩ | (refine ⟨by omega, ?_⟩; (conv => whnf); exact ⟨rfl, rfl, trivial⟩))); (conv => whnf))
        (apply Exists.intro; apply And.intro; (focus ((conv => whnf); first | exact ⟨rfl, rfl, trivial⟩ | (refine ⟨by omega, ?_⟩; (conv => whnf); exact ⟨rfl, rfl, trivial⟩))); (conv => whnf))
        (apply Exists.intro; apply And.intro; (focus ((conv => whnf); first | exact ⟨rfl, rfl, trivial⟩ | (refine ⟨by omega, ?_⟩; (conv => whnf); exact ⟨rfl, rfl, trivial⟩))); (conv => whnf))
        (apply Exists.intro; apply And.intro; (focus ((conv => whnf); first | exact ⟨rfl, rfl, trivial⟩ | (refine ⟨by omega, ?_⟩; (conv => whnf); exact ⟨rfl, rfl, trivial⟩))); (conv => whnf))
        (apply Exists.intro; apply And.intro; (focus ((conv => whnf); first | exact ⟨rfl, rfl, trivial⟩ | (refine ⟨by omega, ?_⟩; (conv => whnf); exact ⟨rfl, rfl, trivial⟩))); (conv => whnf))
        (apply Exists.intro; apply And.intro; (focus ((conv => whnf); first | exact ⟨rfl, rfl, trivial⟩ | (refine ⟨by omega, ?_⟩; (conv => whnf); exact ⟨rfl, rfl, trivial⟩))); (conv => whnf))
        (apply Exists.intro; apply And.intro; (focus ((conv => whnf); first | exact ⟨rfl, rfl, trivial⟩ | (refine ⟨by omega, ?_⟩; (conv => whnf); exact ⟨rfl, rfl, trivial⟩))); (conv => whnf))
        (apply Exists.intro; apply And.intro; (focus ((conv => whnf); first | exact ⟨rfl, rfl, trivial⟩ | (refine ⟨by omega, ?_⟩; (conv => whnf); exact ⟨rfl, rfl, trivial⟩))); (conv => whnf))
        (apply Exists.intro; apply And.intro; (focus ((conv => whnf); first | exact ⟨rfl, rfl, trivial⟩ | (refine ⟨by omega, ?_⟩; (conv => whnf); exact ⟨rfl, rfl, trivial⟩))); (conv => whnf))
        exact ⟨(), trivial, ⟨rfl, rfl, rfl, congrArg PV.bool (by unfold noTgs; simp only [f2, f3, Bool.and_true, Bool.true_and, Bool.and_false, Bool.false_and]), trivial⟩, rfl⟩
      refine ⟨.bool true, ?_, ?_⟩
      · (conv => whnf)
        exact ⟨fun _ => ⟨rfl, rfl, trivial⟩, fun h => (h (Iff.mpr nat0 (of_decide_eq_true f3))).elim⟩
      (conv => whnf)
      (apply Exists.intro; apply And.intro; (focus ((conv => whnf); first | exact ⟨rfl, rfl, trivial⟩ | (refine ⟨by omega, ?_⟩; (conv => whnf); exact ⟨rfl, rfl, trivial⟩))); (conv => whnf))
      (apply Exists.intro; apply And.intro; (focus ((conv => whnf); first | exact ⟨rfl, rfl, trivial⟩ | (refine ⟨by omega, ?_⟩; (conv => whnf); exact ⟨rfl, rfl, trivial⟩))); (conv => whnf))
      (apply Exists.intro; apply And.intro; (focus ((conv => whnf); first | exact ⟨rfl, rfl, trivial⟩ | (refine ⟨by omega, ?_⟩; (conv => whnf); exact ⟨rfl, rfl, trivial⟩))); (conv => whnf))
      (apply Exists.intro; apply And.intro; (focus ((conv => whnf); first | exact ⟨rfl, rfl, trivial⟩ | (refine ⟨by omega, ?_⟩; (conv => whnf); exact ⟨rfl, rfl, trivial⟩))); (conv => whnf))
      (apply Exists.intro; apply And.intro; (focus ((conv => whnf); first | exact ⟨rfl, rfl, trivial⟩ | (refine ⟨by omega, ?_⟩; (conv => whnf); exact ⟨rfl, rfl, trivial⟩))); (conv => whnf))
      (apply Exists.intro; apply And.intro; (focus ((conv => whnf); first | exact ⟨rfl, rfl, trivial⟩ | (refine ⟨by omega, ?_⟩; (conv => whnf); exact ⟨rfl, rfl, trivial⟩))); (conv => whnf))
      cases f4 : decide (m.t3 = [] ∧ m.t4 = [])
      · refine ⟨.bool false, ?_, ?_⟩
        · (conv => whnf)
          refine ⟨⟨fitG _ _, fitG [] []⟩, ?_⟩
          (conv => whnf)
          exact ⟨fun h => (of_decide_eq_false f4 (Iff.mp pr_eq h)).elim, fun _ => ⟨rfl, rfl, trivial⟩⟩
        (conv => whnf)
        (apply Exists.intro; apply And.intro; (focus ((conv => whnf); first | exact ⟨rfl, rfl, trivial⟩ | (refine ⟨by omega, ?_⟩; (conv => whnf); exact ⟨rfl, rfl, trivial⟩))); (conv => whnf))
        (apply Exists.intro; apply And.intro; (focus ((conv => whnf); first | exact ⟨rfl, rfl, trivial⟩ | (refine ⟨by omega, ?_⟩; (conv => whnf); exact ⟨rfl, rfl, trivial⟩))); (conv => whnf))
        (apply Exists.intro; apply And.intro; (focus ((conv => whnf); first | exact ⟨rfl, rfl, trivial⟩ | (refine ⟨by omega, ?_⟩; (conv => whnf); exact ⟨rfl, rfl, trivial⟩))); (conv => whnf))
        (apply Exists.intro; apply And.intro; (focus ((conv => whnf); first | exact ⟨rfl, rfl, trivial⟩ | (refine ⟨by omega, ?_⟩; (conv => whnf); exact ⟨rfl, rfl, trivial⟩))); (conv => whnf))
        (apply Exists.intro; apply And.intro; (focus ((conv => whnf); first | exact ⟨rfl, rfl, trivial⟩ | (refine ⟨by omega, ?_⟩; (conv => whnf); exact ⟨rfl, rfl, trivial⟩))); (conv => whnf))
        (apply Exists.intro; apply And.intro; (focus ((conv => whnf); first | exact ⟨rfl, rfl, trivial⟩ | (refine ⟨by omega, ?_⟩; (conv => whnf); exact ⟨rfl, rfl, trivial⟩))); (conv => whnf))
        (apply Exists.intro; apply And.intro; (focus ((conv => whnf); first | exact ⟨rfl, rfl, trivial⟩ | (refine ⟨by omega, ?_⟩; (conv => whnf); exact ⟨rfl, rfl, trivial⟩))); (conv => whnf))
        (apply Exists.intro; apply And.intro; (focus ((conv => whnf); first | exact ⟨rfl, rfl, trivial⟩ | (refine ⟨by omega, ?_⟩; (conv => whnf); exact ⟨rfl, rfl, trivial⟩))); (conv => whnf))
        (apply Exists.intro; apply And.intro; (focus ((conv => whnf); first | exact ⟨rfl, rfl, trivial⟩ | (refine ⟨by omega, ?_⟩; (conv => whnf); exact ⟨rfl, rfl, trivial⟩))); (conv => whnf))
        (apply Exists.intro; apply And.intro; (focus ((conv => whnf); first | exact ⟨rfl, rfl, trivial⟩ | (refine ⟨by omega, ?_⟩; (conv => whnf); exact ⟨rfl, rfl, trivial⟩))); (conv => whnf))
        (apply Exists.intro; apply And.intro; (focus ((conv => whnf); first | exact ⟨rfl, rfl, trivial⟩ | (refine ⟨by omega, ?_⟩; (conv => whnf); exact ⟨rfl, rfl, trivial⟩))); (conv => whnf))
        (apply Exists.intro; apply And.intro; (focus ((conv => whnf); first | exact ⟨rfl, rfl, trivial⟩ | (refine ⟨by omega, ?_⟩; (conv => whnf); exact ⟨rfl, rfl, trivial⟩))); (conv => whnf))
        (apply Exists.intro; apply And.intro; (focus ((conv => whnf); first | exact ⟨rfl, rfl, trivial⟩ | (refine ⟨by omega, ?_⟩; (conv => whnf); exact ⟨rfl, rfl, trivial⟩))); (conv => whnf))
        (apply Exists.intro; apply And.intro; (focus ((conv => whnf); first | exact ⟨rfl, rfl, trivial⟩ | (refine ⟨by omega, ?_⟩; (conv => whnf); exact ⟨rfl, rfl, trivial⟩))); (conv => whnf))
        (apply Exists.intro; apply And.intro; (focus ((conv => whnf); first | exact ⟨rfl, rfl, trivial⟩ | (refine ⟨by omega, ?_⟩; (conv => whnf); exact ⟨rfl, rfl, trivial⟩))); (conv => whnf))
        exact ⟨(), trivial, ⟨rfl, rfl, rfl, congrArg PV.bool (by unfold noTgs; simp only [f2, f3, f4, Bool.and_true, Bool.true_and, Bool.and_false, Bool.false_and]), trivial⟩, rfl⟩
      refine ⟨.bool true, ?_, ?_⟩
      · (conv => whnf)
        refine ⟨⟨fitG _ _, fitG [] []⟩, ?_⟩
        (conv => whnf)
        exact ⟨fun _ => ⟨rfl, rfl, trivial⟩, fun h => (h (Iff.mpr pr_eq (of_decide_eq_true f4))).elim⟩
      (conv => whnf)
      (apply Exists.intro; apply And.intro; (focus ((conv => whnf); first | exact ⟨rfl, rfl, trivial⟩ | (refine ⟨by omega, ?_⟩; (conv => whnf); exact ⟨rfl, rfl, trivial⟩))); (conv => whnf))
      (apply Exists.intro; apply And.intro; (focus ((conv => whnf); first | exact ⟨rfl, rfl, trivial⟩ | (refine ⟨by omega, ?_⟩; (conv => whnf); exact ⟨rfl, rfl, trivial⟩))); (conv => whnf))
      (apply Exists.intro; apply And.intro; (focus ((conv => whnf); first | exact ⟨rfl, rfl, trivial⟩ | (refine ⟨by omega, ?_⟩; (conv => whnf); exact ⟨rfl, rfl, trivial⟩))); (conv => whnf))
      (apply Exists.intro; apply And.intro; (focus ((conv => whnf); first | exact ⟨rfl, rfl, trivial⟩ | (refine ⟨by omega, ?_⟩; (conv => whnf); exact ⟨rfl, rfl, trivial⟩))); (conv => whnf))
      (apply Exists.intro; apply And.intro; (focus ((conv => whnf); first | exact ⟨rfl, rfl, trivial⟩ | (refine ⟨by omega, ?_⟩; (conv => whnf); exact ⟨rfl, rfl, trivial⟩))); (conv => whnf))
      cases f5 : decide (m.tTill = 0)
      · refine ⟨.bool false, ?_, ?_⟩
        · (conv => whnf)
          exact ⟨fun h => (of_decide_eq_false f5 (Iff.mp Iff.rfl h)).elim, fun _ => ⟨rfl, rfl, trivial⟩⟩
        (conv => whnf)
        (apply Exists.intro; apply And.intro; (focus ((conv => whnf); first | exact ⟨rfl, rfl, trivial⟩ | (refine ⟨by omega, ?_⟩; (conv => whnf); exact ⟨rfl, rfl, trivial⟩))); (conv => whnf))
        (apply Exists.intro; apply And.intro; (focus ((conv => whnf); first | exact ⟨rfl, rfl, trivial⟩ | (refine ⟨by omega, ?_⟩; (conv => whnf); exact ⟨rfl, rfl, trivial⟩))); (conv => whnf))
        (apply Exists.intro; apply And.intro; (focus ((conv => whnf); first | exact ⟨rfl, rfl, trivial⟩ | (refine ⟨by omega, ?_⟩; (conv => whnf); exact ⟨rfl, rfl, trivial⟩))); (conv => whnf))
        (apply Exists.intro; apply And.intro; (focus ((conv => whnf); first | exact ⟨rfl, rfl, trivial⟩ | (refine ⟨by omega, ?_⟩; (conv => whnf); exact ⟨rfl, rfl, trivial⟩))); (conv => whnf))
        (apply Exists.intro; apply And.intro; (focus ((conv => whnf); first | exact ⟨rfl, rfl, trivial⟩ | (refine ⟨by omega, ?_⟩; (conv => whnf); exact ⟨rfl, rfl, trivial⟩))); (conv => whnf))
        (apply Exists.intro; apply And.intro; (focus ((conv => whnf); first | exact ⟨rfl, rfl, trivial⟩ | (refine ⟨by omega, ?_⟩; (conv => whnf); exact ⟨rfl, rfl, trivial⟩))); (conv => whnf))
        (apply Exists.intro; apply And.intro; (focus ((conv => whnf); first | exact ⟨rfl, rfl, trivial⟩ | (refine ⟨by omega, ?_⟩; (conv => whnf); exact ⟨rfl, rfl, trivial⟩))); (conv => whnf))
        (apply Exists.intro; apply And.intro; (focus ((conv => whnf); first | exact ⟨rfl, rfl, trivial⟩ | (refine ⟨by omega, ?_⟩; (conv => whnf); exact ⟨rfl, rfl, trivial⟩))); (conv => whnf))
        (apply Exists.intro; apply And.intro; (focus ((conv => whnf); first | exact ⟨rfl, rfl, trivial⟩ | (refine ⟨by omega, ?_⟩; (conv => whnf); exact ⟨rfl, rfl, trivial⟩))); (conv => whnf))
        exact ⟨(), trivial, ⟨rfl, rfl, rfl, congrArg PV.bool (by unfold noTgs; simp only [f2, f3, f4, f5, Bool.and_true, Bool.true_and, Bool.and_false, Bool.false_and]), trivial⟩, rfl⟩
      refine ⟨.bool true, ?_, ?_⟩
      · (conv => whnf)
        exact ⟨fun _ => ⟨rfl, rfl, trivial⟩, fun h => (h (Iff.mpr Iff.rfl (of_decide_eq_true f5))).elim⟩
      (conv => whnf)
      (apply Exists.intro; apply And.intro; (focus ((conv => whnf); first | exact ⟨rfl, rfl, trivial⟩ | (refine ⟨by omega, ?_⟩; (conv => whnf); exact ⟨rfl, rfl, trivial⟩))); (conv => whnf))
      (apply Exists.intro; apply And.intro; (focus ((conv => whnf); first | exact ⟨rfl, rfl, trivial⟩ | (refine ⟨by omega, ?_⟩; (conv => whnf); exact ⟨rfl, rfl, trivial⟩))); (conv => whnf))
      (apply Exists.intro; apply And.intro; (focus ((conv => whnf); first | exact ⟨rfl, rfl, trivial⟩ | (refine ⟨by omega, ?_⟩; (conv => whnf); exact ⟨rfl, rfl, trivial⟩))); (conv => whnf))
      (apply Exists.intro; apply And.intro; (focus ((conv => whnf); first | exact ⟨rfl, rfl, trivial⟩ | (refine ⟨by omega, ?_⟩; (conv => whnf); exact ⟨rfl, rfl, trivial⟩))); (conv => whnf))
      (apply Exists.intro; apply And.intro; (focus ((conv => whnf); first | exact ⟨rfl, rfl, trivial⟩ | (refine ⟨by omega, ?_⟩; (conv => whnf); exact ⟨rfl, rfl, trivial⟩))); (conv => whnf))
      cases f6 : decide (m.tNonce = 0)
      · refine ⟨.bool false, ?_, ?_⟩
        · (conv => whnf)
          exact ⟨fun h => (of_decide_eq_false f6 (Iff.mp Iff.rfl h)).elim, fun _ => ⟨rfl, rfl, trivial⟩⟩
        (conv => whnf)
        (apply Exists.intro; apply And.intro; (focus ((conv => whnf); first | exact ⟨rfl, rfl, trivial⟩ | (refine ⟨by omega, ?_⟩; (conv => whnf); exact ⟨rfl, rfl, trivial⟩))); (conv => whnf))
        (apply Exists.intro; apply And.intro; (focus ((conv => whnf); first | exact ⟨rfl, rfl, trivial⟩ | (refine ⟨by omega, ?_⟩; (conv => whnf); exact ⟨rfl, rfl, trivial⟩))); (conv => whnf))
        (apply Exists.intro; apply And.intro; (focus ((conv => whnf); first | exact ⟨rfl, rfl, trivial⟩ | (refine ⟨by omega, ?_⟩; (conv => whnf); exact ⟨rfl, rfl, trivial⟩))); (conv => whnf))
        exact ⟨(), trivial, ⟨rfl, rfl, rfl, congrArg PV.bool (by unfold noTgs; simp only [f2, f3, f4, f5, f6, Bool.and_true, Bool.true_and, Bool.and_false, Bool.false_and]), trivial⟩, rfl⟩
      refine ⟨.bool true, ?_, ?_⟩
      · (conv => whnf)
        exact ⟨fun _ => ⟨rfl, rfl, trivial⟩, fun h => (h (Iff.mpr Iff.rfl (of_decide_eq_true f6))).elim⟩
      (conv => whnf)
      (apply Exists.intro; apply And.intro; (focus ((conv => whnf); first | exact ⟨rfl, rfl, trivial⟩ | (refine ⟨by omega, ?_⟩; (conv => whnf); exact ⟨rfl, rfl, trivial⟩))); (conv => whnf))
      (apply Exists.intro; apply And.intro; (focus ((conv => whnf); first | exact ⟨rfl, rfl, trivial⟩ | (refine ⟨by omega, ?_⟩; (conv => whnf); exact ⟨rfl, rfl, trivial⟩))); (conv => whnf))
      (apply Exists.intro; apply And.intro; (focus ((conv => whnf); first | exact ⟨rfl, rfl, trivial⟩ | (refine ⟨by omega, ?_⟩; (conv => whnf); exact ⟨rfl, rfl, trivial⟩))); (conv => whnf))
      exact ⟨(), trivial, ⟨rfl, rfl, rfl, congrArg PV.bool (by unfold noTgs; simp only [f2, f3, f4, f5, f6, Bool.and_true, Bool.true_and, Bool.and_false, Bool.false_and]), trivial⟩, rfl⟩
    refine ⟨.bool true, ?_, ?_⟩
    · (conv => whnf)
      refine ⟨⟨fitA _ _ _ _ _ _, fitA [] [] [] [] 0 0⟩, ?_⟩
      (conv => whnf)
      exact ⟨fun _ => ⟨rfl, rfl, trivial⟩, fun h => (h (Iff.mpr as_eq (of_decide_eq_true f1))).elim⟩
    (conv => whnf)
    (apply Exists.intro; apply And.intro; (focus ((conv => whnf); first | exact ⟨rfl, rfl, trivial⟩ | (refine ⟨by omega, ?_⟩; (conv => whnf); exact ⟨rfl, rfl, trivial⟩))); (conv => whnf))
    (apply Exists.intro; apply And.intro; (focus ((conv => whnf); first | exact ⟨rfl, rfl, trivial⟩ | (refine ⟨by omega, ?_⟩; (conv => whnf); exact ⟨rfl, rfl, trivial⟩))); (conv => whnf))
    (apply Exists.intro; apply And.intro; (focus ((conv => whnf); first | exact ⟨rfl, rfl, trivial⟩ | (refine ⟨by omega, ?_⟩; (conv => whnf); exact ⟨rfl, rfl, trivial⟩))); (conv => whnf))
    refine ⟨_, callK_pure (c33 m.t1 m.t2 m.tKv m.tB none) ⟨rfl, rfl, trivial⟩, ?_⟩
    (conv => whnf)
    cases f7 : noTk m.t1 m.t2 m.tKv m.tB.length
    · skip
      (apply Exists.intro; apply And.intro; (focus ((conv => whnf); first | exact ⟨rfl, rfl, trivial⟩ | (refine ⟨by omega, ?_⟩; (conv => whnf); exact ⟨rfl, rfl, trivial⟩))); (conv => whnf))
      (apply Exists.intro; apply And.intro; (focus ((conv => whnf); first | exact ⟨rfl, rfl, trivial⟩ | (refine ⟨by omega, ?_⟩; (conv => whnf); exact ⟨rfl, rfl, trivial⟩))); (conv => whnf))
      (apply Exists.intro; apply And.intro; (focus ((conv => whnf); first | exact ⟨rfl, rfl, trivial⟩ | (refine ⟨by omega, ?_⟩; (conv => whnf); exact ⟨rfl, rfl, trivial⟩))); (conv => whnf))
      (apply Exists.intro; apply And.intro; (focus ((conv => whnf); first | exact ⟨rfl, rfl, trivial⟩ | (refine ⟨by omega, ?_⟩; (conv => whnf); exact ⟨rfl, rfl, trivial⟩))); (conv => whnf))
      (apply Exists.intro; apply And.intro; (focus ((conv => whnf); first | exact ⟨rfl, rfl, trivial⟩ | (refine ⟨by omega, ?_⟩; (conv => whnf); exact ⟨rfl, rfl, trivial⟩))); (conv => whnf))
      (apply Exists.intro; apply And.intro; (focus ((conv => whnf); first | exact ⟨rfl, rfl, trivial⟩ | (refine ⟨by omega, ?_⟩; (conv => whnf); exact ⟨rfl, rfl, trivial⟩))); (conv => whnf))
      (apply Exists.intro; apply And.intro; (focus ((conv => whnf); first | exact ⟨rfl, rfl, trivial⟩ | (refine ⟨by omega, ?_⟩; (conv => whnf); exact ⟨rfl, rfl, trivial⟩))); (conv => whnf))
      (apply Exists.intro; apply And.intro; (focus ((conv => whnf); first | exact ⟨rfl, rfl, trivial⟩ | (refine ⟨by omega, ?_⟩; (conv => whnf); exact ⟨rfl, rfl, trivial⟩))); (conv => whnf))
      (apply Exists.intro; apply And.intro; (focus ((conv => whnf); first | exact ⟨rfl, rfl, trivial⟩ | (refine ⟨by omega, ?_⟩; (conv => whnf); exact ⟨rfl, rfl, trivial⟩))); (conv => whnf))
      (apply Exists.intro; apply And.intro; (focus ((conv => whnf); first | exact ⟨rfl, rfl, trivial⟩ | (refine ⟨by omega, ?_⟩; (conv => whnf); exact ⟨rfl, rfl, trivial⟩))); (conv => whnf))
      (apply Exists.intro; apply And.intro; (focus ((conv => whnf); first | exact ⟨rfl, rfl, trivial⟩ | (refine ⟨by omega, ?_⟩; (conv => whnf); exact ⟨rfl, rfl, trivial⟩))); (conv => whnf))
      (apply Exists.intro; apply And.intro; (focus ((conv => whnf); first | exact ⟨rfl, rfl, trivial⟩ | (refine ⟨by omega, ?_⟩; (conv => whnf); exact ⟨rfl, rfl, trivial⟩))); (conv => whnf))
      (apply Exists.intro; apply And.intro; (focus ((conv => whnf); first | exact ⟨rfl, rfl, trivial⟩ | (refine ⟨by omega, ?_⟩; (conv => whnf); exact ⟨rfl, rfl, trivial⟩))); (conv => whnf))
      (apply Exists.intro; apply And.intro; (focus ((conv => whnf); first | exact ⟨rfl, rfl, trivial⟩ | (refine ⟨by omega, ?_⟩; (conv => whnf); exact ⟨rfl, rfl, trivial⟩))); (conv => whnf))
      (apply Exists.intro; apply And.intro; (focus ((conv => whnf); first | exact ⟨rfl, rfl, trivial⟩ | (refine ⟨by omega, ?_⟩; (conv => whnf); exact ⟨rfl, rfl, trivial⟩))); (conv => whnf))
      (apply Exists.intro; apply And.intro; (focus ((conv => whnf); first | exact ⟨rfl, rfl, trivial⟩ | (refine ⟨by omega, ?_⟩; (conv => whnf); exact ⟨rfl, rfl, trivial⟩))); (conv => whnf))
      (apply Exists.intro; apply And.intro; (focus ((conv => whnf); first | exact ⟨rfl, rfl, trivial⟩ | (refine ⟨by omega, ?_⟩; (conv => whnf); exact ⟨rfl, rfl, trivial⟩))); (conv => whnf))
      (apply Exists.intro; apply And.intro; (focus ((conv => whnf); first | exact ⟨rfl, rfl, trivial⟩ | (refine ⟨by omega, ?_⟩; (conv => whnf); exact ⟨rfl, rfl, trivial⟩))); (conv => whnf))
      (apply Exists.intro; apply And.intro; (focus ((conv => whnf); first | exact ⟨rfl, rfl, trivial⟩ | (refine ⟨by omega, ?_⟩; (conv => whnf); exact ⟨rfl, rfl, trivial⟩))); (conv => whnf))
      (apply Exists.intro; apply And.intro; (focus ((conv => whnf); first | exact ⟨rfl, rfl, trivial⟩ | (refine ⟨by omega, ?_⟩; (conv => whnf); exact ⟨rfl, rfl, trivial⟩))); (conv => whnf))
      (apply Exists.intro; apply And.intro; (focus ((conv => whnf); first | exact ⟨rfl, rfl, trivial⟩ | (refine ⟨by omega, ?_⟩; (conv => whnf); exact ⟨rfl, rfl, trivial⟩))); (conv => whnf))
      (apply Exists.intro; apply And.intro; (focus ((conv => whnf); first | exact ⟨rfl, rfl, trivial⟩ | (refine ⟨by omega, ?_⟩; (conv => whnf); exact ⟨rfl, rfl, trivial⟩))); (conv => whnf))
      (apply Exists.intro; apply And.intro; (focus ((conv => whnf); first | exact ⟨rfl, rfl, trivial⟩ | (refine ⟨by omega, ?_⟩; (conv => whnf); exact ⟨rfl, rfl, trivial⟩))); (conv => whnf))
      (apply Exists.intro; apply And.intro; (focus ((conv => whnf); first | exact ⟨rfl, rfl, trivial⟩ | (refine ⟨by omega, ?_⟩; (conv => whnf); exact ⟨rfl, rfl, trivial⟩))); (conv => whnf))
      (apply Exists.intro; apply And.intro; (focus ((conv => whnf); first | exact ⟨rfl, rfl, trivial⟩ | (refine ⟨by omega, ?_⟩; (conv => whnf); exact ⟨rfl, rfl, trivial⟩))); (conv => whnf))
      (apply Exists.intro; apply And.intro; (focus ((conv => whnf); first | exact ⟨rfl, rfl, trivial⟩ | (refine ⟨by omega, ?_⟩; (conv => whnf); exact ⟨rfl, rfl, trivial⟩))); (conv => whnf))
      (apply Exists.intro; apply And.intro; (focus ((conv => whnf); first | exact ⟨rfl, rfl, trivial⟩ | (refine ⟨by omega, ?_⟩; (conv => whnf); exact ⟨rfl, rfl, trivial⟩))); (conv => whnf))
      (apply Exists.intro; apply And.intro; (focus ((conv => whnf); first | exact ⟨rfl, rfl, trivial⟩ | (refine ⟨by omega, ?_⟩; (conv => whnf); exact ⟨rfl, rfl, trivial⟩))); (conv => whnf))
      exact ⟨(), trivial, ⟨rfl, rfl, rfl, congrArg PV.bool (by unfold noTgs; simp only [f7, Bool.and_true, Bool.true_and, Bool.and_false, Bool.false_and]), trivial⟩, rfl⟩
    (apply Exists.intro; apply And.intro; (focus ((conv => whnf); first | exact ⟨rfl, rfl, trivial⟩ | (refine ⟨by omega, ?_⟩; (conv => whnf); exact ⟨rfl, rfl, trivial⟩))); (conv => whnf))
    (apply Exists.intro; apply And.intro; (focus ((conv => whnf); first | exact ⟨rfl, rfl, trivial⟩ | (refine ⟨by omega, ?_⟩; (conv => whnf); exact ⟨rfl, rfl, trivial⟩))); (conv => whnf))
    (apply Exists.intro; apply And.intro; (focus ((conv => whnf); first | exact ⟨rfl, rfl, trivial⟩ | (refine ⟨by omega, ?_⟩; (conv => whnf); exact ⟨rfl, rfl, trivial⟩))); (conv => whnf))
    (apply Exists.intro; apply And.intro; (focus ((conv => whnf); first | exact ⟨rfl, rfl, trivial⟩ | (refine ⟨by omega, ?_⟩; (conv => whnf); exact ⟨rfl, rfl, trivial⟩))); (conv => whnf))
    (apply Exists.intro; apply And.intro; (focus ((conv => whnf); first | exact ⟨rfl, rfl, trivial⟩ | (refine ⟨by omega, ?_⟩; (conv => whnf); exact ⟨rfl, rfl, trivial⟩))); (conv => whnf))
    cases f8 : decide (m.tAu.length = 0)
    · refine ⟨.bool false, ?_, ?_⟩
      · (conv => whnf)
        exact ⟨fun h => (of_decide_eq_false f8 (Iff.mp nat0 h)).elim, fun _ => ⟨rfl, rfl, trivial⟩⟩
      (conv => whnf)
      (apply Exists.intro; apply And.intro; (focus ((conv => whnf); first | exact ⟨rfl, rfl, trivial⟩ | (refine ⟨by omega, ?_⟩; (conv => whnf); exact ⟨rfl, rfl, trivial⟩))); (conv => whnf))
      (apply Exists.intro; apply And.intro; (focus ((conv => whnf); first | exact ⟨rfl, rfl, trivial⟩ | (refine ⟨by omega, ?_⟩; (conv => whnf); exact ⟨rfl, rfl, trivial⟩))); (conv => whnf))
      (apply Exists.intro; apply And.intro; (focus ((conv => whnf); first | exact ⟨rfl, rfl, trivial⟩ | (refine ⟨by omega, ?_⟩; (conv => whnf); exact ⟨rfl, rfl, trivial⟩))); (conv => whnf))
      (apply Exists.intro; apply And.intro; (focus ((conv => whnf); first | exact ⟨rfl, rfl, trivial⟩ | (refine ⟨by omega, ?_⟩; (conv => whnf); exact ⟨rfl, rfl, trivial⟩))); (conv => whnf))
      (apply Exists.intro; apply And.intro; (focus ((conv => whnf); first | exact ⟨rfl, rfl, trivial⟩ | (refine ⟨by omega, ?_⟩; (conv => whnf); exact ⟨rfl, rfl, trivial⟩))); (conv => whnf))
      (apply Exists.intro; apply And.intro; (focus ((conv => whnf); first | exact ⟨rfl, rfl, trivial⟩ | (refine ⟨by omega, ?_⟩; (conv => whnf); exact ⟨rfl, rfl, trivial⟩))); (conv => whnf))
      (apply Exists.intro; apply And.intro; (focus ((conv => whnf); first | exact ⟨rfl, rfl, trivial⟩ | (refine ⟨by omega, ?_⟩; (conv => whnf); exact ⟨rfl, rfl, trivial⟩))); (conv => whnf))
      (apply Exists.intro; apply And.intro; (focus ((conv => whnf); first | exact ⟨rfl, rfl, trivial⟩ | (refine ⟨by omega, ?_⟩; (conv => whnf); exact ⟨rfl, rfl, trivial⟩))); (conv => whnf))
      (apply Exists.intro; apply And.intro; (focus ((conv => whnf); first | exact ⟨rfl, rfl, trivial⟩ | (refine ⟨by omega, ?_⟩; (conv => whnf); exact ⟨rfl, rfl, trivial⟩))); (conv => whnf))
      (apply Exists.intro; apply And.intro; (focus ((conv => whnf); first | exact ⟨rfl, rfl, trivial⟩ | (refine ⟨by omega, ?_⟩; (conv => whnf); exact ⟨rfl, rfl, trivial⟩))); (conv => whnf))
      (apply Exists.intro; apply And.intro; (focus ((conv => whnf); first | exact ⟨rfl, rfl, trivial⟩ | (refine ⟨by omega, ?_⟩; (conv => whnf); exact ⟨rfl, rfl, trivial⟩))); (conv => whnf))
      (apply Exists.intro; apply And.intro; (focus ((conv => whnf); first | exact ⟨rfl, rfl, trivial⟩ | (refine ⟨by omega, ?_⟩; (conv => whnf); exact ⟨rfl, rfl, trivial⟩))); (conv => whnf))
      (apply Exists.intro; apply And.intro; (focus ((conv => whnf); first | exact ⟨rfl, rfl, trivial⟩ | (refine ⟨by omega, ?_⟩; (conv => whnf); exact ⟨rfl, rfl, trivial⟩))); (conv => whnf))
      (apply Exists.intro; apply And.intro; (focus ((conv => whnf); first | exact ⟨rfl, rfl, trivial⟩ | (refine ⟨by omega, ?_⟩; (conv => whnf); exact ⟨rfl, rfl, trivial⟩))); (conv => whnf))
      (apply Exists.intro; apply And.intro; (focus ((conv => whnf); first | exact ⟨rfl, rfl, trivial⟩ | (refine ⟨by omega, ?_⟩; (conv => whnf); exact ⟨rfl, rfl, trivial⟩))); (conv => whnf))
      (apply Exists.intro; apply And.intro; (focus ((conv => whnf); first | exact ⟨rfl, rfl, trivial⟩ | (refine ⟨by omega, ?_⟩; (conv => whnf); exact ⟨rfl, rfl, trivial⟩))); (conv => whnf))
      (apply Exists.intro; apply And.intro; (focus ((conv => whnf); first | exact ⟨rfl, rfl, trivial⟩ | (refine ⟨by omega, ?_⟩; (conv => whnf); exact ⟨rfl, rfl, trivial⟩))); (conv => whnf))
      (apply Exists.intro; apply And.intro; (focus ((conv => whnf); first | exact ⟨rfl, rfl, trivial⟩ | (refine ⟨by omega, ?_⟩; (conv => whnf); exact ⟨rfl, rfl, trivial⟩))); (conv => whnf))
      (apply Exists.intro; apply And.intro; (focus ((conv => whnf); first | exact ⟨rfl, rfl, trivial⟩ | (refine ⟨by omega, ?_⟩; (conv => whnf); exact ⟨rfl, rfl, trivial⟩))); (conv => whnf))
      (apply Exists.intro; apply And.intro; (focus ((conv => whnf); first | exact ⟨rfl, rfl, trivial⟩ | (refine ⟨by omega, ?_⟩; (conv => whnf); exact ⟨rfl, rfl, trivial⟩))); (conv => whnf))
      (apply Exists.intro; apply And.intro; (focus ((conv => whnf); first | exact ⟨rfl, rfl, trivial⟩ | (refine ⟨by omega, ?_⟩; (conv => whnf); exact ⟨rfl, rfl, trivial⟩))); (conv => whnf))
      (apply Exists.intro; apply And.intro; (focus ((conv => whnf); first | exact ⟨rfl, rfl, trivial⟩ | (refine ⟨by omega, ?_⟩; (conv => whnf); exact ⟨rfl, rfl, trivial⟩))); (conv => whnf))
      exact ⟨(), trivial, ⟨rfl, rfl, rfl, congrArg PV.bool (by unfold noTgs; simp only [f7, f8, Bool.and_true, Bool.true_and, Bool.and_false, Bool.false_and]), trivial⟩, rfl⟩
    refine ⟨.bool true, ?_, ?_⟩
    · (conv => whnf)
      exact ⟨fun _ => ⟨rfl, rfl, trivial⟩, fun h => (h (Iff.mpr nat0 (of_decide_eq_true f8))).elim⟩
    (conv => whnf)
    (apply Exists.intro; apply And.intro; (focus ((conv => whnf); first | exact ⟨rfl, rfl, trivial⟩ | (refine ⟨by omega, ?_⟩; (conv => whnf); exact ⟨rfl, rfl, trivial⟩))); (conv => whnf))
    (apply Exists.intro; apply And.intro; (focus ((conv => whnf); first | exact ⟨rfl, rfl, trivial⟩ | (refine ⟨by omega, ?_⟩; (conv => whnf); exact ⟨rfl, rfl, trivial⟩))); (conv => whnf))
    (apply Exists.intro; apply And.intro; (focus ((conv => whnf); first | exact ⟨rfl, rfl, trivial⟩ | (refine ⟨by omega, ?_⟩; (conv => whnf); exact ⟨rfl, rfl, trivial⟩))); (conv => whnf))
    (apply Exists.intro; apply And.intro; (focus ((conv => whnf); first | exact ⟨rfl, rfl, trivial⟩ | (refine ⟨by omega, ?_⟩; (conv => whnf); exact ⟨rfl, rfl, trivial⟩))); (conv => whnf))
    (apply Exists.intro; apply And.intro; (focus ((conv => whnf); first | exact ⟨rfl, rfl, trivial⟩ | (refine ⟨by omega, ?_⟩; (conv => whnf); exact ⟨rfl, rfl, trivial⟩))); (conv => whnf))
    (apply Exists.intro; apply And.intro; (focus ((conv => whnf); first | exact ⟨rfl, rfl, trivial⟩ | (refine ⟨by omega, ?_⟩; (conv => whnf); exact ⟨rfl, rfl, trivial⟩))); (conv => whnf))
    cases f9 : decide (m.t3 = [] ∧ m.t4 = [])
    · refine ⟨.bool false, ?_, ?_⟩
      · (conv => whnf)
        refine ⟨⟨fitG _ _, fitG [] []⟩, ?_⟩
        (conv => whnf)
        exact ⟨fun h => (of_decide_eq_false f9 (Iff.mp pr_eq h)).elim, fun _ => ⟨rfl, rfl, trivial⟩⟩
      (conv => whnf)
      (apply Exists.intro; apply And.intro; (focus ((conv => whnf); first | exact ⟨rfl, rfl, trivial⟩ | (refine ⟨by omega, ?_⟩; (conv => whnf); exact ⟨rfl, rfl, trivial⟩))); (conv => whnf))
      (apply Exists.intro; apply And.intro; (focus ((conv => whnf); first | exact ⟨rfl, rfl, trivial⟩ | (refine ⟨by omega, ?_⟩; (conv => whnf); exact ⟨rfl, rfl, trivial⟩))); (conv => whnf))
      (apply Exists.intro; apply And.intro; (focus ((conv => whnf); first | exact ⟨rfl, rfl, trivial⟩ | (refine ⟨by omega, ?_⟩; (conv => whnf); exact ⟨rfl, rfl, trivial⟩))); (conv => whnf))
      (apply Exists.intro; apply And.intro; (focus ((conv => whnf); first | exact ⟨rfl, rfl, trivial⟩ | (refine ⟨by omega, ?_⟩; (conv => whnf); exact ⟨rfl, rfl, trivial⟩))); (conv => whnf))
      (apply Exists.intro; apply And.intro; (focus ((conv => whnf); first | exact ⟨rfl, rfl, trivial⟩ | (refine ⟨by omega, ?_⟩; (conv => whnf); exact ⟨rfl, rfl, trivial⟩))); (conv => whnf))
      (apply Exists.intro; apply And.intro; (focus ((conv => whnf); first | exact ⟨rfl, rfl, trivial⟩ | (refine ⟨by omega, ?_⟩; (conv => whnf); exact ⟨rfl, rfl, trivial⟩))); (conv => whnf))
      (apply Exists.intro; apply And.intro; (focus ((conv => whnf); first | exact ⟨rfl, rfl, trivial⟩ | (refine ⟨by omega, ?_⟩; (conv => whnf); exact ⟨rfl, rfl, trivial⟩))); (conv => whnf))
      (apply Exists.intro; apply And.intro; (focus ((conv => whnf); first | exact ⟨rfl, rfl, trivial⟩ | (refine ⟨by omega, ?_⟩; (conv => whnf); exact ⟨rfl, rfl, trivial⟩))); (conv => whnf))
      (apply Exists.intro; apply And.intro; (focus ((conv => whnf); first | exact ⟨rfl, rfl, trivial⟩ | (refine ⟨by omega, ?_⟩; (conv => whnf); exact ⟨rfl, rfl, trivial⟩))); (conv => whnf))
      (apply Exists.intro; apply And.intro; (focus ((conv => whnf); first | exact ⟨rfl, rfl, trivial⟩ | (refine ⟨by omega, ?_⟩; (conv => whnf); exact ⟨rfl, rfl, trivial⟩))); (conv => whnf))
      (apply Exists.intro; apply And.intro; (focus ((conv => whnf); first | exact ⟨rfl, rfl, trivial⟩ | (refine ⟨by omega, ?_⟩; (conv => whnf); exact ⟨rfl, rfl, trivial⟩))); (conv => whnf))
      (apply Exists.intro; apply And.intro; (focus ((conv => whnf); first | exact ⟨rfl, rfl, trivial⟩ | (refine ⟨by omega, ?_⟩; (conv => whnf); exact ⟨rfl, rfl, trivial⟩))); (conv => whnf))
      (apply Exists.intro; apply And.intro; (focus ((conv => whnf); first | exact ⟨rfl, rfl, trivial⟩ | (refine ⟨by omega, ?_⟩; (conv => whnf); exact ⟨rfl, rfl, trivial⟩))); (conv => whnf))
      (apply Exists.intro; apply And.intro; (focus ((conv => whnf); first | exact ⟨rfl, rfl, trivial⟩ | (refine ⟨by omega, ?_⟩; (conv => whnf); exact ⟨rfl, rfl, trivial⟩))); (conv => whnf))
      (apply Exists.intro; apply And.intro; (focus ((conv => whnf); first | exact ⟨rfl, rfl, trivial⟩ | (refine ⟨by omega, ?_⟩; (conv => whnf); exact ⟨rfl, rfl, trivial⟩))); (conv => whnf))
      exact ⟨(), trivial, ⟨rfl, rfl, rfl, congrArg PV.bool (by unfold noTgs; simp only [f7, f8, f9, Bool.and_true, Bool.true_and, Bool.and_false, Bool.false_and]), trivial⟩, rfl⟩
    refine ⟨.bool true, ?_, ?_⟩
    · (conv => whnf)
      refine ⟨⟨fitG _ _, fitG [] []⟩, ?_⟩
      (conv => whnf)
      exact ⟨fun _ => ⟨rfl, rfl, trivial⟩, fun h => (h (Iff.mpr pr_eq (of_decide_eq_true f9))).elim⟩
    (conv => whnf)
    (apply Exists.intro; apply And.intro; (focus ((conv => whnf); first | exact ⟨rfl, rfl, trivial⟩ | (refine ⟨by omega, ?_⟩; (conv => whnf); exact ⟨rfl, rfl, trivial⟩))); (conv => whnf))
    (apply Exists.intro; apply And.intro; (focus ((conv => whnf); first | exact ⟨rfl, rfl, trivial⟩ | (refine ⟨by omega, ?_⟩; (conv => whnf); exact ⟨rfl, rfl, trivial⟩))); (conv => whnf))
    (apply Exists.intro; apply And.intro; (focus ((conv => whnf); first | exact ⟨rfl, rfl, trivial⟩ | (refine ⟨by omega, ?_⟩; (conv => whnf); exact ⟨rfl, rfl, trivial⟩))); (conv => whnf))
    (apply Exists.intro; apply And.intro; (focus ((conv => whnf); first | exact ⟨rfl, rfl, trivial⟩ | (refine ⟨by omega, ?_⟩; (conv => whnf); exact ⟨rfl, rfl, trivial⟩))); (conv => whnf))
    (apply Exists.intro; apply And.intro; (focus ((conv => whnf); first | exact ⟨rfl, rfl, trivial⟩ | (refine ⟨by omega, ?_⟩; (conv => whnf); exact ⟨rfl, rfl, trivial⟩))); (conv => whnf))
    cases f10 : decide (m.tTill = 0)
    · refine ⟨.bool false, ?_, ?_⟩
      · (conv => whnf)
        exact ⟨fun h => (of_decide_eq_false f10 (Iff.mp Iff.rfl h)).elim, fun _ => ⟨rfl, rfl, trivial⟩⟩
      (conv => whnf)
      (apply Exists.intro; apply And.intro; (focus ((conv => whnf); first | exact ⟨rfl, rfl, trivial⟩ | (refine ⟨by omega, ?_⟩; (conv => whnf); exact ⟨rfl, rfl, trivial⟩))); (conv => whnf))
      (apply Exists.intro; apply And.intro; (focus ((conv => whnf); first | exact ⟨rfl, rfl, trivial⟩ | (refine ⟨by omega, ?_⟩; (conv => whnf); exact ⟨rfl, rfl, trivial⟩))); (conv => whnf))
      (apply Exists.intro; apply And.intro; (focus ((conv => whnf); first | exact ⟨rfl, rfl, trivial⟩ | (refine ⟨by omega, ?_⟩; (conv => whnf); exact ⟨rfl, rfl, trivial⟩))); (conv => whnf))
      (apply Exists.intro; apply And.intro; (focus ((conv => whnf); first | exact ⟨rfl, rfl, trivial⟩ | (refine ⟨by omega, ?_⟩; (conv => whnf); exact ⟨rfl, rfl, trivial⟩))); (conv => whnf))
      (apply Exists.intro; apply And.intro; (focus ((conv => whnf); first | exact ⟨rfl, rfl, trivial⟩ | (refine ⟨by omega, ?_⟩; (conv => whnf); exact ⟨rfl, rfl, trivial⟩))); (conv => whnf))
      (apply Exists.intro; apply And.intro; (focus ((conv => whnf); first | exact ⟨rfl, rfl, trivial⟩ | (refine ⟨by omega, ?_⟩; (conv => whnf); exact ⟨rfl, rfl, trivial⟩))); (conv => whnf))
      (apply Exists.intro; apply And.intro; (focus ((conv => whnf); first | exact ⟨rfl, rfl, trivial⟩ | (refine ⟨by omega, ?_⟩; (conv => whnf); exact ⟨rfl, rfl, trivial⟩))); (conv => whnf))
      (apply Exists.intro; apply And.intro; (focus ((conv => whnf); first | exact ⟨rfl, rfl, trivial⟩ | (refine ⟨by omega, ?_⟩; (conv => whnf); exact ⟨rfl, rfl, trivial⟩))); (conv => whnf))
      (apply Exists.intro; apply And.intro; (focus ((conv => whnf); first | exact ⟨rfl, rfl, trivial⟩ | (refine ⟨by omega, ?_⟩; (conv => whnf); exact ⟨rfl, rfl, trivial⟩))); (conv => whnf))
      exact ⟨(), trivial, ⟨rfl, rfl, rfl, congrArg PV.bool (by unfold noTgs; simp only [f7, f8, f9, f10, Bool.and_true, Bool.true_and, Bool.and_false, Bool.false_and]), trivial⟩, rfl⟩
    refine ⟨.bool true, ?_, ?_⟩
    · (conv => whnf)
      exact ⟨fun _ => ⟨rfl, rfl, trivial⟩, fun h => (h (Iff.mpr Iff.rfl (of_decide_eq_true f10))).elim⟩
    (conv => whnf)
    (apply Exists.intro; apply And.intro; (focus ((conv => whnf); first | exact ⟨rfl, rfl, trivial⟩ | (refine ⟨by omega, ?_⟩; (conv => whnf); exact ⟨rfl, rfl, trivial⟩))); (conv => whnf))
    (apply Exists.intro; apply And.intro; (focus ((conv => whnf); first | exact ⟨rfl, rfl, trivial⟩ | (refine ⟨by omega, ?_⟩; (conv => whnf); exact ⟨rfl, rfl, trivial⟩))); (conv => whnf))
    (apply Exists.intro; apply And.intro; (focus ((conv => whnf); first | exact ⟨rfl, rfl, trivial⟩ | (refine ⟨by omega, ?_⟩; (conv => whnf); exact ⟨rfl, rfl, trivial⟩))); (conv => whnf))
    (apply Exists.intro; apply And.intro; (focus ((conv => whnf); first | exact ⟨rfl, rfl, trivial⟩ | (refine ⟨by omega, ?_⟩; (conv => whnf); exact ⟨rfl, rfl, trivial⟩))); (conv => whnf))
    (apply Exists.intro; apply And.intro; (focus ((conv => whnf); first | exact ⟨rfl, rfl, trivial⟩ | (refine ⟨by omega, ?_⟩; (conv => whnf); exact ⟨rfl, rfl, trivial⟩))); (conv => whnf))
    cases f11 : decide (m.tNonce = 0)
    · refine ⟨.bool false, ?_, ?_⟩
      · (conv => whnf)
        exact ⟨fun h => (of_decide_eq_false f11 (Iff.mp Iff.rfl h)).elim, fun _ => ⟨rfl, rfl, trivial⟩⟩
      (conv => whnf)
      (apply Exists.intro; apply And.intro; (focus ((conv => whnf); first | exact ⟨rfl, rfl, trivial⟩ | (refine ⟨by omega, ?_⟩; (conv => whnf); exact ⟨rfl, rfl, trivial⟩))); (conv => whnf))
      (apply Exists.intro; apply And.intro; (focus ((conv => whnf); first | exact ⟨rfl, rfl, trivial⟩ | (refine ⟨by omega, ?_⟩; (conv => whnf); exact ⟨rfl, rfl, trivial⟩))); (conv => whnf))
      (apply Exists.intro; apply And.intro; (focus ((conv => whnf); first | exact ⟨rfl, rfl, trivial⟩ | (refine ⟨by omega, ?_⟩; (conv => whnf); exact ⟨rfl, rfl, trivial⟩))); (conv => whnf))
      exact ⟨(), trivial, ⟨rfl, rfl, rfl, congrArg PV.bool (by unfold noTgs; simp only [f7, f8, f9, f10, f11, Bool.and_true, Bool.true_and, Bool.and_false, Bool.false_and]), trivial⟩, rfl⟩
    refine ⟨.bool true, ?_, ?_⟩
    · (conv => whnf)
      exact ⟨fun _ => ⟨rfl, rfl, trivial⟩, fun h => (h (Iff.mpr Iff.rfl (of_decide_eq_true f11))).elim⟩
    (conv => whnf)
    (apply Exists.intro; apply And.intro; (focus ((conv => whnf); first | exact ⟨rfl, rfl, trivial⟩ | (refine ⟨by omega, ?_⟩; (conv => whnf); exact ⟨rfl, rfl, trivial⟩))); (conv => whnf))
    (apply Exists.intro; apply And.intro; (focus ((conv => whnf); first | exact ⟨rfl, rfl, trivial⟩ | (refine ⟨by omega, ?_⟩; (conv => whnf); exact ⟨rfl, rfl, trivial⟩))); (conv => whnf))
    (apply Exists.intro; apply And.intro; (focus ((conv => whnf); first | exact ⟨rfl, rfl, trivial⟩ | (refine ⟨by omega, ?_⟩; (conv => whnf); exact ⟨rfl, rfl, trivial⟩))); (conv => whnf))
    exact ⟨(), trivial, ⟨rfl, rfl, rfl, congrArg PV.bool (by unfold noTgs; simp only [f7, f8, f9, f10, f11, Bool.and_true, Bool.true_and, Bool.and_false, Bool.false_and]), trivial⟩, rfl⟩
  (conv => whnf)
  refine cutK_of [(1, .elem m.cells), (3, .int .i64 m.kind), (4, .bool (noAs m)), (5, .bool (noTgs m)), (6, .bool (noRep m))] H ?_ ?_
  rotate_left
  · (conv => whnf)
    refine ⟨⟨fitG _ _, fitG [] []⟩, ?_⟩
    (conv => whnf)
    refine ⟨fun h => ?_, fun h => ?_⟩
    rotate_left
    · have f12 : decide (m.r1 = [] ∧ m.r2 = []) = false := decide_eq_false fun hh => h (Iff.mpr pr_eq hh)
      (conv => whnf)
      exact ⟨(), trivial, ⟨rfl, rfl, rfl, rfl, congrArg PV.bool (by unfold noRep; simp only [f12, Bool.and_true, Bool.true_and, Bool.and_false, Bool.false_and]), trivial⟩, rfl⟩
    have f12 : decide (m.r1 = [] ∧ m.r2 = []) = true := decide_eq_true (Iff.mp pr_eq h)
    (conv => whnf)
    refine callK_pure (c33 m.r3 m.r4 m.rKv m.rB none) ?_
    cases f13 : noTk m.r3 m.r4 m.rKv m.rB.length
    · (conv => whnf)
      exact ⟨(), trivial, ⟨rfl, rfl, rfl, rfl, congrArg PV.bool (by unfold noRep; simp only [f12, f13, Bool.and_true, Bool.true_and, Bool.and_false, Bool.false_and]), trivial⟩, rfl⟩
    (conv => whnf)
    refine ⟨fun h => ?_, fun h => ?_⟩
    rotate_left
    · have f14 : decide (m.rBl.length = 0) = false := decide_eq_false fun hh => h (Iff.mpr nat0 hh)
      (conv => whnf)
      exact ⟨(), trivial, ⟨rfl, rfl, rfl, rfl, congrArg PV.bool (by unfold noRep; simp only [f12, f13, f14, Bool.and_true, Bool.true_and, Bool.and_false, Bool.false_and]), trivial⟩, rfl⟩
    have f14 : decide (m.rBl.length = 0) = true := decide_eq_true (Iff.mp nat0 h)
    (conv => whnf)
    exact ⟨(), trivial, ⟨rfl, rfl, rfl, rfl, congrArg PV.bool (by unfold noRep; simp only [f12, f13, f14, Bool.and_true, Bool.true_and, Bool.and_false, Bool.false_and]), trivial⟩, rfl⟩
  (conv => whnf)
  refine cutK_of [(1, .elem m.cells), (3, .int .i64 m.kind), (4, .bool (noAs m)), (5, .bool (noTgs m)), (6, .bool (noRep m)), (7, .bool (noAp m)), (8, .bool (noFail m))] H ?_ ?_
  rotate_left
  · refine drawK_pure2 (by kernel_rfl) ?_
    (conv => whnf)
    (apply Exists.intro; apply And.intro; (focus ((conv => whnf); first | exact ⟨rfl, rfl, trivial⟩ | (refine ⟨by omega, ?_⟩; (conv => whnf); exact ⟨rfl, rfl, trivial⟩))); (conv => whnf))
    (apply Exists.intro; apply And.intro; (focus ((conv => whnf); first | exact ⟨rfl, rfl, trivial⟩ | (refine ⟨by omega, ?_⟩; (conv => whnf); exact ⟨rfl, rfl, trivial⟩))); (conv => whnf))
    (apply Exists.intro; apply And.intro; (focus ((conv => whnf); first | exact ⟨rfl, rfl, trivial⟩ | (refine ⟨by omega, ?_⟩; (conv => whnf); exact ⟨rfl, rfl, trivial⟩))); (conv => whnf))
    refine ⟨_, callK_pure (c33 m.p1 m.p2 m.pKv m.pB none) ⟨rfl, rfl, trivial⟩, ?_⟩
    (conv => whnf)
    cases f15 : noTk m.p1 m.p2 m.pKv m.pB.length
    · skip
      (apply Exists.intro; apply And.intro; (focus ((conv => whnf); first | exact ⟨rfl, rfl, trivial⟩ | (refine ⟨by omega, ?_⟩; (conv => whnf); exact ⟨rfl, rfl, trivial⟩))); (conv => whnf))
      (apply Exists.intro; apply And.intro; (focus ((conv => whnf); first | exact ⟨rfl, rfl, trivial⟩ | (refine ⟨by omega, ?_⟩; (conv => whnf); exact ⟨rfl, rfl, trivial⟩))); (conv => whnf))
      (apply Exists.intro; apply And.intro; (focus ((conv => whnf); first | exact ⟨rfl, rfl, trivial⟩ | (refine ⟨by omega, ?_⟩; (conv => whnf); exact ⟨rfl, rfl, trivial⟩))); (conv => whnf))
      (apply Exists.intro; apply And.intro; (focus ((conv => whnf); first | exact ⟨rfl, rfl, trivial⟩ | (refine ⟨by omega, ?_⟩; (conv => whnf); exact ⟨rfl, rfl, trivial⟩))); (conv => whnf))
      (apply Exists.intro; apply And.intro; (focus ((conv => whnf); first | exact ⟨rfl, rfl, trivial⟩ | (refine ⟨by omega, ?_⟩; (conv => whnf); exact ⟨rfl, rfl, trivial⟩))); (conv => whnf))
      (apply Exists.intro; apply And.intro; (focus ((conv => whnf); first | exact ⟨rfl, rfl, trivial⟩ | (refine ⟨by omega, ?_⟩; (conv => whnf); exact ⟨rfl, rfl, trivial⟩))); (conv => whnf))
      (apply Exists.intro; apply And.intro; (focus ((conv => whnf); first | exact ⟨rfl, rfl, trivial⟩ | (refine ⟨by omega, ?_⟩; (conv => whnf); exact ⟨rfl, rfl, trivial⟩))); (conv => whnf))
      (apply Exists.intro; apply And.intro; (focus ((conv => whnf); first | exact ⟨rfl, rfl, trivial⟩ | (refine ⟨by omega, ?_⟩; (conv => whnf); exact ⟨rfl, rfl, trivial⟩))); (conv => whnf))
      (apply Exists.intro; apply And.intro; (focus ((conv => whnf); first | exact ⟨rfl, rfl, trivial⟩ | (refine ⟨by omega, ?_⟩; (conv => whnf); exact ⟨rfl, rfl, trivial⟩))); (conv => whnf))
      (apply Exists.intro; apply And.intro; (focus ((conv => whnf); first | exact ⟨rfl, rfl, trivial⟩ | (refine ⟨by omega, ?_⟩; (conv => whnf); exact ⟨rfl, rfl, trivial⟩))); (conv => whnf))
      cases f16 : decide (m.fErr = 0 ∧ m.fNonce = 0)
      · refine ⟨.bool false, ?_, ?_⟩
        · (conv => whnf)
          refine ⟨⟨fitF _ _, fitF 0 0⟩, ?_⟩
          (conv => whnf)
          exact ⟨fun h => (of_decide_eq_false f16 (Iff.mp fl_eq h)).elim, fun _ => ⟨rfl, rfl, trivial⟩⟩
        (conv => whnf)
        (apply Exists.intro; apply And.intro; (focus ((conv => whnf); first | exact ⟨rfl, rfl, trivial⟩ | (refine ⟨by omega, ?_⟩; (conv => whnf); exact ⟨rfl, rfl, trivial⟩))); (conv => whnf))
        (apply Exists.intro; apply And.intro; (focus ((conv => whnf); first | exact ⟨rfl, rfl, trivial⟩ | (refine ⟨by omega, ?_⟩; (conv => whnf); exact ⟨rfl, rfl, trivial⟩))); (conv => whnf))
        exact ⟨(), trivial, ⟨rfl, rfl, rfl, rfl, rfl, congrArg PV.bool (by unfold noAp; simp only [f15, Bool.and_true, Bool.true_and, Bool.and_false, Bool.false_and]), congrArg PV.bool f16.symm, trivial⟩, rfl⟩
      refine ⟨.bool true, ?_, ?_⟩
      · (conv => whnf)
        refine ⟨⟨fitF _ _, fitF 0 0⟩, ?_⟩
        (conv => whnf)
        exact ⟨fun _ => ⟨rfl, rfl, trivial⟩, fun h => (h (Iff.mpr fl_eq (of_decide_eq_true f16))).elim⟩
      (conv => whnf)
      (apply Exists.intro; apply And.intro; (focus ((conv => whnf); first | exact ⟨rfl, rfl, trivial⟩ | (refine ⟨by omega, ?_⟩; (conv => whnf); exact ⟨rfl, rfl, trivial⟩))); (conv => whnf))
      (apply Exists.intro; apply And.intro; (focus ((conv => whnf); first | exact ⟨rfl, rfl, trivial⟩ | (refine ⟨by omega, ?_⟩; (conv => whnf); exact ⟨rfl, rfl, trivial⟩))); (conv => whnf))
      exact ⟨(), trivial, ⟨rfl, rfl, rfl, rfl, rfl, congrArg PV.bool (by unfold noAp; simp only [f15, Bool.and_true, Bool.true_and, Bool.and_false, Bool.false_and]), congrArg PV.bool f16.symm, trivial⟩, rfl⟩
    (apply Exists.intro; apply And.intro; (focus ((conv => whnf); first | exact ⟨rfl, rfl, trivial⟩ | (refine ⟨by omega, ?_⟩; (conv => whnf); exact ⟨rfl, rfl, trivial⟩))); (conv => whnf))
    (apply Exists.intro; apply And.intro; (focus ((conv => whnf); first | exact ⟨rfl, rfl, trivial⟩ | (refine ⟨by omega, ?_⟩; (conv => whnf); exact ⟨rfl, rfl, trivial⟩))); (conv => whnf))
    (apply Exists.intro; apply And.intro; (focus ((conv => whnf); first | exact ⟨rfl, rfl, trivial⟩ | (refine ⟨by omega, ?_⟩; (conv => whnf); exact ⟨rfl, rfl, trivial⟩))); (conv => whnf))
    (apply Exists.intro; apply And.intro; (focus ((conv => whnf); first | exact ⟨rfl, rfl, trivial⟩ | (refine ⟨by omega, ?_⟩; (conv => whnf); exact ⟨rfl, rfl, trivial⟩))); (conv => whnf))
    (apply Exists.intro; apply And.intro; (focus ((conv => whnf); first | exact ⟨rfl, rfl, trivial⟩ | (refine ⟨by omega, ?_⟩; (conv => whnf); exact ⟨rfl, rfl, trivial⟩))); (conv => whnf))
    cases f17 : decide (m.pAu.length = 0)
    · refine ⟨.bool false, ?_, ?_⟩
      · (conv => whnf)
        exact ⟨fun h => (of_decide_eq_false f17 (Iff.mp nat0 h)).elim, fun _ => ⟨rfl, rfl, trivial⟩⟩
      (conv => whnf)
      (apply Exists.intro; apply And.intro; (focus ((conv => whnf); first | exact ⟨rfl, rfl, trivial⟩ | (refine ⟨by omega, ?_⟩; (conv => whnf); exact ⟨rfl, rfl, trivial⟩))); (conv => whnf))
      (apply Exists.intro; apply And.intro; (focus ((conv => whnf); first | exact ⟨rfl, rfl, trivial⟩ | (refine ⟨by omega, ?_⟩; (conv => whnf); exact ⟨rfl, rfl, trivial⟩))); (conv => whnf))
      (apply Exists.intro; apply And.intro; (focus ((conv => whnf); first | exact ⟨rfl, rfl, trivial⟩ | (refine ⟨by omega, ?_⟩; (conv => whnf); exact ⟨rfl, rfl, trivial⟩))); (conv => whnf))
      (apply Exists.intro; apply And.intro; (focus ((conv => whnf); first | exact ⟨rfl, rfl, trivial⟩ | (refine ⟨by omega, ?_⟩; (conv => whnf); exact ⟨rfl, rfl, trivial⟩))); (conv => whnf))
      cases f18 : decide (m.fErr = 0 ∧ m.fNonce = 0)
      · refine ⟨.bool false, ?_, ?_⟩
        · (conv => whnf)
          refine ⟨⟨fitF _ _, fitF 0 0⟩, ?_⟩
          (conv => whnf)
          exact ⟨fun h => (of_decide_eq_false f18 (Iff.mp fl_eq h)).elim, fun _ => ⟨rfl, rfl, trivial⟩⟩
        (conv => whnf)
        (apply Exists.intro; apply And.intro; (focus ((conv => whnf); first | exact ⟨rfl, rfl, trivial⟩ | (refine ⟨by omega, ?_⟩; (conv => whnf); exact ⟨rfl, rfl, trivial⟩))); (conv => whnf))
        (apply Exists.intro; apply And.intro; (focus ((conv => whnf); first | exact ⟨rfl, rfl, trivial⟩ | (refine ⟨by omega, ?_⟩; (conv => whnf); exact ⟨rfl, rfl, trivial⟩))); (conv => whnf))
        exact ⟨(), trivial, ⟨rfl, rfl, rfl, rfl, rfl, congrArg PV.bool (by unfold noAp; simp only [f15, f17, Bool.and_true, Bool.true_and, Bool.and_false, Bool.false_and]), congrArg PV.bool f18.symm, trivial⟩, rfl⟩
      refine ⟨.bool true, ?_, ?_⟩
      · (conv => whnf)
        refine ⟨⟨fitF _ _, fitF 0 0⟩, ?_⟩
        (conv => whnf)
        exact ⟨fun _ => ⟨rfl, rfl, trivial⟩, fun h => (h (Iff.mpr fl_eq (of_decide_eq_true f18))).elim⟩
      (conv => whnf)
      (apply Exists.intro; apply And.intro; (focus ((conv => whnf); first | exact ⟨rfl, rfl, trivial⟩ | (refine ⟨by omega, ?_⟩; (conv => whnf); exact ⟨rfl, rfl, trivial⟩))); (conv => whnf))
      (apply Exists.intro; apply And.intro; (focus ((conv => whnf); first | exact ⟨rfl, rfl, trivial⟩ | (refine ⟨by omega, ?_⟩; (conv => whnf); exact ⟨rfl, rfl, trivial⟩))); (conv => whnf))
      exact ⟨(), trivial, ⟨rfl, rfl, rfl, rfl, rfl, congrArg PV.bool (by unfold noAp; simp only [f15, f17, Bool.and_true, Bool.true_and, Bool.and_false, Bool.false_and]), congrArg PV.bool f18.symm, trivial⟩, rfl⟩
    refine ⟨.bool true, ?_, ?_⟩
    · (conv => whnf)
      exact ⟨fun _ => ⟨rfl, rfl, trivial⟩, fun h => (h (Iff.mpr nat0 (of_decide_eq_true f17))).elim⟩
    (conv => whnf)
    (apply Exists.intro; apply And.intro; (focus ((conv => whnf); first | exact ⟨rfl, rfl, trivial⟩ | (refine ⟨by omega, ?_⟩; (conv => whnf); exact ⟨rfl, rfl, trivial⟩))); (conv => whnf))
    (apply Exists.intro; apply And.intro; (focus ((conv => whnf); first | exact ⟨rfl, rfl, trivial⟩ | (refine ⟨by omega, ?_⟩; (conv => whnf); exact ⟨rfl, rfl, trivial⟩))); (conv => whnf))
    (apply Exists.intro; apply And.intro; (focus ((conv => whnf); first | exact ⟨rfl, rfl, trivial⟩ | (refine ⟨by omega, ?_⟩; (conv => whnf); exact ⟨rfl, rfl, trivial⟩))); (conv => whnf))
    (apply Exists.intro; apply And.intro; (focus ((conv => whnf); first | exact ⟨rfl, rfl, trivial⟩ | (refine ⟨by omega, ?_⟩; (conv => whnf); exact ⟨rfl, rfl, trivial⟩))); (conv => whnf))
    cases f19 : decide (m.fErr = 0 ∧ m.fNonce = 0)
    · refine ⟨.bool false, ?_, ?_⟩
      · (conv => whnf)
        refine ⟨⟨fitF _ _, fitF 0 0⟩, ?_⟩
        (conv => whnf)
        exact ⟨fun h => (of_decide_eq_false f19 (Iff.mp fl_eq h)).elim, fun _ => ⟨rfl, rfl, trivial⟩⟩
      (conv => whnf)
      (apply Exists.intro; apply And.intro; (focus ((conv => whnf); first | exact ⟨rfl, rfl, trivial⟩ | (refine ⟨by omega, ?_⟩; (conv => whnf); exact ⟨rfl, rfl, trivial⟩))); (conv => whnf))
      (apply Exists.intro; apply And.intro; (focus ((conv => whnf); first | exact ⟨rfl, rfl, trivial⟩ | (refine ⟨by omega, ?_⟩; (conv => whnf); exact ⟨rfl, rfl, trivial⟩))); (conv => whnf))
      exact ⟨(), trivial, ⟨rfl, rfl, rfl, rfl, rfl, congrArg PV.bool (by unfold noAp; simp only [f15, f17, Bool.and_true, Bool.true_and, Bool.and_false, Bool.false_and]), congrArg PV.bool f19.symm, trivial⟩, rfl⟩
    refine ⟨.bool true, ?_, ?_⟩
    · (conv => whnf)
      refine ⟨⟨fitF _ _, fitF 0 0⟩, ?_⟩
      (conv => whnf)
      exact ⟨fun _ => ⟨rfl, rfl, trivial⟩, fun h => (h (Iff.mpr fl_eq (of_decide_eq_true f19))).elim⟩
    (conv => whnf)
    (apply Exists.intro; apply And.intro; (focus ((conv => whnf); first | exact ⟨rfl, rfl, trivial⟩ | (refine ⟨by omega, ?_⟩; (conv => whnf); exact ⟨rfl, rfl, trivial⟩))); (conv => whnf))
    (apply Exists.intro; apply And.intro; (focus ((conv => whnf); first | exact ⟨rfl, rfl, trivial⟩ | (refine ⟨by omega, ?_⟩; (conv => whnf); exact ⟨rfl, rfl, trivial⟩))); (conv => whnf))
    exact ⟨(), trivial, ⟨rfl, rfl, rfl, rfl, rfl, congrArg PV.bool (by unfold noAp; simp only [f15, f17, Bool.and_true, Bool.true_and, Bool.and_false, Bool.false_and]), congrArg PV.bool f19.symm, trivial⟩, rfl⟩
  (conv => whnf)
  by_cases h1 : m.kind = 1
  · have hk := h1
    have n2 : ¬ m.kind = 2 := by omega
    have n3 : ¬ m.kind = 3 := by omega
    have n4 : ¬ m.kind = 4 := by omega
    have n5 : ¬ m.kind = 5 := by omega
    have e1 : decide (m.kind = 1) = true := decide_eq_true hk
    have e2 : decide (m.kind = 2) = false := decide_eq_false n2
    have e3 : decide (m.kind = 3) = false := decide_eq_false n3
    have e4 : decide (m.kind = 4) = false := decide_eq_false n4
    have e5 : decide (m.kind = 5) = false := decide_eq_false n5
    refine ⟨fun h => ?_, fun h => ?_⟩
    rotate_left
    · exact (h hk).elim
    (conv => whnf)
    refine callK_pure (c34 m hm) ?_
    cases f20 : asB m
    · (conv => whnf)
      exact ⟨congrArg PV.bool (by unfold isB othersB; rw [if_pos hk]; show _ = (asB m && _); simp only [e1, e2, e3, e4, e5, f20, Bool.and_true, Bool.true_and, Bool.and_false, Bool.false_and, Bool.or_false, Bool.false_or, Bool.true_or, Bool.or_true]), rfl⟩
    (conv => whnf)
    cases f21 : noTgs m
    · (conv => whnf)
      exact ⟨congrArg PV.bool (by unfold isB othersB; rw [if_pos hk]; show _ = (asB m && _); simp only [e1, e2, e3, e4, e5, f20, f21, Bool.and_true, Bool.true_and, Bool.and_false, Bool.false_and, Bool.or_false, Bool.false_or, Bool.true_or, Bool.or_true]), rfl⟩
    (conv => whnf)
    cases f22 : noRep m
    · (conv => whnf)
      exact ⟨congrArg PV.bool (by unfold isB othersB; rw [if_pos hk]; show _ = (asB m && _); simp only [e1, e2, e3, e4, e5, f20, f21, f22, Bool.and_true, Bool.true_and, Bool.and_false, Bool.false_and, Bool.or_false, Bool.false_or, Bool.true_or, Bool.or_true]), rfl⟩
    (conv => whnf)
    cases f23 : noAp m
    · (conv => whnf)
      exact ⟨congrArg PV.bool (by unfold isB othersB; rw [if_pos hk]; show _ = (asB m && _); simp only [e1, e2, e3, e4, e5, f20, f21, f22, f23, Bool.and_true, Bool.true_and, Bool.and_false, Bool.false_and, Bool.or_false, Bool.false_or, Bool.true_or, Bool.or_true]), rfl⟩
    (conv => whnf)
    cases f24 : noFail m
    · (conv => whnf)
      exact ⟨congrArg PV.bool (by unfold isB othersB; rw [if_pos hk]; show _ = (asB m && _); simp only [e1, e2, e3, e4, e5, f20, f21, f22, f23, f24, Bool.and_true, Bool.true_and, Bool.and_false, Bool.false_and, Bool.or_false, Bool.false_or, Bool.true_or, Bool.or_true]), rfl⟩
    (conv => whnf)
    exact ⟨congrArg PV.bool (by unfold isB othersB; rw [if_pos hk]; show _ = (asB m && _); simp only [e1, e2, e3, e4, e5, f20, f21, f22, f23, f24, Bool.and_true, Bool.true_and, Bool.and_false, Bool.false_and, Bool.or_false, Bool.false_or, Bool.true_or, Bool.or_true]), rfl⟩
  by_cases h2 : m.kind = 2
  · have hk := h2
    have n1 : ¬ m.kind = 1 := by omega
    have n3 : ¬ m.kind = 3 := by omega
    have n4 : ¬ m.kind = 4 := by omega
    have n5 : ¬ m.kind = 5 := by omega
    have e1 : decide (m.kind = 1) = false := decide_eq_false n1
    have e2 : decide (m.kind = 2) = true := decide_eq_true hk
    have e3 : decide (m.kind = 3) = false := decide_eq_false n3
    have e4 : decide (m.kind = 4) = false := decide_eq_false n4
    have e5 : decide (m.kind = 5) = false := decide_eq_false n5
    refine ⟨fun h => ?_, fun h => ?_⟩
    · exact (n1 h).elim
    (conv => whnf)
    refine ⟨fun h => ?_, fun h => ?_⟩
    rotate_left
    · exact (h hk).elim
    (conv => whnf)
    refine callK_pure ((c35 m.d hm).of_eq (show PV.bool (tgsB m.d) = .bool (tgsB m) from rfl)) ?_
    cases f25 : tgsB m
    · (conv => whnf)
      exact ⟨congrArg PV.bool (by unfold isB othersB; rw [if_neg n1]; rw [if_pos hk]; show _ = (tgsB m && _); simp only [e1, e2, e3, e4, e5, f25, Bool.and_true, Bool.true_and, Bool.and_false, Bool.false_and, Bool.or_false, Bool.false_or, Bool.true_or, Bool.or_true]), rfl⟩
    (conv => whnf)
    cases f26 : noAs m
    · (conv => whnf)
      exact ⟨congrArg PV.bool (by unfold isB othersB; rw [if_neg n1]; rw [if_pos hk]; show _ = (tgsB m && _); simp only [e1, e2, e3, e4, e5, f25, f26, Bool.and_true, Bool.true_and, Bool.and_false, Bool.false_and, Bool.or_false, Bool.false_or, Bool.true_or, Bool.or_true]), rfl⟩
    (conv => whnf)
    cases f27 : noRep m
    · (conv => whnf)
      exact ⟨congrArg PV.bool (by unfold isB othersB; rw [if_neg n1]; rw [if_pos hk]; show _ = (tgsB m && _); simp only [e1, e2, e3, e4, e5, f25, f26, f27, Bool.and_true, Bool.true_and, Bool.and_false, Bool.false_and, Bool.or_false, Bool.false_or, Bool.true_or, Bool.or_true]), rfl⟩
    (conv => whnf)
    cases f28 : noAp m
    · (conv => whnf)
      exact ⟨congrArg PV.bool (by unfold isB othersB; rw [if_neg n1]; rw [if_pos hk]; show _ = (tgsB m && _); simp only [e1, e2, e3, e4, e5, f25, f26, f27, f28, Bool.and_true, Bool.true_and, Bool.and_false, Bool.false_and, Bool.or_false, Bool.false_or, Bool.true_or, Bool.or_true]), rfl⟩
    (conv => whnf)
    cases f29 : noFail m
    · (conv => whnf)
      exact ⟨congrArg PV.bool (by unfold isB othersB; rw [if_neg n1]; rw [if_pos hk]; show _ = (tgsB m && _); simp only [e1, e2, e3, e4, e5, f25, f26, f27, f28, f29, Bool.and_true, Bool.true_and, Bool.and_false, Bool.false_and, Bool.or_false, Bool.false_or, Bool.true_or, Bool.or_true]), rfl⟩
    (conv => whnf)
    exact ⟨congrArg PV.bool (by unfold isB othersB; rw [if_neg n1]; rw [if_pos hk]; show _ = (tgsB m && _); simp only [e1, e2, e3, e4, e5, f25, f26, f27, f28, f29, Bool.and_true, Bool.true_and, Bool.and_false, Bool.false_and, Bool.or_false, Bool.false_or, Bool.true_or, Bool.or_true]), rfl⟩
  by_cases h3 : m.kind = 3
  · have hk := h3
    have n1 : ¬ m.kind = 1 := by omega
    have n2 : ¬ m.kind = 2 := by omega
    have n4 : ¬ m.kind = 4 := by omega
    have n5 : ¬ m.kind = 5 := by omega
    have e1 : decide (m.kind = 1) = false := decide_eq_false n1
    have e2 : decide (m.kind = 2) = false := decide_eq_false n2
    have e3 : decide (m.kind = 3) = true := decide_eq_true hk
    have e4 : decide (m.kind = 4) = false := decide_eq_false n4
    have e5 : decide (m.kind = 5) = false := decide_eq_false n5
    refine ⟨fun h => ?_, fun h => ?_⟩
    · exact (n1 h).elim
    (conv => whnf)
    refine ⟨fun h => ?_, fun h => ?_⟩
    · exact (n2 h).elim
    (conv => whnf)
    refine ⟨fun h => ?_, fun h => ?_⟩
    rotate_left
    · exact (h hk).elim
    (conv => whnf)
    refine callK_pure (c12 m.r1 m.r2 (by have := hm.2.2.2.2.2.2.2.2.1; omega) (by have := hm.2.2.2.2.2.2.2.2.2.1; omega)) ?_
    cases f30 : isPrincB m.r1 m.r2
    · (conv => whnf)
      exact ⟨congrArg PV.bool (by unfold isB othersB; rw [if_neg n1]; rw [if_neg n2]; rw [if_pos hk]; simp only [e1, e2, e3, e4, e5, f30, Bool.and_true, Bool.true_and, Bool.and_false, Bool.false_and, Bool.or_false, Bool.false_or, Bool.true_or, Bool.or_true]), rfl⟩
    (conv => whnf)
    refine callK_pure (c36 m.r3 m.r4 m.rKv m.rB none (by have := hm.2.2.2.2.2.2.2.2.2.2.1; omega) (by have := hm.2.2.2.2.2.2.2.2.2.2.2.1; omega)) ?_
    cases f31 : tickB m.r3 m.r4 m.rKv m.rB.length
    · (conv => whnf)
      exact ⟨congrArg PV.bool (by unfold isB othersB; rw [if_neg n1]; rw [if_neg n2]; rw [if_pos hk]; simp only [e1, e2, e3, e4, e5, f30, f31, Bool.and_true, Bool.true_and, Bool.and_false, Bool.false_and, Bool.or_false, Bool.false_or, Bool.true_or, Bool.or_true]), rfl⟩
    (conv => whnf)
    refine callK_pure (c37 m.rBl.length _ _) ?_
    cases f32 : inZ m.rBl.length 1 800
    · (conv => whnf)
      exact ⟨congrArg PV.bool (by unfold isB othersB; rw [if_neg n1]; rw [if_neg n2]; rw [if_pos hk]; simp only [e1, e2, e3, e4, e5, f30, f31, f32, Bool.and_true, Bool.true_and, Bool.and_false, Bool.false_and, Bool.or_false, Bool.false_or, Bool.true_or, Bool.or_true]), rfl⟩
    (conv => whnf)
    cases f33 : noAs m
    · (conv => whnf)
      exact ⟨congrArg PV.bool (by unfold isB othersB; rw [if_neg n1]; rw [if_neg n2]; rw [if_pos hk]; simp only [e1, e2, e3, e4, e5, f30, f31, f32, f33, Bool.and_true, Bool.true_and, Bool.and_false, Bool.false_and, Bool.or_false, Bool.false_or, Bool.true_or, Bool.or_true]), rfl⟩
    (conv => whnf)
    cases f34 : noTgs m
    · (conv => whnf)
      exact ⟨congrArg PV.bool (by unfold isB othersB; rw [if_neg n1]; rw [if_neg n2]; rw [if_pos hk]; simp only [e1, e2, e3, e4, e5, f30, f31, f32, f33, f34, Bool.and_true, Bool.true_and, Bool.and_false, Bool.false_and, Bool.or_false, Bool.false_or, Bool.true_or, Bool.or_true]), rfl⟩
    (conv => whnf)
    cases f35 : noAp m
    · (conv => whnf)
      exact ⟨congrArg PV.bool (by unfold isB othersB; rw [if_neg n1]; rw [if_neg n2]; rw [if_pos hk]; simp only [e1, e2, e3, e4, e5, f30, f31, f32, f33, f34, f35, Bool.and_true, Bool.true_and, Bool.and_false, Bool.false_and, Bool.or_false, Bool.false_or, Bool.true_or, Bool.or_true]), rfl⟩
    (conv => whnf)
    cases f36 : noFail m
    · (conv => whnf)
      exact ⟨congrArg PV.bool (by unfold isB othersB; rw [if_neg n1]; rw [if_neg n2]; rw [if_pos hk]; simp only [e1, e2, e3, e4, e5, f30, f31, f32, f33, f34, f35, f36, Bool.and_true, Bool.true_and, Bool.and_false, Bool.false_and, Bool.or_false, Bool.false_or, Bool.true_or, Bool.or_true]), rfl⟩
    (conv => whnf)
    exact ⟨congrArg PV.bool (by unfold isB othersB; rw [if_neg n1]; rw [if_neg n2]; rw [if_pos hk]; simp only [e1, e2, e3, e4, e5, f30, f31, f32, f33, f34, f35, f36, Bool.and_true, Bool.true_and, Bool.and_false, Bool.false_and, Bool.or_false, Bool.false_or, Bool.true_or, Bool.or_true]), rfl⟩
  by_cases h4 : m.kind = 4
  · have hk := h4
    have n1 : ¬ m.kind = 1 := by omega
    have n2 : ¬ m.kind = 2 := by omega
    have n3 : ¬ m.kind = 3 := by omega
    have n5 : ¬ m.kind = 5 := by omega
    have e1 : decide (m.kind = 1) = false := decide_eq_false n1
    have e2 : decide (m.kind = 2) = false := decide_eq_false n2
    have e3 : decide (m.kind = 3) = false := decide_eq_false n3
    have e4 : decide (m.kind = 4) = true := decide_eq_true hk
    have e5 : decide (m.kind = 5) = false := decide_eq_false n5
    refine ⟨fun h => ?_, fun h => ?_⟩
    · exact (n1 h).elim
    (conv => whnf)
    refine ⟨fun h => ?_, fun h => ?_⟩
    · exact (n2 h).elim
    (conv => whnf)
    refine ⟨fun h => ?_, fun h => ?_⟩
    · exact (n3 h).elim
    (conv => whnf)
    refine ⟨fun h => ?_, fun h => ?_⟩
    rotate_left
    · exact (h hk).elim
    (conv => whnf)
    refine callK_pure (c36 m.p1 m.p2 m.pKv m.pB none (by have := hm.2.2.2.2.2.2.2.2.2.2.2.2.1; omega) (by have := hm.2.2.2.2.2.2.2.2.2.2.2.2.2; omega)) ?_
    cases f37 : tickB m.p1 m.p2 m.pKv m.pB.length
    · (conv => whnf)
      exact ⟨congrArg PV.bool (by unfold isB othersB; rw [if_neg n1]; rw [if_neg n2]; rw [if_neg n3]; rw [if_pos hk]; simp only [e1, e2, e3, e4, e5, f37, Bool.and_true, Bool.true_and, Bool.and_false, Bool.false_and, Bool.or_false, Bool.false_or, Bool.true_or, Bool.or_true]), rfl⟩
    (conv => whnf)
    refine callK_pure (c37 m.pAu.length _ _) ?_
    cases f38 : inZ m.pAu.length 1 800
    · (conv => whnf)
      exact ⟨congrArg PV.bool (by unfold isB othersB; rw [if_neg n1]; rw [if_neg n2]; rw [if_neg n3]; rw [if_pos hk]; simp only [e1, e2, e3, e4, e5, f37, f38, Bool.and_true, Bool.true_and, Bool.and_false, Bool.false_and, Bool.or_false, Bool.false_or, Bool.true_or, Bool.or_true]), rfl⟩
    (conv => whnf)
    cases f39 : noAs m
    · (conv => whnf)
      exact ⟨congrArg PV.bool (by unfold isB othersB; rw [if_neg n1]; rw [if_neg n2]; rw [if_neg n3]; rw [if_pos hk]; simp only [e1, e2, e3, e4, e5, f37, f38, f39, Bool.and_true, Bool.true_and, Bool.and_false, Bool.false_and, Bool.or_false, Bool.false_or, Bool.true_or, Bool.or_true]), rfl⟩
    (conv => whnf)
    cases f40 : noTgs m
    · (conv => whnf)
      exact ⟨congrArg PV.bool (by unfold isB othersB; rw [if_neg n1]; rw [if_neg n2]; rw [if_neg n3]; rw [if_pos hk]; simp only [e1, e2, e3, e4, e5, f37, f38, f39, f40, Bool.and_true, Bool.true_and, Bool.and_false, Bool.false_and, Bool.or_false, Bool.false_or, Bool.true_or, Bool.or_true]), rfl⟩
    (conv => whnf)
    cases f41 : noRep m
    · (conv => whnf)
      exact ⟨congrArg PV.bool (by unfold isB othersB; rw [if_neg n1]; rw [if_neg n2]; rw [if_neg n3]; rw [if_pos hk]; simp only [e1, e2, e3, e4, e5, f37, f38, f39, f40, f41, Bool.and_true, Bool.true_and, Bool.and_false, Bool.false_and, Bool.or_false, Bool.false_or, Bool.true_or, Bool.or_true]), rfl⟩
    (conv => whnf)
    cases f42 : noFail m
    · (conv => whnf)
      exact ⟨congrArg PV.bool (by unfold isB othersB; rw [if_neg n1]; rw [if_neg n2]; rw [if_neg n3]; rw [if_pos hk]; simp only [e1, e2, e3, e4, e5, f37, f38, f39, f40, f41, f42, Bool.and_true, Bool.true_and, Bool.and_false, Bool.false_and, Bool.or_false, Bool.false_or, Bool.true_or, Bool.or_true]), rfl⟩
    (conv => whnf)
    exact ⟨congrArg PV.bool (by unfold isB othersB; rw [if_neg n1]; rw [if_neg n2]; rw [if_neg n3]; rw [if_pos hk]; simp only [e1, e2, e3, e4, e5, f37, f38, f39, f40, f41, f42, Bool.and_true, Bool.true_and, Bool.and_false, Bool.false_and, Bool.or_false, Bool.false_or, Bool.true_or, Bool.or_true]), rfl⟩
  by_cases h5 : m.kind = 5
  · have hk := h5
    have n1 : ¬ m.kind = 1 := by omega
    have n2 : ¬ m.kind = 2 := by omega
    have n3 : ¬ m.kind = 3 := by omega
    have n4 : ¬ m.kind = 4 := by omega
    have e1 : decide (m.kind = 1) = false := decide_eq_false n1
    have e2 : decide (m.kind = 2) = false := decide_eq_false n2
    have e3 : decide (m.kind = 3) = false := decide_eq_false n3
    have e4 : decide (m.kind = 4) = false := decide_eq_false n4
    have e5 : decide (m.kind = 5) = true := decide_eq_true hk
    refine ⟨fun h => ?_, fun h => ?_⟩
    · exact (n1 h).elim
    (conv => whnf)
    refine ⟨fun h => ?_, fun h => ?_⟩
    · exact (n2 h).elim
    (conv => whnf)
    refine ⟨fun h => ?_, fun h => ?_⟩
    · exact (n3 h).elim
    (conv => whnf)
    refine ⟨fun h => ?_, fun h => ?_⟩
    · exact (n4 h).elim
    (conv => whnf)
    refine ⟨fun h => ?_, fun h => ?_⟩
    rotate_left
    · exact (h hk).elim
    (conv => whnf)
    refine callK_pure (c38 m.fErr 1 255) ?_
    cases f43 : inZ m.fErr 1 255
    · (conv => whnf)
      exact ⟨congrArg PV.bool (by unfold isB othersB; rw [if_neg n1]; rw [if_neg n2]; rw [if_neg n3]; rw [if_neg n4]; rw [if_pos hk]; simp only [e1, e2, e3, e4, e5, f43, Bool.and_true, Bool.true_and, Bool.and_false, Bool.false_and, Bool.or_false, Bool.false_or, Bool.true_or, Bool.or_true]), rfl⟩
    (conv => whnf)
    refine callK_pure (c38 m.fNonce 0 1073741824) ?_
    cases f44 : inZ m.fNonce 0 1073741824
    · (conv => whnf)
      exact ⟨congrArg PV.bool (by unfold isB othersB; rw [if_neg n1]; rw [if_neg n2]; rw [if_neg n3]; rw [if_neg n4]; rw [if_pos hk]; simp only [e1, e2, e3, e4, e5, f43, f44, Bool.and_true, Bool.true_and, Bool.and_false, Bool.false_and, Bool.or_false, Bool.false_or, Bool.true_or, Bool.or_true]), rfl⟩
    (conv => whnf)
    cases f45 : noAs m
    · (conv => whnf)
      exact ⟨congrArg PV.bool (by unfold isB othersB; rw [if_neg n1]; rw [if_neg n2]; rw [if_neg n3]; rw [if_neg n4]; rw [if_pos hk]; simp only [e1, e2, e3, e4, e5, f43, f44, f45, Bool.and_true, Bool.true_and, Bool.and_false, Bool.false_and, Bool.or_false, Bool.false_or, Bool.true_or, Bool.or_true]), rfl⟩
    (conv => whnf)
    cases f46 : noTgs m
    · (conv => whnf)
      exact ⟨congrArg PV.bool (by unfold isB othersB; rw [if_neg n1]; rw [if_neg n2]; rw [if_neg n3]; rw [if_neg n4]; rw [if_pos hk]; simp only [e1, e2, e3, e4, e5, f43, f44, f45, f46, Bool.and_true, Bool.true_and, Bool.and_false, Bool.false_and, Bool.or_false, Bool.false_or, Bool.true_or, Bool.or_true]), rfl⟩
    (conv => whnf)
    cases f47 : noRep m
    · (conv => whnf)
      exact ⟨congrArg PV.bool (by unfold isB othersB; rw [if_neg n1]; rw [if_neg n2]; rw [if_neg n3]; rw [if_neg n4]; rw [if_pos hk]; simp only [e1, e2, e3, e4, e5, f43, f44, f45, f46, f47, Bool.and_true, Bool.true_and, Bool.and_false, Bool.false_and, Bool.or_false, Bool.false_or, Bool.true_or, Bool.or_true]), rfl⟩
    (conv => whnf)
    cases f48 : noAp m
    · (conv => whnf)
      exact ⟨congrArg PV.bool (by unfold isB othersB; rw [if_neg n1]; rw [if_neg n2]; rw [if_neg n3]; rw [if_neg n4]; rw [if_pos hk]; simp only [e1, e2, e3, e4, e5, f43, f44, f45, f46, f47, f48, Bool.and_true, Bool.true_and, Bool.and_false, Bool.false_and, Bool.or_false, Bool.false_or, Bool.true_or, Bool.or_true]), rfl⟩
    (conv => whnf)
    exact ⟨congrArg PV.bool (by unfold isB othersB; rw [if_neg n1]; rw [if_neg n2]; rw [if_neg n3]; rw [if_neg n4]; rw [if_pos hk]; simp only [e1, e2, e3, e4, e5, f43, f44, f45, f46, f47, f48, Bool.and_true, Bool.true_and, Bool.and_false, Bool.false_and, Bool.or_false, Bool.false_or, Bool.true_or, Bool.or_true]), rfl⟩
  have n1 : ¬ m.kind = 1 := h1
  have n2 : ¬ m.kind = 2 := h2
  have n3 : ¬ m.kind = 3 := h3
  have n4 : ¬ m.kind = 4 := h4
  have n5 : ¬ m.kind = 5 := h5
  have e1 : decide (m.kind = 1) = false := decide_eq_false n1
  have e2 : decide (m.kind = 2) = false := decide_eq_false n2
  have e3 : decide (m.kind = 3) = false := decide_eq_false n3
  have e4 : decide (m.kind = 4) = false := decide_eq_false n4
  have e5 : decide (m.kind = 5) = false := decide_eq_false n5
  refine ⟨fun h => ?_, fun h => ?_⟩
  · exact (n1 h).elim
  (conv => whnf)
  refine ⟨fun h => ?_, fun h => ?_⟩
  · exact (n2 h).elim
  (conv => whnf)
  refine ⟨fun h => ?_, fun h => ?_⟩
  · exact (n3 h).elim
  (conv => whnf)
  refine ⟨fun h => ?_, fun h => ?_⟩
  · exact (n4 h).elim
  (conv => whnf)
  refine ⟨fun h => ?_, fun h => ?_⟩
  · exact (n5 h).elim
  (conv => whnf)
  exact ⟨congrArg PV.bool (by unfold isB othersB; rw [if_neg n1]; rw [if_neg n2]; rw [if_neg n3]; rw [if_neg n4]; rw [if_neg n5]; simp only [e1, e2, e3, e4, e5, Bool.and_true, Bool.true_and, Bool.and_false, Bool.false_and, Bool.or_false, Bool.false_or, Bool.true_or, Bool.or_true]), rfl⟩
end Go.Proofs.Tryd

set_option maxRecDepth 100000
set_option maxHeartbeats 2000000
set_option linter.unusedVariables false
set_option linter.unusedSimpArgs false
namespace Go.Proofs.Tryd
open Go Ps
theorem splitB_sum (c : UInt8) : ∀ (s : List UInt8), ((splitB c s).map (fun x => x.length + 1)).sum = s.length + 1
  | [] => by simp [splitB]
  | x :: s => by
    have ih := splitB_sum c s
    have hne : splitB c s ≠ [] := fun e => by rw [e] at ih; simp at ih
    simp only [splitB]
    split
    · simp [ih]; omega
    · cases hs : splitB c s with
      | nil => exact absurd hs hne
      | cons a l => rw [hs] at ih; simp at ih ⊢; omega
theorem sum_le (k : Nat) : ∀ (l : List (List UInt8)), (∀ x ∈ l, x.length ≤ k) → (l.map (fun x => x.length + 1)).sum ≤ l.length * (k + 1)
  | [], _ => by simp
  | a :: l, h => by
    have := sum_le k l fun x hx => h x (List.mem_cons_of_mem _ hx)
    have := h a List.mem_cons_self
    simp only [List.map_cons, List.sum_cons, List.length_cons, Nat.add_mul]; omega
theorem badL_len {c : UInt8} {s : List UInt8} (h : badL (splitB c s) = false) : s.length ≤ 35 := by
  unfold badL at h
  rw [Bool.or_eq_false_iff] at h
  have h1 : (splitB c s).length ≤ 4 := by have := of_decide_eq_false h.1; omega
  have h2 := sum_le 8 (splitB c s) fun x hx => by
    have := List.any_eq_false.1 h.2 x hx
    have : isWordB x upperB = true := by simpa using this
    unfold isWordB at this
    rw [Bool.and_eq_true, Bool.and_eq_true] at this
    exact of_decide_eq_true this.2.1
  rw [splitB_sum] at h2
  have : (splitB c s).length * (8 + 1) ≤ 4 * (8 + 1) := Nat.mul_le_mul_right _ h1
  omega
theorem realm_len {r : List UInt8} (h : isRealmB r = true) : r.length ≤ 36 := by
  replace h : (labelsB r).1 ≠ 0 := of_decide_eq_true h
  unfold labelsB at h
  split at h
  · split at h
    · exact absurd rfl h
    · rename_i t hb
      have := badL_len (c := 47) (s := t) (by simpa using hb)
      simp; omega
  · split at h
    · exact absurd rfl h
    · rename_i hb
      have := badL_len (c := 46) (s := r) (by simpa using hb)
      omega
theorem princ_len {r n : List UInt8} (h : isPrincB r n = true) : r.length ≤ 36 ∧ n.length ≤ 43 := by
  unfold isPrincB at h
  rw [Bool.and_eq_true, Bool.or_eq_true] at h
  refine ⟨realm_len h.1, ?_⟩
  rcases h.2 with h2 | h2
  · unfold targetB at h2
    split at h2
    · rename_i hc
      rw [Bool.and_eq_true] at hc
      have := realm_len hc.2
      rw [List.length_drop] at this
      omega
    · cases h2
  · unfold isWordB at h2
    rw [Bool.and_eq_true, Bool.and_eq_true] at h2
    have := of_decide_eq_true h2.2.1
    omega
theorem inZ_le {n lo hi : Int} (h : inZ n lo hi = true) : lo ≤ n ∧ n ≤ hi := by
  unfold inZ at h
  rw [Bool.and_eq_true] at h
  exact ⟨of_decide_eq_true h.1, of_decide_eq_true h.2⟩
theorem tick_len {r n : List UInt8} {kv : Int} {k : Nat} (h : tickB r n kv k = true) : r.length ≤ 36 ∧ n.length ≤ 43 ∧ k ≤ 800 := by
  unfold tickB at h
  rw [Bool.and_eq_true, Bool.and_eq_true] at h
  have h1 := princ_len h.1.1
  have h2 := inZ_le h.2
  exact ⟨h1.1, h1.2, by omega⟩
theorem wrapB_len (t : UInt8) (b : List UInt8) : (wrapB t b).length ≤ b.length + 4 := by
  have := lenB_len b.length
  unfold wrapB
  simp; omega
def princE (r n : List UInt8) : List UInt8 := wrapB 48 [wrapB 27 r, wrapB 27 n].flatten
def intE (n : Int) : List UInt8 := wrapB 2 (intB (clampI n))
def ticketE (r n : List UInt8) (kv : Int) (b : List UInt8) : List UInt8 := wrapB 97 [princE r n, intE kv, wrapB 4 b].flatten
theorem intE_len (n : Int) : (intE n).length ≤ 14 := by
  have h1 := wrapB_len 2 (intB (clampI n))
  have h2 := le_len 9 (clampI n)
  have h3 : (intB (clampI n)).length ≤ 10 := by
    unfold intB padB
    rw [List.length_reverse]
    split
    · rw [List.length_append, List.length_singleton]; omega
    · omega
  unfold intE; omega
theorem princE_len (r n : List UInt8) : (princE r n).length ≤ r.length + n.length + 12 := by
  have h := wrapB_len 48 [wrapB 27 r, wrapB 27 n].flatten
  have h1 := wrapB_len 27 r
  have h2 := wrapB_len 27 n
  simp only [List.flatten_cons, List.flatten_nil, List.length_append, List.length_nil] at h
  unfold princE; simp only [List.flatten_cons, List.flatten_nil] at h ⊢; omega
theorem ticketE_len (r n : List UInt8) (kv : Int) (b : List UInt8) : (ticketE r n kv b).length ≤ r.length + n.length + b.length + 34 := by
  have h := wrapB_len 97 [princE r n, intE kv, wrapB 4 b].flatten
  have h1 := princE_len r n
  have h2 := intE_len kv
  have h3 := wrapB_len 4 b
  simp only [List.flatten_cons, List.flatten_nil, List.length_append, List.length_nil] at h
  unfold ticketE; simp only [List.flatten_cons, List.flatten_nil] at h ⊢; omega
theorem c44p (tag : UInt8) (ls : List (List UInt8)) (hn : ls.length ≤ 1099511627776) (ht : ls.flatten.length ≤ 1099511627000) :
    Pure prog 44 [byteC tag, .slice ls.length (ls.map sl) none] (sl (wrapB tag ls.flatten)) := fun H => c44 tag ls hn ht (Reps.sl H ls)
theorem c46p (p : List UInt8) (hp : p.length ≤ 1099511627000) : Pure prog 46 [sl p] (sl (wrapB 4 p)) := fun H => c46 p hp H
theorem c47p (p : List UInt8) (hp : p.length ≤ 1099511627000) : Pure prog 47 [.str p] (sl (wrapB 27 p)) := fun H => c47 p hp H
def limV (ok : Bool) (b : List UInt8) : PV := if ok = true ∧ b.length ≤ 2000 then .tup [sl b, .int .i64 0] else .tup [.slice 0 [] (some 5), .int .i64 1]
theorem c40 (ok : Bool) (b : List UInt8) : Pure prog 40 [.bool ok, sl b] (limV ok b) := by
  intro H
  (refine callOk_of_pFun2 (tt := ttG) (imm := imm40) follows ttG_ok depth6 func40 (by kernel_rfl) ?_; (conv => whnf))
  cases ok
  · (conv => whnf)
    exact ⟨by unfold limV; rw [if_neg (by simp)]; rfl, rfl⟩
  · (conv => whnf)
    refine ⟨fun h => ?_, fun h => ?_⟩
    · (conv => whnf)
      have h : (2000 : Int) < (b.length : Int) := h
      exact ⟨by unfold limV; rw [if_neg (by omega)]; rfl, rfl⟩
    · (conv => whnf)
      have h : ¬ (2000 : Int) < (b.length : Int) := h
      exact ⟨by unfold limV; rw [if_pos ⟨rfl, by omega⟩]; rfl, rfl⟩
theorem c45 (r n : List UInt8) (hr : r.length ≤ 1000) (hn : n.length ≤ 1000) : Pure prog 45 [.agg [.str r, .str n]] (sl (princE r n)) := by
  intro H
  have h1 := wrapB_len 27 r
  have h2 := wrapB_len 27 n
  (refine callOk_of_pFun2 (tt := ttG) (imm := imm45) follows ttG_ok depth6 func45 (by kernel_rfl) ?_; (conv => whnf))
  refine drawK_pure2 (by kernel_rfl) ?_
  (conv => whnf)
  (apply Exists.intro; apply And.intro; (focus ((conv => whnf); first | exact ⟨rfl, rfl, trivial⟩ | (refine ⟨by omega, ?_⟩; (conv => whnf); exact ⟨rfl, rfl, trivial⟩))); (conv => whnf))
  (apply Exists.intro; apply And.intro; (focus ((conv => whnf); first | exact ⟨rfl, rfl, trivial⟩ | (refine ⟨by omega, ?_⟩; (conv => whnf); exact ⟨rfl, rfl, trivial⟩))); (conv => whnf))
  refine ⟨_, callK_pure (c47p r (by omega)) ⟨rfl, rfl, trivial⟩, ?_⟩
  (conv => whnf)
  (apply Exists.intro; apply And.intro; (focus ((conv => whnf); first | exact ⟨rfl, rfl, trivial⟩ | (refine ⟨by omega, ?_⟩; (conv => whnf); exact ⟨rfl, rfl, trivial⟩))); (conv => whnf))
  (apply Exists.intro; apply And.intro; (focus ((conv => whnf); first | exact ⟨rfl, rfl, trivial⟩ | (refine ⟨by omega, ?_⟩; (conv => whnf); exact ⟨rfl, rfl, trivial⟩))); (conv => whnf))
  refine ⟨_, callK_pure (c47p n (by omega)) ⟨rfl, rfl, trivial⟩, ?_⟩
  (conv => whnf)
  (apply Exists.intro; apply And.intro; (focus ((conv => whnf); first | exact ⟨rfl, rfl, trivial⟩ | (refine ⟨by omega, ?_⟩; (conv => whnf); exact ⟨rfl, rfl, trivial⟩))); (conv => whnf))
  refine ⟨_, callK_pure (c44p 48 [wrapB 27 r, wrapB 27 n] (by simp) (by simp only [List.flatten_cons, List.flatten_nil, List.length_append, List.length_nil]; omega)) ⟨rfl, rfl, trivial⟩, ?_⟩
  (conv => whnf)
  (apply Exists.intro; apply And.intro; (focus ((conv => whnf); first | exact ⟨rfl, rfl, trivial⟩ | (refine ⟨by omega, ?_⟩; (conv => whnf); exact ⟨rfl, rfl, trivial⟩))); (conv => whnf))
  exact ⟨rfl, rfl⟩
theorem c66 (r n : List UInt8) (kv : Int) (b : List UInt8) (o : Option Nat) (hr : r.length ≤ 1000) (hn : n.length ≤ 1000) (hb : b.length ≤ 1000) : Pure prog 66 [.agg [.str r, .str n, .int .i64 kv, slo b o]] (sl (ticketE r n kv b)) := by
  intro H
  have h1 := princE_len r n
  have h2 := intE_len kv
  have h3 := wrapB_len 4 b
  (refine callOk_of_pFun2 (tt := ttG) (imm := imm66) follows ttG_ok depth6 func66 (by kernel_rfl) ?_; (conv => whnf))
  refine drawK_pure2 (by kernel_rfl) ?_
  (conv => whnf)
  (apply Exists.intro; apply And.intro; (focus ((conv => whnf); first | exact ⟨rfl, rfl, trivial⟩ | (refine ⟨by omega, ?_⟩; (conv => whnf); exact ⟨rfl, rfl, trivial⟩))); (conv => whnf))
  (apply Exists.intro; apply And.intro; (focus ((conv => whnf); first | exact ⟨rfl, rfl, trivial⟩ | (refine ⟨by omega, ?_⟩; (conv => whnf); exact ⟨rfl, rfl, trivial⟩))); (conv => whnf))
  refine ⟨_, callK_pure (c45 r n hr hn) ⟨rfl, rfl, trivial⟩, ?_⟩
  (conv => whnf)
  (apply Exists.intro; apply And.intro; (focus ((conv => whnf); first | exact ⟨rfl, rfl, trivial⟩ | (refine ⟨by omega, ?_⟩; (conv => whnf); exact ⟨rfl, rfl, trivial⟩))); (conv => whnf))
  (apply Exists.intro; apply And.intro; (focus ((conv => whnf); first | exact ⟨rfl, rfl, trivial⟩ | (refine ⟨by omega, ?_⟩; (conv => whnf); exact ⟨rfl, rfl, trivial⟩))); (conv => whnf))
  refine ⟨_, callK_pure (c48 kv) ⟨rfl, rfl, trivial⟩, ?_⟩
  (conv => whnf)
  (apply Exists.intro; apply And.intro; (focus ((conv => whnf); first | exact ⟨rfl, rfl, trivial⟩ | (refine ⟨by omega, ?_⟩; (conv => whnf); exact ⟨rfl, rfl, trivial⟩))); (conv => whnf))
  (apply Exists.intro; apply And.intro; (focus ((conv => whnf); first | exact ⟨rfl, rfl, trivial⟩ | (refine ⟨by omega, ?_⟩; (conv => whnf); exact ⟨rfl, rfl, trivial⟩))); (conv => whnf))
  refine ⟨_, callK_pure (c46p b (by omega)) ⟨rfl, rfl, trivial⟩, ?_⟩
  (conv => whnf)
  (apply Exists.intro; apply And.intro; (focus ((conv => whnf); first | exact ⟨rfl, rfl, trivial⟩ | (refine ⟨by omega, ?_⟩; (conv => whnf); exact ⟨rfl, rfl, trivial⟩))); (conv => whnf))
  refine ⟨_, callK_pure (c44p 97 [princE r n, intE kv, wrapB 4 b] (by simp) (by simp only [List.flatten_cons, List.flatten_nil, List.length_append, List.length_nil]; omega)) ⟨rfl, rfl, trivial⟩, ?_⟩
  (conv => whnf)
  (apply Exists.intro; apply And.intro; (focus ((conv => whnf); first | exact ⟨rfl, rfl, trivial⟩ | (refine ⟨by omega, ?_⟩; (conv => whnf); exact ⟨rfl, rfl, trivial⟩))); (conv => whnf))
  exact ⟨rfl, rfl⟩
def laidB (m : Msg) : List UInt8 :=
  if m.kind = 1 then wrapB 106 [princE m.a1 m.a2, princE m.a3 m.a4, intE m.aTill, intE m.aNonce].flatten
  else if m.kind = 2 then wrapB 108 [ticketE m.t1 m.t2 m.tKv m.tB, wrapB 4 m.tAu, princE m.t3 m.t4, intE m.tTill, intE m.tNonce].flatten
  else if m.kind = 3 then wrapB 107 [princE m.r1 m.r2, ticketE m.r3 m.r4 m.rKv m.rB, wrapB 4 m.rBl].flatten
  else if m.kind = 4 then wrapB 110 [ticketE m.p1 m.p2 m.pKv m.pB, wrapB 4 m.pAu].flatten
  else wrapB 126 [intE m.fErr, intE m.fNonce].flatten
theorem c41x (m : Msg) (hm : isB m = true) (H : PH) : CallOk prog 41 [.agg m.cells] H fun r H' => r = sl (laidB m) ∧ ∃ ext, H' = H ++ ext := by
  have hm := (Bool.and_eq_true _ _ ▸ hm : _ ∧ _).1
  (refine callOk_of_pFun2 (tt := ttG) (imm := imm41) follows ttG_ok depth6 func41 (by kernel_rfl) ?_; (conv => whnf))
  (conv => whnf)
  by_cases h1 : m.kind = 1
  · have hk := h1
    have n2 : ¬ m.kind = 2 := by omega
    have n3 : ¬ m.kind = 3 := by omega
    have n4 : ¬ m.kind = 4 := by omega
    have n5 : ¬ m.kind = 5 := by omega
    rw [if_pos hk] at hm
    simp only [Bool.and_eq_true] at hm
    have g1 := princ_len hm.1.1.1
    have g2 := princ_len hm.1.1.2
    have g3 := princE_len m.a1 m.a2
    have g4 := princE_len m.a3 m.a4
    have g5 := intE_len m.aTill
    have g6 := intE_len m.aNonce
    refine ⟨fun h => ?_, fun h => ?_⟩
    rotate_left
    · exact (h hk).elim
    (conv => whnf)
    ((conv in (_[_]?) => tactic => exact get_last _ _); (conv => whnf))
    refine drawK_pure2 (by kernel_rfl) ?_
    (conv => whnf)
    (apply Exists.intro; apply And.intro; (focus ((conv => whnf); first | exact ⟨rfl, rfl, trivial⟩ | (refine ⟨by omega, ?_⟩; (conv => whnf); exact ⟨rfl, rfl, trivial⟩))); (conv => whnf))
    apply Exists.intro
    apply And.intro
    focus
      (conv => whnf)
      ((conv in (_[_]?) => tactic => exact get_set (get_last _ _)); (conv => whnf))
      exact ⟨rfl, rfl, trivial⟩
    (conv => whnf)
    refine ⟨_, callK_pure (c45 m.a1 m.a2 (by omega) (by omega)) ⟨rfl, rfl, trivial⟩, ?_⟩
    (conv => whnf)
    (apply Exists.intro; apply And.intro; (focus ((conv => whnf); first | exact ⟨rfl, rfl, trivial⟩ | (refine ⟨by omega, ?_⟩; (conv => whnf); exact ⟨rfl, rfl, trivial⟩))); (conv => whnf))
    apply Exists.intro
    apply And.intro
    focus
      (conv => whnf)
      ((conv in (_[_]?) => tactic => exact get_set (get_last _ _)); (conv => whnf))
      exact ⟨rfl, rfl, trivial⟩
    (conv => whnf)
    refine ⟨_, callK_pure (c45 m.a3 m.a4 (by omega) (by omega)) ⟨rfl, rfl, trivial⟩, ?_⟩
    (conv => whnf)
    (apply Exists.intro; apply And.intro; (focus ((conv => whnf); first | exact ⟨rfl, rfl, trivial⟩ | (refine ⟨by omega, ?_⟩; (conv => whnf); exact ⟨rfl, rfl, trivial⟩))); (conv => whnf))
    apply Exists.intro
    apply And.intro
    focus
      (conv => whnf)
      ((conv in (_[_]?) => tactic => exact get_set (get_last _ _)); (conv => whnf))
      exact ⟨rfl, rfl, trivial⟩
    (conv => whnf)
    refine ⟨_, callK_pure (c48 m.aTill) ⟨rfl, rfl, trivial⟩, ?_⟩
    (conv => whnf)
    (apply Exists.intro; apply And.intro; (focus ((conv => whnf); first | exact ⟨rfl, rfl, trivial⟩ | (refine ⟨by omega, ?_⟩; (conv => whnf); exact ⟨rfl, rfl, trivial⟩))); (conv => whnf))
    apply Exists.intro
    apply And.intro
    focus
      (conv => whnf)
      ((conv in (_[_]?) => tactic => exact get_set (get_last _ _)); (conv => whnf))
      exact ⟨rfl, rfl, trivial⟩
    (conv => whnf)
    refine ⟨_, callK_pure (c48 m.aNonce) ⟨rfl, rfl, trivial⟩, ?_⟩
    (conv => whnf)
    (apply Exists.intro; apply And.intro; (focus ((conv => whnf); first | exact ⟨rfl, rfl, trivial⟩ | (refine ⟨by omega, ?_⟩; (conv => whnf); exact ⟨rfl, rfl, trivial⟩))); (conv => whnf))
    refine ⟨_, callK_pure (c44p 106 [princE m.a1 m.a2, princE m.a3 m.a4, intE m.aTill, intE m.aNonce] (by simp) (by simp only [List.flatten_cons, List.flatten_nil, List.length_append, List.length_nil]; omega)) ⟨rfl, rfl, trivial⟩, ?_⟩
    (conv => whnf)
    (apply Exists.intro; apply And.intro; (focus ((conv => whnf); first | exact ⟨rfl, rfl, trivial⟩ | (refine ⟨by omega, ?_⟩; (conv => whnf); exact ⟨rfl, rfl, trivial⟩))); (conv => whnf))
    exact ⟨by unfold laidB; rw [if_pos hk]; rfl, (Ext.refl _).push _ |>.set (Ext.refl _).len _⟩
  by_cases h2 : m.kind = 2
  · have hk := h2
    have n1 : ¬ m.kind = 1 := by omega
    have n3 : ¬ m.kind = 3 := by omega
    have n4 : ¬ m.kind = 4 := by omega
    have n5 : ¬ m.kind = 5 := by omega
    rw [if_neg n1] at hm
    rw [if_pos hk] at hm
    simp only [Bool.and_eq_true] at hm
    have g1 := tick_len hm.1.1.1.1
    have g2 := inZ_le hm.1.1.1.2
    have g3 := princ_len hm.1.1.2
    have g4 := ticketE_len m.t1 m.t2 m.tKv m.tB
    have g5 := wrapB_len 4 m.tAu
    have g6 := princE_len m.t3 m.t4
    have g7 := intE_len m.tTill
    have g8 := intE_len m.tNonce
    refine ⟨fun h => ?_, fun h => ?_⟩
    · exact (n1 h).elim
    (conv => whnf)
    refine ⟨fun h => ?_, fun h => ?_⟩
    rotate_left
    · exact (h hk).elim
    (conv => whnf)
    ((conv in (_[_]?) => tactic => exact get_last _ _); (conv => whnf))
    refine drawK_pure2 (by kernel_rfl) ?_
    (conv => whnf)
    (apply Exists.intro; apply And.intro; (focus ((conv => whnf); first | exact ⟨rfl, rfl, trivial⟩ | (refine ⟨by omega, ?_⟩; (conv => whnf); exact ⟨rfl, rfl, trivial⟩))); (conv => whnf))
    apply Exists.intro
    apply And.intro
    focus
      (conv => whnf)
      ((conv in (_[_]?) => tactic => exact get_set (get_last _ _)); (conv => whnf))
      exact ⟨rfl, rfl, trivial⟩
    (conv => whnf)
    refine ⟨_, callK_pure (c66 m.t1 m.t2 m.tKv m.tB none (by omega) (by omega) (by omega)) ⟨rfl, rfl, trivial⟩, ?_⟩
    (conv => whnf)
    (apply Exists.intro; apply And.intro; (focus ((conv => whnf); first | exact ⟨rfl, rfl, trivial⟩ | (refine ⟨by omega, ?_⟩; (conv => whnf); exact ⟨rfl, rfl, trivial⟩))); (conv => whnf))
    apply Exists.intro
    apply And.intro
    focus
      (conv => whnf)
      ((conv in (_[_]?) => tactic => exact get_set (get_last _ _)); (conv => whnf))
      exact ⟨rfl, rfl, trivial⟩
    (conv => whnf)
    refine ⟨_, callK_pure (c46p m.tAu (by omega)) ⟨rfl, rfl, trivial⟩, ?_⟩
    (conv => whnf)
    (apply Exists.intro; apply And.intro; (focus ((conv => whnf); first | exact ⟨rfl, rfl, trivial⟩ | (refine ⟨by omega, ?_⟩; (conv => whnf); exact ⟨rfl, rfl, trivial⟩))); (conv => whnf))
    apply Exists.intro
    apply And.intro
    focus
      (conv => whnf)
      ((conv in (_[_]?) => tactic => exact get_set (get_last _ _)); (conv => whnf))
      exact ⟨rfl, rfl, trivial⟩
    (conv => whnf)
    refine ⟨_, callK_pure (c45 m.t3 m.t4 (by omega) (by omega)) ⟨rfl, rfl, trivial⟩, ?_⟩
    (conv => whnf)
    (apply Exists.intro; apply And.intro; (focus ((conv => whnf); first | exact ⟨rfl, rfl, trivial⟩ | (refine ⟨by omega, ?_⟩; (conv => whnf); exact ⟨rfl, rfl, trivial⟩))); (conv => whnf))
    apply Exists.intro
    apply And.intro
    focus
      (conv => whnf)
      ((conv in (_[_]?) => tactic => exact get_set (get_last _ _)); (conv => whnf))
      exact ⟨rfl, rfl, trivial⟩
    (conv => whnf)
    refine ⟨_, callK_pure (c48 m.tTill) ⟨rfl, rfl, trivial⟩, ?_⟩
    (conv => whnf)
    (apply Exists.intro; apply And.intro; (focus ((conv => whnf); first | exact ⟨rfl, rfl, trivial⟩ | (refine ⟨by omega, ?_⟩; (conv => whnf); exact ⟨rfl, rfl, trivial⟩))); (conv => whnf))
    apply Exists.intro
    apply And.intro
    focus
      (conv => whnf)
      ((conv in (_[_]?) => tactic => exact get_set (get_last _ _)); (conv => whnf))
      exact ⟨rfl, rfl, trivial⟩
    (conv => whnf)
    refine ⟨_, callK_pure (c48 m.tNonce) ⟨rfl, rfl, trivial⟩, ?_⟩
    (conv => whnf)
    (apply Exists.intro; apply And.intro; (focus ((conv => whnf); first | exact ⟨rfl, rfl, trivial⟩ | (refine ⟨by omega, ?_⟩; (conv => whnf); exact ⟨rfl, rfl, trivial⟩))); (conv => whnf))
    refine ⟨_, callK_pure (c44p 108 [ticketE m.t1 m.t2 m.tKv m.tB, wrapB 4 m.tAu, princE m.t3 m.t4, intE m.tTill, intE m.tNonce] (by simp) (by simp only [List.flatten_cons, List.flatten_nil, List.length_append, List.length_nil]; omega)) ⟨rfl, rfl, trivial⟩, ?_⟩
    (conv => whnf)
    (apply Exists.intro; apply And.intro; (focus ((conv => whnf); first | exact ⟨rfl, rfl, trivial⟩ | (refine ⟨by omega, ?_⟩; (conv => whnf); exact ⟨rfl, rfl, trivial⟩))); (conv => whnf))
    exact ⟨by unfold laidB; rw [if_neg n1]; rw [if_pos hk]; rfl, (Ext.refl _).push _ |>.set (Ext.refl _).len _⟩
  by_cases h3 : m.kind = 3
  · have hk := h3
    have n1 : ¬ m.kind = 1 := by omega
    have n2 : ¬ m.kind = 2 := by omega
    have n4 : ¬ m.kind = 4 := by omega
    have n5 : ¬ m.kind = 5 := by omega
    rw [if_neg n1] at hm
    rw [if_neg n2] at hm
    rw [if_pos hk] at hm
    simp only [Bool.and_eq_true] at hm
    have g1 := princ_len hm.1.1
    have g2 := tick_len hm.1.2
    have g3 := inZ_le hm.2
    have g4 := princE_len m.r1 m.r2
    have g5 := ticketE_len m.r3 m.r4 m.rKv m.rB
    have g6 := wrapB_len 4 m.rBl
    refine ⟨fun h => ?_, fun h => ?_⟩
    · exact (n1 h).elim
    (conv => whnf)
    refine ⟨fun h => ?_, fun h => ?_⟩
    · exact (n2 h).elim
    (conv => whnf)
    refine ⟨fun h => ?_, fun h => ?_⟩
    rotate_left
    · exact (h hk).elim
    (conv => whnf)
    refine drawK_pure2 (by kernel_rfl) ?_
    (conv => whnf)
    (apply Exists.intro; apply And.intro; (focus ((conv => whnf); first | exact ⟨rfl, rfl, trivial⟩ | (refine ⟨by omega, ?_⟩; (conv => whnf); exact ⟨rfl, rfl, trivial⟩))); (conv => whnf))
    (apply Exists.intro; apply And.intro; (focus ((conv => whnf); first | exact ⟨rfl, rfl, trivial⟩ | (refine ⟨by omega, ?_⟩; (conv => whnf); exact ⟨rfl, rfl, trivial⟩))); (conv => whnf))
    (apply Exists.intro; apply And.intro; (focus ((conv => whnf); first | exact ⟨rfl, rfl, trivial⟩ | (refine ⟨by omega, ?_⟩; (conv => whnf); exact ⟨rfl, rfl, trivial⟩))); (conv => whnf))
    refine ⟨_, callK_pure (c45 m.r1 m.r2 (by omega) (by omega)) ⟨rfl, rfl, trivial⟩, ?_⟩
    (conv => whnf)
    (apply Exists.intro; apply And.intro; (focus ((conv => whnf); first | exact ⟨rfl, rfl, trivial⟩ | (refine ⟨by omega, ?_⟩; (conv => whnf); exact ⟨rfl, rfl, trivial⟩))); (conv => whnf))
    (apply Exists.intro; apply And.intro; (focus ((conv => whnf); first | exact ⟨rfl, rfl, trivial⟩ | (refine ⟨by omega, ?_⟩; (conv => whnf); exact ⟨rfl, rfl, trivial⟩))); (conv => whnf))
    (apply Exists.intro; apply And.intro; (focus ((conv => whnf); first | exact ⟨rfl, rfl, trivial⟩ | (refine ⟨by omega, ?_⟩; (conv => whnf); exact ⟨rfl, rfl, trivial⟩))); (conv => whnf))
    refine ⟨_, callK_pure (c66 m.r3 m.r4 m.rKv m.rB none (by omega) (by omega) (by omega)) ⟨rfl, rfl, trivial⟩, ?_⟩
    (conv => whnf)
    (apply Exists.intro; apply And.intro; (focus ((conv => whnf); first | exact ⟨rfl, rfl, trivial⟩ | (refine ⟨by omega, ?_⟩; (conv => whnf); exact ⟨rfl, rfl, trivial⟩))); (conv => whnf))
    (apply Exists.intro; apply And.intro; (focus ((conv => whnf); first | exact ⟨rfl, rfl, trivial⟩ | (refine ⟨by omega, ?_⟩; (conv => whnf); exact ⟨rfl, rfl, trivial⟩))); (conv => whnf))
    (apply Exists.intro; apply And.intro; (focus ((conv => whnf); first | exact ⟨rfl, rfl, trivial⟩ | (refine ⟨by omega, ?_⟩; (conv => whnf); exact ⟨rfl, rfl, trivial⟩))); (conv => whnf))
    refine ⟨_, callK_pure (c46p m.rBl (by omega)) ⟨rfl, rfl, trivial⟩, ?_⟩
    (conv => whnf)
    (apply Exists.intro; apply And.intro; (focus ((conv => whnf); first | exact ⟨rfl, rfl, trivial⟩ | (refine ⟨by omega, ?_⟩; (conv => whnf); exact ⟨rfl, rfl, trivial⟩))); (conv => whnf))
    refine ⟨_, callK_pure (c44p 107 [princE m.r1 m.r2, ticketE m.r3 m.r4 m.rKv m.rB, wrapB 4 m.rBl] (by simp) (by simp only [List.flatten_cons, List.flatten_nil, List.length_append, List.length_nil]; omega)) ⟨rfl, rfl, trivial⟩, ?_⟩
    (conv => whnf)
    (apply Exists.intro; apply And.intro; (focus ((conv => whnf); first | exact ⟨rfl, rfl, trivial⟩ | (refine ⟨by omega, ?_⟩; (conv => whnf); exact ⟨rfl, rfl, trivial⟩))); (conv => whnf))
    exact ⟨by unfold laidB; rw [if_neg n1]; rw [if_neg n2]; rw [if_pos hk]; rfl, Ext.refl _⟩
  by_cases h4 : m.kind = 4
  · have hk := h4
    have n1 : ¬ m.kind = 1 := by omega
    have n2 : ¬ m.kind = 2 := by omega
    have n3 : ¬ m.kind = 3 := by omega
    have n5 : ¬ m.kind = 5 := by omega
    rw [if_neg n1] at hm
    rw [if_neg n2] at hm
    rw [if_neg n3] at hm
    rw [if_pos hk] at hm
    simp only [Bool.and_eq_true] at hm
    have g1 := tick_len hm.1
    have g2 := inZ_le hm.2
    have g3 := ticketE_len m.p1 m.p2 m.pKv m.pB
    have g4 := wrapB_len 4 m.pAu
    refine ⟨fun h => ?_, fun h => ?_⟩
    · exact (n1 h).elim
    (conv => whnf)
    refine ⟨fun h => ?_, fun h => ?_⟩
    · exact (n2 h).elim
    (conv => whnf)
    refine ⟨fun h => ?_, fun h => ?_⟩
    · exact (n3 h).elim
    (conv => whnf)
    refine ⟨fun h => ?_, fun h => ?_⟩
    rotate_left
    · exact (h hk).elim
    (conv => whnf)
    refine drawK_pure2 (by kernel_rfl) ?_
    (conv => whnf)
    (apply Exists.intro; apply And.intro; (focus ((conv => whnf); first | exact ⟨rfl, rfl, trivial⟩ | (refine ⟨by omega, ?_⟩; (conv => whnf); exact ⟨rfl, rfl, trivial⟩))); (conv => whnf))
    (apply Exists.intro; apply And.intro; (focus ((conv => whnf); first | exact ⟨rfl, rfl, trivial⟩ | (refine ⟨by omega, ?_⟩; (conv => whnf); exact ⟨rfl, rfl, trivial⟩))); (conv => whnf))
    (apply Exists.intro; apply And.intro; (focus ((conv => whnf); first | exact ⟨rfl, rfl, trivial⟩ | (refine ⟨by omega, ?_⟩; (conv => whnf); exact ⟨rfl, rfl, trivial⟩))); (conv => whnf))
    refine ⟨_, callK_pure (c66 m.p1 m.p2 m.pKv m.pB none (by omega) (by omega) (by omega)) ⟨rfl, rfl, trivial⟩, ?_⟩
    (conv => whnf)
    (apply Exists.intro; apply And.intro; (focus ((conv => whnf); first | exact ⟨rfl, rfl, trivial⟩ | (refine ⟨by omega, ?_⟩; (conv => whnf); exact ⟨rfl, rfl, trivial⟩))); (conv => whnf))
    (apply Exists.intro; apply And.intro; (focus ((conv => whnf); first | exact ⟨rfl, rfl, trivial⟩ | (refine ⟨by omega, ?_⟩; (conv => whnf); exact ⟨rfl, rfl, trivial⟩))); (conv => whnf))
    (apply Exists.intro; apply And.intro; (focus ((conv => whnf); first | exact ⟨rfl, rfl, trivial⟩ | (refine ⟨by omega, ?_⟩; (conv => whnf); exact ⟨rfl, rfl, trivial⟩))); (conv => whnf))
    refine ⟨_, callK_pure (c46p m.pAu (by omega)) ⟨rfl, rfl, trivial⟩, ?_⟩
    (conv => whnf)
    (apply Exists.intro; apply And.intro; (focus ((conv => whnf); first | exact ⟨rfl, rfl, trivial⟩ | (refine ⟨by omega, ?_⟩; (conv => whnf); exact ⟨rfl, rfl, trivial⟩))); (conv => whnf))
    refine ⟨_, callK_pure (c44p 110 [ticketE m.p1 m.p2 m.pKv m.pB, wrapB 4 m.pAu] (by simp) (by simp only [List.flatten_cons, List.flatten_nil, List.length_append, List.length_nil]; omega)) ⟨rfl, rfl, trivial⟩, ?_⟩
    (conv => whnf)
    (apply Exists.intro; apply And.intro; (focus ((conv => whnf); first | exact ⟨rfl, rfl, trivial⟩ | (refine ⟨by omega, ?_⟩; (conv => whnf); exact ⟨rfl, rfl, trivial⟩))); (conv => whnf))
    exact ⟨by unfold laidB; rw [if_neg n1]; rw [if_neg n2]; rw [if_neg n3]; rw [if_pos hk]; rfl, Ext.refl _⟩
  have n1 : ¬ m.kind = 1 := h1
  have n2 : ¬ m.kind = 2 := h2
  have n3 : ¬ m.kind = 3 := h3
  have n4 : ¬ m.kind = 4 := h4
  have g1 := intE_len m.fErr
  have g2 := intE_len m.fNonce
  refine ⟨fun h => ?_, fun h => ?_⟩
  · exact (n1 h).elim
  (conv => whnf)
  refine ⟨fun h => ?_, fun h => ?_⟩
  · exact (n2 h).elim
  (conv => whnf)
  refine ⟨fun h => ?_, fun h => ?_⟩
  · exact (n3 h).elim
  (conv => whnf)
  refine ⟨fun h => ?_, fun h => ?_⟩
  · exact (n4 h).elim
  (conv => whnf)
  refine drawK_pure2 (by kernel_rfl) ?_
  (conv => whnf)
  (apply Exists.intro; apply And.intro; (focus ((conv => whnf); first | exact ⟨rfl, rfl, trivial⟩ | (refine ⟨by omega, ?_⟩; (conv => whnf); exact ⟨rfl, rfl, trivial⟩))); (conv => whnf))
  (apply Exists.intro; apply And.intro; (focus ((conv => whnf); first | exact ⟨rfl, rfl, trivial⟩ | (refine ⟨by omega, ?_⟩; (conv => whnf); exact ⟨rfl, rfl, trivial⟩))); (conv => whnf))
  (apply Exists.intro; apply And.intro; (focus ((conv => whnf); first | exact ⟨rfl, rfl, trivial⟩ | (refine ⟨by omega, ?_⟩; (conv => whnf); exact ⟨rfl, rfl, trivial⟩))); (conv => whnf))
  refine ⟨_, callK_pure (c48 m.fErr) ⟨rfl, rfl, trivial⟩, ?_⟩
  (conv => whnf)
  (apply Exists.intro; apply And.intro; (focus ((conv => whnf); first | exact ⟨rfl, rfl, trivial⟩ | (refine ⟨by omega, ?_⟩; (conv => whnf); exact ⟨rfl, rfl, trivial⟩))); (conv => whnf))
  (apply Exists.intro; apply And.intro; (focus ((conv => whnf); first | exact ⟨rfl, rfl, trivial⟩ | (refine ⟨by omega, ?_⟩; (conv => whnf); exact ⟨rfl, rfl, trivial⟩))); (conv => whnf))
  (apply Exists.intro; apply And.intro; (focus ((conv => whnf); first | exact ⟨rfl, rfl, trivial⟩ | (refine ⟨by omega, ?_⟩; (conv => whnf); exact ⟨rfl, rfl, trivial⟩))); (conv => whnf))
  refine ⟨_, callK_pure (c48 m.fNonce) ⟨rfl, rfl, trivial⟩, ?_⟩
  (conv => whnf)
  (apply Exists.intro; apply And.intro; (focus ((conv => whnf); first | exact ⟨rfl, rfl, trivial⟩ | (refine ⟨by omega, ?_⟩; (conv => whnf); exact ⟨rfl, rfl, trivial⟩))); (conv => whnf))
  refine ⟨_, callK_pure (c44p 126 [intE m.fErr, intE m.fNonce] (by simp) (by simp only [List.flatten_cons, List.flatten_nil, List.length_append, List.length_nil]; omega)) ⟨rfl, rfl, trivial⟩, ?_⟩
  (conv => whnf)
  (apply Exists.intro; apply And.intro; (focus ((conv => whnf); first | exact ⟨rfl, rfl, trivial⟩ | (refine ⟨by omega, ?_⟩; (conv => whnf); exact ⟨rfl, rfl, trivial⟩))); (conv => whnf))
  exact ⟨by unfold laidB; rw [if_neg n1]; rw [if_neg n2]; rw [if_neg n3]; rw [if_neg n4]; rfl, Ext.refl _⟩
theorem c41 (m : Msg) (hm : isB m = true) : Pure prog 41 [.agg m.cells] (sl (laidB m)) := Pure.of_gc (oldPs_bytes _) (c41x m hm)
theorem isd {m : Msg} : isB m.d = isB m := rfl
theorem laidd {m : Msg} : laidB m.d = laidB m := rfl
/-- What Encode answers. -/
def encV (m : Msg) : PV := limV (isB m) (laidB m)
theorem c20 (m : Msg) (hm : m.fits) : Pure prog 20 [.agg m.cells] (encV m) := by
  intro H
  (refine callOk_of_pFun2 (tt := ttG) (imm := imm20) follows ttG_ok depth6 func20 (by kernel_rfl) ?_; (conv => whnf))
  refine callK_pure ((c39 m.d hm).of_eq (show PV.bool (isB m.d) = .bool (isB m) from rfl)) ?_
  unfold encV
  cases hb : isB m
  · (conv => whnf)
    exact ⟨by unfold limV; rw [if_neg (by simp)]; rfl, rfl⟩
  · (conv => whnf)
    refine callK_pure ((c41 m.d hb).of_eq (show sl (laidB m.d) = sl (laidB m) from rfl)) ?_
    (conv => whnf)
    refine callK_pure (c40 true (laidB m)) ?_
    unfold limV
    by_cases hl : (laidB m).length ≤ 2000
    · rw [if_pos ⟨rfl, hl⟩]
      (conv => whnf)
      exact ⟨rfl, rfl⟩
    · rw [if_neg (by simp [hl])]
      (conv => whnf)
      exact ⟨rfl, rfl⟩
end Go.Proofs.Tryd

set_option maxRecDepth 100000
set_option linter.unusedVariables false
set_option linter.unusedSimpArgs false
namespace Go.Proofs.Tryd
open Go Ps
def m0 : Msg := ⟨5, [], [], [], [], 0, 0, [], [], 0, [], some 5, [], some 5, [], [], 0, 0, [], [], [], [], 0, [], some 5, [], some 5, [], [], 0, [], some 5, [], some 5, 3, 1⟩
def knownB : List UInt8 := [126, 6, 2, 1, 3, 2, 1, 1]
theorem m0_is : isB m0 = true := by decide
theorem m0_laid : laidB m0 = knownB := by decide
theorem m0_fits : m0.fits := by unfold Msg.fits m0; simp
theorem c21 : Pure prog 21 [] (.bool true) := by
  intro H
  (refine callOk_of_pFun2 (tt := ttG) (imm := imm21) follows ttG_ok depth6 func21 (by kernel_rfl) ?_; (conv => whnf))
  refine callK_pure ((c20 m0 m0_fits).of_eq (show encV m0 = .tup [sl knownB, .int .i64 0] by unfold encV; rw [m0_is, m0_laid]; rfl)) ?_
  (conv => whnf)
  refine ⟨fun _ => ?_, fun h => absurd rfl h⟩
  (conv => whnf)
  refine ⟨knownB, ⟨rfl, rfl⟩, ?_⟩
  (conv => whnf)
  refine ⟨fun _ => ?_, fun h => absurd rfl h⟩
  (conv => whnf)
  exact ⟨rfl, rfl⟩
end Go.Proofs.Tryd

set_option maxRecDepth 100000
set_option linter.unusedVariables false
set_option linter.unusedSimpArgs false
namespace Go.Proofs.Tryd
open Go Ps
def imm31 : List Nat := [1]
def imm32 : List Nat := [1]
def imm18 : List Nat := [1]
def imm7 : List Nat := [2]
theorem wadd {a b : Nat} (h : a + b ≤ 9223372036854775807) : PV.int .i64 (IntKind.i64.wrap ((a : Int) + (b : Int))) = PV.int .i64 ((a + b : Nat) : Int) := by
  rw [wrap64 (by omega) (by omega)]; rfl
theorem c31 (r n : List UInt8) (hr : r.length ≤ 140737488351232) (hn : n.length ≤ 140737488351232) : Pure prog 31 [.agg [.str r, .str n]] (.int .i64 ((r.length + n.length : Nat) : Int)) := by
  intro H
  (refine callOk_of_pFun2 (tt := ttG) (imm := imm31) follows ttG_ok depth6 func31 (by kernel_rfl) ?_; (conv => whnf))
  exact ⟨wadd (by omega), rfl⟩
theorem c32 (r n : List UInt8) (kv : Int) (b : List UInt8) (o : Option Nat) (hr : r.length ≤ 140737488351232) (hn : n.length ≤ 140737488351232) (hb : b.length ≤ 140737488351232) :
    Pure prog 32 [.agg [.str r, .str n, .int .i64 kv, slo b o]] (.int .i64 ((r.length + n.length + b.length : Nat) : Int)) := by
  intro H
  (refine callOk_of_pFun2 (tt := ttG) (imm := imm32) follows ttG_ok depth6 func32 (by kernel_rfl) ?_; (conv => whnf))
  refine drawK_pure2 (by kernel_rfl) ?_
  (conv => whnf)
  (apply Exists.intro; apply And.intro; (focus ((conv => whnf); first | exact ⟨rfl, rfl, trivial⟩ | (refine ⟨by omega, ?_⟩; (conv => whnf); exact ⟨rfl, rfl, trivial⟩))); (conv => whnf))
  (apply Exists.intro; apply And.intro; (focus ((conv => whnf); first | exact ⟨rfl, rfl, trivial⟩ | (refine ⟨by omega, ?_⟩; (conv => whnf); exact ⟨rfl, rfl, trivial⟩))); (conv => whnf))
  refine ⟨_, callK_pure (c31 r n hr hn) ⟨rfl, rfl, trivial⟩, ?_⟩
  (conv => whnf)
  (apply Exists.intro; apply And.intro; (focus ((conv => whnf); first | exact ⟨rfl, rfl, trivial⟩ | (refine ⟨by omega, ?_⟩; (conv => whnf); exact ⟨rfl, rfl, trivial⟩))); (conv => whnf))
  (apply Exists.intro; apply And.intro; (focus ((conv => whnf); first | exact ⟨rfl, rfl, trivial⟩ | (refine ⟨by omega, ?_⟩; (conv => whnf); exact ⟨rfl, rfl, trivial⟩))); (conv => whnf))
  (apply Exists.intro; apply And.intro; (focus ((conv => whnf); first | exact ⟨rfl, rfl, trivial⟩ | (refine ⟨by omega, ?_⟩; (conv => whnf); exact ⟨rfl, rfl, trivial⟩))); (conv => whnf))
  refine ⟨_, ⟨wadd (a := r.length + n.length) (b := b.length) (by omega), rfl, trivial⟩, ?_⟩
  (conv => whnf)
  (apply Exists.intro; apply And.intro; (focus ((conv => whnf); first | exact ⟨rfl, rfl, trivial⟩ | (refine ⟨by omega, ?_⟩; (conv => whnf); exact ⟨rfl, rfl, trivial⟩))); (conv => whnf))
  exact ⟨rfl, rfl⟩
def szN (m : Msg) : Nat := m.a1.length + m.a2.length + (m.a3.length + m.a4.length) + (m.t1.length + m.t2.length + m.tB.length) + m.tAu.length + (m.t3.length + m.t4.length) + (m.r1.length + m.r2.length) + (m.r3.length + m.r4.length + m.rB.length) + m.rBl.length + (m.p1.length + m.p2.length + m.pB.length) + m.pAu.length
def Msg.reach (m : Msg) : Prop := m.a1.length ≤ 140737488351232 ∧ m.a2.length ≤ 140737488351232 ∧ m.a3.length ≤ 140737488351232 ∧ m.a4.length ≤ 140737488351232 ∧ m.t1.length ≤ 140737488351232 ∧ m.t2.length ≤ 140737488351232 ∧ m.tB.length ≤ 140737488351232 ∧ m.tAu.length ≤ 140737488351232 ∧ m.t3.length ≤ 140737488351232 ∧ m.t4.length ≤ 140737488351232 ∧ m.r1.length ≤ 140737488351232 ∧ m.r2.length ≤ 140737488351232 ∧ m.r3.length ≤ 140737488351232 ∧ m.r4.length ≤ 140737488351232 ∧ m.rB.length ≤ 140737488351232 ∧ m.rBl.length ≤ 140737488351232 ∧ m.p1.length ≤ 140737488351232 ∧ m.p2.length ≤ 140737488351232 ∧ m.pB.length ≤ 140737488351232 ∧ m.pAu.length ≤ 140737488351232
theorem c18 (m : Msg) (hm : m.reach) : Pure prog 18 [.agg m.cells] (.int .i64 (szN m : Int)) := by
  intro H
  obtain ⟨g0, g1, g2, g3, g4, g5, g6, g7, g8, g9, g10, g11, g12, g13, g14, g15, g16, g17, g18, g19⟩ := hm
  (refine callOk_of_pFun2 (tt := ttG) (imm := imm18) follows ttG_ok depth6 func18 (by kernel_rfl) ?_; (conv => whnf))
  refine drawK_pure2 (by kernel_rfl) ?_
  (conv => whnf)
  (apply Exists.intro; apply And.intro; (focus ((conv => whnf); first | exact ⟨rfl, rfl, trivial⟩ | (refine ⟨by omega, ?_⟩; (conv => whnf); exact ⟨rfl, rfl, trivial⟩))); (conv => whnf))
  (apply Exists.intro; apply And.intro; (focus ((conv => whnf); first | exact ⟨rfl, rfl, trivial⟩ | (refine ⟨by omega, ?_⟩; (conv => whnf); exact ⟨rfl, rfl, trivial⟩))); (conv => whnf))
  (apply Exists.intro; apply And.intro; (focus ((conv => whnf); first | exact ⟨rfl, rfl, trivial⟩ | (refine ⟨by omega, ?_⟩; (conv => whnf); exact ⟨rfl, rfl, trivial⟩))); (conv => whnf))
  refine ⟨_, callK_pure (c31 m.a1 m.a2 (by omega) (by omega)) ⟨rfl, rfl, trivial⟩, ?_⟩
  (conv => whnf)
  (apply Exists.intro; apply And.intro; (focus ((conv => whnf); first | exact ⟨rfl, rfl, trivial⟩ | (refine ⟨by omega, ?_⟩; (conv => whnf); exact ⟨rfl, rfl, trivial⟩))); (conv => whnf))
  (apply Exists.intro; apply And.intro; (focus ((conv => whnf); first | exact ⟨rfl, rfl, trivial⟩ | (refine ⟨by omega, ?_⟩; (conv => whnf); exact ⟨rfl, rfl, trivial⟩))); (conv => whnf))
  (apply Exists.intro; apply And.intro; (focus ((conv => whnf); first | exact ⟨rfl, rfl, trivial⟩ | (refine ⟨by omega, ?_⟩; (conv => whnf); exact ⟨rfl, rfl, trivial⟩))); (conv => whnf))
  refine ⟨_, callK_pure (c31 m.a3 m.a4 (by omega) (by omega)) ⟨rfl, rfl, trivial⟩, ?_⟩
  (conv => whnf)
  refine ⟨_, ⟨wadd (a := m.a1.length + m.a2.length) (b := (m.a3.length + m.a4.length)) (by omega), rfl, trivial⟩, ?_⟩
  (conv => whnf)
  (apply Exists.intro; apply And.intro; (focus ((conv => whnf); first | exact ⟨rfl, rfl, trivial⟩ | (refine ⟨by omega, ?_⟩; (conv => whnf); exact ⟨rfl, rfl, trivial⟩))); (conv => whnf))
  (apply Exists.intro; apply And.intro; (focus ((conv => whnf); first | exact ⟨rfl, rfl, trivial⟩ | (refine ⟨by omega, ?_⟩; (conv => whnf); exact ⟨rfl, rfl, trivial⟩))); (conv => whnf))
  (apply Exists.intro; apply And.intro; (focus ((conv => whnf); first | exact ⟨rfl, rfl, trivial⟩ | (refine ⟨by omega, ?_⟩; (conv => whnf); exact ⟨rfl, rfl, trivial⟩))); (conv => whnf))
  refine ⟨_, callK_pure (c32 m.t1 m.t2 m.tKv m.tB none (by omega) (by omega) (by omega)) ⟨rfl, rfl, trivial⟩, ?_⟩
  (conv => whnf)
  refine ⟨_, ⟨wadd (a := m.a1.length + m.a2.length + (m.a3.length + m.a4.length)) (b := (m.t1.length + m.t2.length + m.tB.length)) (by omega), rfl, trivial⟩, ?_⟩
  (conv => whnf)
  (apply Exists.intro; apply And.intro; (focus ((conv => whnf); first | exact ⟨rfl, rfl, trivial⟩ | (refine ⟨by omega, ?_⟩; (conv => whnf); exact ⟨rfl, rfl, trivial⟩))); (conv => whnf))
  (apply Exists.intro; apply And.intro; (focus ((conv => whnf); first | exact ⟨rfl, rfl, trivial⟩ | (refine ⟨by omega, ?_⟩; (conv => whnf); exact ⟨rfl, rfl, trivial⟩))); (conv => whnf))
  (apply Exists.intro; apply And.intro; (focus ((conv => whnf); first | exact ⟨rfl, rfl, trivial⟩ | (refine ⟨by omega, ?_⟩; (conv => whnf); exact ⟨rfl, rfl, trivial⟩))); (conv => whnf))
  (apply Exists.intro; apply And.intro; (focus ((conv => whnf); first | exact ⟨rfl, rfl, trivial⟩ | (refine ⟨by omega, ?_⟩; (conv => whnf); exact ⟨rfl, rfl, trivial⟩))); (conv => whnf))
  refine ⟨_, ⟨wadd (a := m.a1.length + m.a2.length + (m.a3.length + m.a4.length) + (m.t1.length + m.t2.length + m.tB.length)) (b := m.tAu.length) (by omega), rfl, trivial⟩, ?_⟩
  (conv => whnf)
  (apply Exists.intro; apply And.intro; (focus ((conv => whnf); first | exact ⟨rfl, rfl, trivial⟩ | (refine ⟨by omega, ?_⟩; (conv => whnf); exact ⟨rfl, rfl, trivial⟩))); (conv => whnf))
  (apply Exists.intro; apply And.intro; (focus ((conv => whnf); first | exact ⟨rfl, rfl, trivial⟩ | (refine ⟨by omega, ?_⟩; (conv => whnf); exact ⟨rfl, rfl, trivial⟩))); (conv => whnf))
  (apply Exists.intro; apply And.intro; (focus ((conv => whnf); first | exact ⟨rfl, rfl, trivial⟩ | (refine ⟨by omega, ?_⟩; (conv => whnf); exact ⟨rfl, rfl, trivial⟩))); (conv => whnf))
  refine ⟨_, callK_pure (c31 m.t3 m.t4 (by omega) (by omega)) ⟨rfl, rfl, trivial⟩, ?_⟩
  (conv => whnf)
  refine ⟨_, ⟨wadd (a := m.a1.length + m.a2.length + (m.a3.length + m.a4.length) + (m.t1.length + m.t2.length + m.tB.length) + m.tAu.length) (b := (m.t3.length + m.t4.length)) (by omega), rfl, trivial⟩, ?_⟩
  (conv => whnf)
  (apply Exists.intro; apply And.intro; (focus ((conv => whnf); first | exact ⟨rfl, rfl, trivial⟩ | (refine ⟨by omega, ?_⟩; (conv => whnf); exact ⟨rfl, rfl, trivial⟩))); (conv => whnf))
  (apply Exists.intro; apply And.intro; (focus ((conv => whnf); first | exact ⟨rfl, rfl, trivial⟩ | (refine ⟨by omega, ?_⟩; (conv => whnf); exact ⟨rfl, rfl, trivial⟩))); (conv => whnf))
  (apply Exists.intro; apply And.intro; (focus ((conv => whnf); first | exact ⟨rfl, rfl, trivial⟩ | (refine ⟨by omega, ?_⟩; (conv => whnf); exact ⟨rfl, rfl, trivial⟩))); (conv => whnf))
  refine ⟨_, callK_pure (c31 m.r1 m.r2 (by omega) (by omega)) ⟨rfl, rfl, trivial⟩, ?_⟩
  (conv => whnf)
  refine ⟨_, ⟨wadd (a := m.a1.length + m.a2.length + (m.a3.length + m.a4.length) + (m.t1.length + m.t2.length + m.tB.length) + m.tAu.length + (m.t3.length + m.t4.length)) (b := (m.r1.length + m.r2.length)) (by omega), rfl, trivial⟩, ?_⟩
  (conv => whnf)
  (apply Exists.intro; apply And.intro; (focus ((conv => whnf); first | exact ⟨rfl, rfl, trivial⟩ | (refine ⟨by omega, ?_⟩; (conv => whnf); exact ⟨rfl, rfl, trivial⟩))); (conv => whnf))
  (apply Exists.intro; apply And.intro; (focus ((conv => whnf); first | exact ⟨rfl, rfl, trivial⟩ | (refine ⟨by omega, ?_⟩; (conv => whnf); exact ⟨rfl, rfl, trivial⟩))); (conv => whnf))
  (apply Exists.intro; apply And.intro; (focus ((conv => whnf); first | exact ⟨rfl, rfl, trivial⟩ | (refine ⟨by omega, ?_⟩; (conv => whnf); exact ⟨rfl, rfl, trivial⟩))); (conv => whnf))
  refine ⟨_, callK_pure (c32 m.r3 m.r4 m.rKv m.rB none (by omega) (by omega) (by omega)) ⟨rfl, rfl, trivial⟩, ?_⟩
  (conv => whnf)
  refine ⟨_, ⟨wadd (a := m.a1.length + m.a2.length + (m.a3.length + m.a4.length) + (m.t1.length + m.t2.length + m.tB.length) + m.tAu.length + (m.t3.length + m.t4.length) + (m.r1.length + m.r2.length)) (b := (m.r3.length + m.r4.length + m.rB.length)) (by omega), rfl, trivial⟩, ?_⟩
  (conv => whnf)
  (apply Exists.intro; apply And.intro; (focus ((conv => whnf); first | exact ⟨rfl, rfl, trivial⟩ | (refine ⟨by omega, ?_⟩; (conv => whnf); exact ⟨rfl, rfl, trivial⟩))); (conv => whnf))
  (apply Exists.intro; apply And.intro; (focus ((conv => whnf); first | exact ⟨rfl, rfl, trivial⟩ | (refine ⟨by omega, ?_⟩; (conv => whnf); exact ⟨rfl, rfl, trivial⟩))); (conv => whnf))
  (apply Exists.intro; apply And.intro; (focus ((conv => whnf); first | exact ⟨rfl, rfl, trivial⟩ | (refine ⟨by omega, ?_⟩; (conv => whnf); exact ⟨rfl, rfl, trivial⟩))); (conv => whnf))
  (apply Exists.intro; apply And.intro; (focus ((conv => whnf); first | exact ⟨rfl, rfl, trivial⟩ | (refine ⟨by omega, ?_⟩; (conv => whnf); exact ⟨rfl, rfl, trivial⟩))); (conv => whnf))
  refine ⟨_, ⟨wadd (a := m.a1.length + m.a2.length + (m.a3.length + m.a4.length) + (m.t1.length + m.t2.length + m.tB.length) + m.tAu.length + (m.t3.length + m.t4.length) + (m.r1.length + m.r2.length) + (m.r3.length + m.r4.length + m.rB.length)) (b := m.rBl.length) (by omega), rfl, trivial⟩, ?_⟩
  (conv => whnf)
  (apply Exists.intro; apply And.intro; (focus ((conv => whnf); first | exact ⟨rfl, rfl, trivial⟩ | (refine ⟨by omega, ?_⟩; (conv => whnf); exact ⟨rfl, rfl, trivial⟩))); (conv => whnf))
  (apply Exists.intro; apply And.intro; (focus ((conv => whnf); first | exact ⟨rfl, rfl, trivial⟩ | (refine ⟨by omega, ?_⟩; (conv => whnf); exact ⟨rfl, rfl, trivial⟩))); (conv => whnf))
  (apply Exists.intro; apply And.intro; (focus ((conv => whnf); first | exact ⟨rfl, rfl, trivial⟩ | (refine ⟨by omega, ?_⟩; (conv => whnf); exact ⟨rfl, rfl, trivial⟩))); (conv => whnf))
  refine ⟨_, callK_pure (c32 m.p1 m.p2 m.pKv m.pB none (by omega) (by omega) (by omega)) ⟨rfl, rfl, trivial⟩, ?_⟩
  (conv => whnf)
  refine ⟨_, ⟨wadd (a := m.a1.length + m.a2.length + (m.a3.length + m.a4.length) + (m.t1.length + m.t2.length + m.tB.length) + m.tAu.length + (m.t3.length + m.t4.length) + (m.r1.length + m.r2.length) + (m.r3.length + m.r4.length + m.rB.length) + m.rBl.length) (b := (m.p1.length + m.p2.length + m.pB.length)) (by omega), rfl, trivial⟩, ?_⟩
  (conv => whnf)
  (apply Exists.intro; apply And.intro; (focus ((conv => whnf); first | exact ⟨rfl, rfl, trivial⟩ | (refine ⟨by omega, ?_⟩; (conv => whnf); exact ⟨rfl, rfl, trivial⟩))); (conv => whnf))
  (apply Exists.intro; apply And.intro; (focus ((conv => whnf); first | exact ⟨rfl, rfl, trivial⟩ | (refine ⟨by omega, ?_⟩; (conv => whnf); exact ⟨rfl, rfl, trivial⟩))); (conv => whnf))
  (apply Exists.intro; apply And.intro; (focus ((conv => whnf); first | exact ⟨rfl, rfl, trivial⟩ | (refine ⟨by omega, ?_⟩; (conv => whnf); exact ⟨rfl, rfl, trivial⟩))); (conv => whnf))
  (apply Exists.intro; apply And.intro; (focus ((conv => whnf); first | exact ⟨rfl, rfl, trivial⟩ | (refine ⟨by omega, ?_⟩; (conv => whnf); exact ⟨rfl, rfl, trivial⟩))); (conv => whnf))
  refine ⟨_, ⟨wadd (a := m.a1.length + m.a2.length + (m.a3.length + m.a4.length) + (m.t1.length + m.t2.length + m.tB.length) + m.tAu.length + (m.t3.length + m.t4.length) + (m.r1.length + m.r2.length) + (m.r3.length + m.r4.length + m.rB.length) + m.rBl.length + (m.p1.length + m.p2.length + m.pB.length)) (b := m.pAu.length) (by omega), rfl, trivial⟩, ?_⟩
  (conv => whnf)
  (apply Exists.intro; apply And.intro; (focus ((conv => whnf); first | exact ⟨rfl, rfl, trivial⟩ | (refine ⟨by omega, ?_⟩; (conv => whnf); exact ⟨rfl, rfl, trivial⟩))); (conv => whnf))
  exact ⟨rfl, rfl⟩
theorem enc_no {m : Msg} (h : isB m = false) : encV m = .tup [.slice 0 [] (some 5), .int .i64 1] := by
  unfold encV limV; rw [h, if_neg (by simp)]
theorem isB_others {m : Msg} (h : othersB m = false) : isB m = false := by unfold isB; rw [h, Bool.and_false]
theorem fits_of {m : Msg} (h : szN m ≤ 5000) : m.fits := by
  unfold szN at h
  unfold Msg.fits
  omega
theorem c7 (m : Msg) (nonce : Int) (hr : m.reach) (H : PH) : CallOk prog 7 [.agg m.cells, .int .i64 nonce] H fun r H' => r = .bool true ∧ ∃ ext, H' = H ++ ext := by
  (refine callOk_of_pFun2 (tt := ttG) (imm := imm7) follows ttG_ok depth6 func7 (by kernel_rfl) ?_; (conv => whnf))
  refine callK_pure (c18 m.d hr) ?_
  (conv => whnf)
  refine ⟨fun h => ?_, fun h => ?_⟩
  · (conv => whnf)
    exact ⟨rfl, Ext.refl _⟩
  have hm : m.fits := fits_of (by have h : ¬ (5000 : Int) < (szN m : Int) := h; omega)
  (conv => whnf)
  refine ⟨fun h1 => ?_, fun h1 => ?_⟩
  · (conv => whnf)
    exact ⟨rfl, Ext.refl _⟩
  have h1 : ¬ nonce < 1 := h1
  (conv => whnf)
  refine ⟨fun h2 => ?_, fun h2 => ?_⟩
  · (conv => whnf)
    exact ⟨rfl, Ext.refl _⟩
  (conv => whnf)
  refine callK_pure ((c19 m.d hm).of_eq (show PV.bool (isB m.d) = .bool (isB m) from rfl)) ?_
  cases hi : isB m
  · (conv => whnf)
    exact ⟨rfl, Ext.refl _⟩
  (conv => whnf)
  ((conv in (_[_]?) => tactic => exact get_last _ _); (conv => whnf))
  refine ⟨fun h5 => ?_, fun h5 => ?_⟩
  · have h5 : m.kind = 5 := h5
    (conv => whnf)
    ((conv in (_[_]?) => tactic => exact get_set (get_last _ _)); (conv => whnf))
    ((conv in (_[_]?) => tactic => exact get_set (get_set (get_last _ _))); (conv => whnf))
    refine callK_pure ((c20 { m.d with aNonce := nonce } hm).of_eq (enc_no (isB_others ?_))) ?_
    · have e5 : decide (m.kind = 1) = false := decide_eq_false (by omega)
      have e6 : noAs { m.d with aNonce := nonce } = false := decide_eq_false fun hh => by have := hh.2.2.2.2.2; simp at this; omega
      unfold othersB
      rw [e6]
      show ((decide (m.kind = 1) || false) && _ && _ && _ && _) = false
      rw [e5]; rfl
    (conv => whnf)
    refine ⟨fun _ => ?_, fun h => absurd rfl h⟩
    (conv => whnf)
    refine callK_pure c21 ?_
    (conv => whnf)
    exact ⟨rfl, (((Ext.refl _).push _).set (Ext.refl _).len _).set (Ext.refl _).len _⟩
  · have h5 : ¬ m.kind = 5 := h5
    (conv => whnf)
    ((conv in (_[_]?) => tactic => exact get_set (get_last _ _)); (conv => whnf))
    ((conv in (_[_]?) => tactic => exact get_set (get_set (get_last _ _))); (conv => whnf))
    refine callK_pure ((c20 { m.d with fNonce := nonce } hm).of_eq (enc_no (isB_others ?_))) ?_
    · have e5 : decide (m.kind = 5) = false := decide_eq_false h5
      have e6 : noFail { m.d with fNonce := nonce } = false := decide_eq_false fun hh => by have := hh.2; simp at this; omega
      unfold othersB
      rw [e6]
      show (_ && (decide (m.kind = 5) || false)) = false
      rw [e5, Bool.or_false, Bool.and_false]
    (conv => whnf)
    refine ⟨fun _ => ?_, fun h => absurd rfl h⟩
    (conv => whnf)
    refine callK_pure c21 ?_
    (conv => whnf)
    exact ⟨rfl, (((Ext.refl _).push _).set (Ext.refl _).len _).set (Ext.refl _).len _⟩
end Go.Proofs.Tryd

set_option maxRecDepth 100000
set_option linter.unusedVariables false
set_option linter.unusedSimpArgs false
namespace Go.Proofs.Tryd
open Go Ps
def imm8 : List Nat := []
def m2 (k : Nat) (kv till nonce : Int) : Msg := ⟨2, [], [], [], [], 0, 0, [65], [120], kv, List.replicate k 0, none, [1], none, [65], [120], till, nonce, [], [], [], [], 0, [], some 5, [], some 5, [], [], 0, [], some 5, [], some 5, 0, 0⟩
theorem zeros_rep : ∀ k : Nat, zerosOf [PV.int .u8 0] k = (List.replicate k (0 : UInt8)).map byteC
  | 0 => rfl
  | k + 1 => by
    show [PV.int .u8 0] ++ zerosOf [PV.int .u8 0] k = _
    rw [zeros_rep k, List.replicate_succ]; rfl
theorem pax : isPrincB [65] [120] = true := by decide
theorem m2_is (k : Nat) (kv till nonce : Int) : isB (m2 k kv till nonce) = (inZ kv 1 255 && inZ k 1 800 && inZ till 0 1073741824 && inZ nonce 0 1073741824) := by
  have h1 : othersB (m2 k kv till nonce) = true := by
    unfold othersB
    rw [show (decide ((m2 k kv till nonce).kind = 2) || noTgs (m2 k kv till nonce)) = true from rfl]
    rfl
  unfold isB
  rw [h1, Bool.and_true]
  show (tickB [65] [120] kv (List.replicate k (0 : UInt8)).length && inZ 1 1 800 && isPrincB [65] [120] && inZ till 0 1073741824 && inZ nonce 0 1073741824) = _
  unfold tickB
  rw [pax, List.length_replicate, show inZ 1 1 800 = true from rfl, Bool.true_and, Bool.and_true, Bool.and_true]
theorem m2_enc (k : Nat) (kv till nonce : Int) (h : isB (m2 k kv till nonce) = true) : encV (m2 k kv till nonce) = .tup [sl (laidB (m2 k kv till nonce)), .int .i64 0] := by
  suffices hl : (laidB (m2 k kv till nonce)).length ≤ 2000 by
    unfold encV limV
    rw [h, if_pos ⟨rfl, hl⟩]
  have hk : k ≤ 800 := by
    rw [m2_is] at h
    simp only [Bool.and_eq_true] at h
    have := inZ_le h.1.1.2
    omega
  have h0 := wrapB_len 108 [ticketE [65] [120] kv (List.replicate k 0), wrapB 4 [1], princE [65] [120], intE till, intE nonce].flatten
  have h1 := ticketE_len [65] [120] kv (List.replicate k 0)
  have h2 := wrapB_len 4 [1]
  have h3 := princE_len [65] [120]
  have h4 := intE_len till
  have h5 := intE_len nonce
  show (wrapB 108 [ticketE [65] [120] kv (List.replicate k 0), wrapB 4 [1], princE [65] [120], intE till, intE nonce].flatten).length ≤ 2000
  simp only [List.flatten_cons, List.flatten_nil, List.length_append, List.length_nil, List.length_replicate, List.length_cons] at h0 h1 h2 h3 ⊢
  omega
theorem m2_fits {k : Nat} {kv till nonce : Int} : (m2 k kv till nonce).fits := by unfold Msg.fits m2; simp
def o23 : PObj := ⟨23, [.str [65], .str [120]], 1⟩
def D8 : Draw := { imp := [11], robs := [z55], res := [(10, 0)], base := 1 }
theorem c8 (blob kv till nonce : Int) : CallOk prog 8 [.int .i64 blob, .int .i64 kv, .int .i64 till, .int .i64 nonce] [] fun r _ => r = .bool true := by
  (refine callOk_of_pFun2 (tt := ttG) (imm := imm8) follows ttG_ok depth6 func8 (by kernel_rfl) ?_; (conv => whnf))
  refine ⟨fun h => ?_, fun h => ?_⟩
  · (conv => whnf)
    rfl
  have h : ¬ blob < 0 := h
  (conv => whnf)
  refine ⟨fun h1 => ?_, fun h1 => ?_⟩
  · (conv => whnf)
    rfl
  have h1 : ¬ (1000 : Int) < blob := h1
  obtain ⟨k, rfl⟩ : ∃ k : Nat, blob = (k : Int) := ⟨blob.toNat, by omega⟩
  (conv => whnf)
  refine drawK_of2 D8 [[o23, z55], [o23, PObj.mk 55 [.str [65], .str [120], .int .i64 kv, slo (List.replicate k 0) none, slo [1] none, .str [65], .str [120], .int .i64 till, .int .i64 nonce] 1]] (by kernel_rfl) ⟨rfl, rfl⟩ trivial ?_
  (conv => whnf)
  (apply Exists.intro; apply And.intro; (focus ((conv => whnf); first | exact ⟨rfl, rfl, trivial⟩ | (refine ⟨by omega, ?_⟩; (conv => whnf); exact ⟨rfl, rfl, trivial⟩))); (conv => whnf))
  (apply Exists.intro; apply And.intro; (focus ((conv => whnf); first | exact ⟨rfl, rfl, trivial⟩ | (refine ⟨by omega, ?_⟩; (conv => whnf); exact ⟨rfl, rfl, trivial⟩))); (conv => whnf))
  (apply Exists.intro; apply And.intro; (focus ((conv => whnf); first | exact ⟨rfl, rfl, trivial⟩ | (refine ⟨by omega, ?_⟩; (conv => whnf); exact ⟨rfl, rfl, trivial⟩))); (conv => whnf))
  refine ⟨.slice (List.replicate k (0 : UInt8)).length ((List.replicate k (0 : UInt8)).map byteC) (some 5), ?_, ?_⟩
  · (conv => whnf)
    refine ⟨⟨by omega, by omega, by show (k : Int) * 1 ≤ _; omega⟩, ?_⟩
    (conv => whnf)
    refine ⟨?_, rfl, trivial⟩
    show PV.slice (k : Int).toNat (zerosOf [PV.int .u8 0] (k : Int).toNat) (some 5) = _
    rw [Int.toNat_natCast, zeros_rep, List.length_replicate]
  (conv => whnf)
  (apply Exists.intro; apply And.intro; (focus ((conv => whnf); first | exact ⟨rfl, rfl, trivial⟩ | (refine ⟨by omega, ?_⟩; (conv => whnf); exact ⟨rfl, rfl, trivial⟩))); (conv => whnf))
  (apply Exists.intro; apply And.intro; (focus ((conv => whnf); first | exact ⟨rfl, rfl, trivial⟩ | (refine ⟨by omega, ?_⟩; (conv => whnf); exact ⟨rfl, rfl, trivial⟩))); (conv => whnf))
  (apply Exists.intro; apply And.intro; (focus ((conv => whnf); first | exact ⟨rfl, rfl, trivial⟩ | (refine ⟨by omega, ?_⟩; (conv => whnf); exact ⟨rfl, rfl, trivial⟩))); (conv => whnf))
  (apply Exists.intro; apply And.intro; (focus ((conv => whnf); first | exact ⟨rfl, rfl, trivial⟩ | (refine ⟨by omega, ?_⟩; (conv => whnf); exact ⟨rfl, rfl, trivial⟩))); (conv => whnf))
  (apply Exists.intro; apply And.intro; (focus ((conv => whnf); first | exact ⟨rfl, rfl, trivial⟩ | (refine ⟨by omega, ?_⟩; (conv => whnf); exact ⟨rfl, rfl, trivial⟩))); (conv => whnf))
  (apply Exists.intro; apply And.intro; (focus ((conv => whnf); first | exact ⟨rfl, rfl, trivial⟩ | (refine ⟨by omega, ?_⟩; (conv => whnf); exact ⟨rfl, rfl, trivial⟩))); (conv => whnf))
  refine ⟨_, ⟨⟨rfl, rfl, trivial⟩, rfl⟩, ?_⟩
  (conv => whnf)
  (apply Exists.intro; apply And.intro; (focus ((conv => whnf); first | exact ⟨rfl, rfl, trivial⟩ | (refine ⟨by omega, ?_⟩; (conv => whnf); exact ⟨rfl, rfl, trivial⟩))); (conv => whnf))
  refine callK_pure (c20 (m2 k kv till nonce) m2_fits) ?_
  cases hi : isB (m2 k kv till nonce)
  · rw [enc_no hi]
    have hn : ¬ ((1 : Int) ≤ k ∧ (k : Int) ≤ 800 ∧ 1 ≤ kv ∧ kv ≤ 255 ∧ 0 ≤ till ∧ till ≤ 1073741824 ∧ 0 ≤ nonce ∧ nonce ≤ 1073741824) := fun ⟨a1, a2, a3, a4, a5, a6, a7, a8⟩ => by
      rw [m2_is] at hi
      unfold inZ at hi
      simp [a3, a4, a5, a6, a7, a8] at hi
      have := hi (by omega)
      omega
    (conv => whnf)
    refine ⟨fun b0 => ?_, fun b0 => ?_⟩
    rotate_left
    · (conv => whnf)
      refine ⟨fun h => absurd h (by decide), fun _ => ?_⟩
      (conv => whnf)
      refine ⟨fun _ => ?_, fun h => absurd rfl h⟩
      (conv => whnf)
      refine callK_pure c21 ?_
      (conv => whnf)
      rfl
    have b0 : (1 : Int) ≤ k := b0
    (conv => whnf)
    refine ⟨fun b1 => ?_, fun b1 => ?_⟩
    rotate_left
    · (conv => whnf)
      refine ⟨fun h => absurd h (by decide), fun _ => ?_⟩
      (conv => whnf)
      refine ⟨fun _ => ?_, fun h => absurd rfl h⟩
      (conv => whnf)
      refine callK_pure c21 ?_
      (conv => whnf)
      rfl
    have b1 : (k : Int) ≤ 800 := b1
    (conv => whnf)
    refine ⟨fun b2 => ?_, fun b2 => ?_⟩
    rotate_left
    · (conv => whnf)
      refine ⟨fun h => absurd h (by decide), fun _ => ?_⟩
      (conv => whnf)
      refine ⟨fun _ => ?_, fun h => absurd rfl h⟩
      (conv => whnf)
      refine callK_pure c21 ?_
      (conv => whnf)
      rfl
    have b2 : 1 ≤ kv := b2
    (conv => whnf)
    refine ⟨fun b3 => ?_, fun b3 => ?_⟩
    rotate_left
    · (conv => whnf)
      refine ⟨fun h => absurd h (by decide), fun _ => ?_⟩
      (conv => whnf)
      refine ⟨fun _ => ?_, fun h => absurd rfl h⟩
      (conv => whnf)
      refine callK_pure c21 ?_
      (conv => whnf)
      rfl
    have b3 : kv ≤ 255 := b3
    (conv => whnf)
    refine ⟨fun b4 => ?_, fun b4 => ?_⟩
    rotate_left
    · (conv => whnf)
      refine ⟨fun h => absurd h (by decide), fun _ => ?_⟩
      (conv => whnf)
      refine ⟨fun _ => ?_, fun h => absurd rfl h⟩
      (conv => whnf)
      refine callK_pure c21 ?_
      (conv => whnf)
      rfl
    have b4 : 0 ≤ till := b4
    (conv => whnf)
    refine ⟨fun b5 => ?_, fun b5 => ?_⟩
    rotate_left
    · (conv => whnf)
      refine ⟨fun h => absurd h (by decide), fun _ => ?_⟩
      (conv => whnf)
      refine ⟨fun _ => ?_, fun h => absurd rfl h⟩
      (conv => whnf)
      refine callK_pure c21 ?_
      (conv => whnf)
      rfl
    have b5 : till ≤ 1073741824 := b5
    (conv => whnf)
    refine ⟨fun b6 => ?_, fun b6 => ?_⟩
    rotate_left
    · (conv => whnf)
      refine ⟨fun h => absurd h (by decide), fun _ => ?_⟩
      (conv => whnf)
      refine ⟨fun _ => ?_, fun h => absurd rfl h⟩
      (conv => whnf)
      refine callK_pure c21 ?_
      (conv => whnf)
      rfl
    have b6 : 0 ≤ nonce := b6
    (conv => whnf)
    refine ⟨fun b7 => ?_, fun b7 => ?_⟩
    rotate_left
    · (conv => whnf)
      refine ⟨fun h => absurd h (by decide), fun _ => ?_⟩
      (conv => whnf)
      refine ⟨fun _ => ?_, fun h => absurd rfl h⟩
      (conv => whnf)
      refine callK_pure c21 ?_
      (conv => whnf)
      rfl
    have b7 : nonce ≤ 1073741824 := b7
    (conv => whnf)
    exact absurd ⟨b0, b1, b2, b3, b4, b5, b6, b7⟩ hn
  · rw [m2_enc k kv till nonce hi]
    rw [m2_is] at hi
    simp only [Bool.and_eq_true] at hi
    have g1 := inZ_le hi.1.1.1
    have g2 := inZ_le hi.1.1.2
    have g3 := inZ_le hi.1.2
    have g4 := inZ_le hi.2
    (conv => whnf)
    refine ⟨fun b0 => ?_, fun b0 => ?_⟩
    rotate_left
    · exact absurd (show (1 : Int) ≤ k by omega) b0
    (conv => whnf)
    refine ⟨fun b1 => ?_, fun b1 => ?_⟩
    rotate_left
    · exact absurd (show (k : Int) ≤ 800 by omega) b1
    (conv => whnf)
    refine ⟨fun b2 => ?_, fun b2 => ?_⟩
    rotate_left
    · exact absurd (show 1 ≤ kv by omega) b2
    (conv => whnf)
    refine ⟨fun b3 => ?_, fun b3 => ?_⟩
    rotate_left
    · exact absurd (show kv ≤ 255 by omega) b3
    (conv => whnf)
    refine ⟨fun b4 => ?_, fun b4 => ?_⟩
    rotate_left
    · exact absurd (show 0 ≤ till by omega) b4
    (conv => whnf)
    refine ⟨fun b5 => ?_, fun b5 => ?_⟩
    rotate_left
    · exact absurd (show till ≤ 1073741824 by omega) b5
    (conv => whnf)
    refine ⟨fun b6 => ?_, fun b6 => ?_⟩
    rotate_left
    · exact absurd (show 0 ≤ nonce by omega) b6
    (conv => whnf)
    refine ⟨fun b7 => ?_, fun b7 => ?_⟩
    rotate_left
    · exact absurd (show nonce ≤ 1073741824 by omega) b7
    (conv => whnf)
    refine ⟨fun _ => ?_, fun h => absurd rfl h⟩
    (conv => whnf)
    refine callK_pure c21 ?_
    (conv => whnf)
    rfl
end Go.Proofs.Tryd
