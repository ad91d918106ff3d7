import Derived.Test.YtbejjlmdmakdfaaGreatDoorA1
set_option linter.all false
set_option maxRecDepth 100000
set_option maxHeartbeats 2000000
set_option linter.unusedVariables false
set_option linter.unusedSimpArgs false
namespace Go.Proofs.Tryz
open Go Ps
theorem limV_yes {ok : Bool} {b : List UInt8} (h : ok = true ∧ b.length ≤ 2000) : limV ok b = .tup [sl b, .int .i64 0] := if_pos h
theorem limV_no {ok : Bool} {b : List UInt8} (h : ¬ (ok = true ∧ b.length ≤ 2000)) : limV ok b = .tup [.slice 0 [] (some 5), .int .i64 1] := if_neg h
theorem c16 (p : Prt) (hr : p.r.length ≤ 1000000) (hn : p.n.length ≤ 1000000) (ht : p.tr.length ≤ 1000000) : Pure prog 16 [.agg p.cells] (encPV p) := by
  intro H
  have h1 := princE_len p.r p.n
  have h2 := wrapB_len 4 (keyB p.k)
  have h3 := wrapB_len 27 p.tr
  have h4 := intE_len p.st
  have h5 := intE_len p.en
  have h6 := keyB_len p.k
  (refine callOk_of_pFun2 (tt := ttC) (imm := imm16) follows ttC_ok depth6 func16 (by kernel_rfl) ?_; (conv => whnf))
  refine drawK_pure2 (by kernel_rfl) ?_
  (conv => whnf)
  (apply Exists.intro; apply And.intro; (focus ((conv => whnf); first | exact ⟨rfl, rfl, trivial⟩ | (refine ⟨by omega, ?_⟩; (conv => whnf); exact ⟨rfl, rfl, trivial⟩))); (conv => whnf))
  (apply Exists.intro; apply And.intro; (focus ((conv => whnf); first | exact ⟨rfl, rfl, trivial⟩ | (refine ⟨by omega, ?_⟩; (conv => whnf); exact ⟨rfl, rfl, trivial⟩))); (conv => whnf))
  refine ⟨_, callK_pure (c61 p.r p.n (by omega) (by omega)) ⟨rfl, rfl, trivial⟩, ?_⟩
  (conv => whnf)
  cases f1 : isPrincB p.r p.n
  · (apply Exists.intro; apply And.intro; (focus ((conv => whnf); first | exact ⟨rfl, rfl, trivial⟩ | (refine ⟨by omega, ?_⟩; (conv => whnf); exact ⟨rfl, rfl, trivial⟩))); (conv => whnf))
    (apply Exists.intro; apply And.intro; (focus ((conv => whnf); first | exact ⟨rfl, rfl, trivial⟩ | (refine ⟨by omega, ?_⟩; (conv => whnf); exact ⟨rfl, rfl, trivial⟩))); (conv => whnf))
    (apply Exists.intro; apply And.intro; (focus ((conv => whnf); first | exact ⟨rfl, rfl, trivial⟩ | (refine ⟨by omega, ?_⟩; (conv => whnf); exact ⟨rfl, rfl, trivial⟩))); (conv => whnf))
    (apply Exists.intro; apply And.intro; (focus ((conv => whnf); first | exact ⟨rfl, rfl, trivial⟩ | (refine ⟨by omega, ?_⟩; (conv => whnf); exact ⟨rfl, rfl, trivial⟩))); (conv => whnf))
    (apply Exists.intro; apply And.intro; (focus ((conv => whnf); first | exact ⟨rfl, rfl, trivial⟩ | (refine ⟨by omega, ?_⟩; (conv => whnf); exact ⟨rfl, rfl, trivial⟩))); (conv => whnf))
    (apply Exists.intro; apply And.intro; (focus ((conv => whnf); first | exact ⟨rfl, rfl, trivial⟩ | (refine ⟨by omega, ?_⟩; (conv => whnf); exact ⟨rfl, rfl, trivial⟩))); (conv => whnf))
    (apply Exists.intro; apply And.intro; (focus ((conv => whnf); first | exact ⟨rfl, rfl, trivial⟩ | (refine ⟨by omega, ?_⟩; (conv => whnf); exact ⟨rfl, rfl, trivial⟩))); (conv => whnf))
    (apply Exists.intro; apply And.intro; (focus ((conv => whnf); first | exact ⟨rfl, rfl, trivial⟩ | (refine ⟨by omega, ?_⟩; (conv => whnf); exact ⟨rfl, rfl, trivial⟩))); (conv => whnf))
    (apply Exists.intro; apply And.intro; (focus ((conv => whnf); first | exact ⟨rfl, rfl, trivial⟩ | (refine ⟨by omega, ?_⟩; (conv => whnf); exact ⟨rfl, rfl, trivial⟩))); (conv => whnf))
    (apply Exists.intro; apply And.intro; (focus ((conv => whnf); first | exact ⟨rfl, rfl, trivial⟩ | (refine ⟨by omega, ?_⟩; (conv => whnf); exact ⟨rfl, rfl, trivial⟩))); (conv => whnf))
    (apply Exists.intro; apply And.intro; (focus ((conv => whnf); first | exact ⟨rfl, rfl, trivial⟩ | (refine ⟨by omega, ?_⟩; (conv => whnf); exact ⟨rfl, rfl, trivial⟩))); (conv => whnf))
    (apply Exists.intro; apply And.intro; (focus ((conv => whnf); first | exact ⟨rfl, rfl, trivial⟩ | (refine ⟨by omega, ?_⟩; (conv => whnf); exact ⟨rfl, rfl, trivial⟩))); (conv => whnf))
    (apply Exists.intro; apply And.intro; (focus ((conv => whnf); first | exact ⟨rfl, rfl, trivial⟩ | (refine ⟨by omega, ?_⟩; (conv => whnf); exact ⟨rfl, rfl, trivial⟩))); (conv => whnf))
    (apply Exists.intro; apply And.intro; (focus ((conv => whnf); first | exact ⟨rfl, rfl, trivial⟩ | (refine ⟨by omega, ?_⟩; (conv => whnf); exact ⟨rfl, rfl, trivial⟩))); (conv => whnf))
    (apply Exists.intro; apply And.intro; (focus ((conv => whnf); first | exact ⟨rfl, rfl, trivial⟩ | (refine ⟨by omega, ?_⟩; (conv => whnf); exact ⟨rfl, rfl, trivial⟩))); (conv => whnf))
    refine ⟨_, callK_pure (c65 p.r p.n hr hn) ⟨rfl, rfl, trivial⟩, ?_⟩
    (conv => whnf)
    (apply Exists.intro; apply And.intro; (focus ((conv => whnf); first | exact ⟨rfl, rfl, trivial⟩ | (refine ⟨by omega, ?_⟩; (conv => whnf); exact ⟨rfl, rfl, trivial⟩))); (conv => whnf))
    (apply Exists.intro; apply And.intro; (focus ((conv => whnf); first | exact ⟨rfl, rfl, trivial⟩ | (refine ⟨by omega, ?_⟩; (conv => whnf); exact ⟨rfl, rfl, trivial⟩))); (conv => whnf))
    refine ⟨_, callK_pure (c66p (keyB p.k) (by omega)) ⟨rfl, rfl, trivial⟩, ?_⟩
    (conv => whnf)
    (apply Exists.intro; apply And.intro; (focus ((conv => whnf); first | exact ⟨rfl, rfl, trivial⟩ | (refine ⟨by omega, ?_⟩; (conv => whnf); exact ⟨rfl, rfl, trivial⟩))); (conv => whnf))
    (apply Exists.intro; apply And.intro; (focus ((conv => whnf); first | exact ⟨rfl, rfl, trivial⟩ | (refine ⟨by omega, ?_⟩; (conv => whnf); exact ⟨rfl, rfl, trivial⟩))); (conv => whnf))
    refine ⟨_, callK_pure (c67p p.tr (by omega)) ⟨rfl, rfl, trivial⟩, ?_⟩
    (conv => whnf)
    (apply Exists.intro; apply And.intro; (focus ((conv => whnf); first | exact ⟨rfl, rfl, trivial⟩ | (refine ⟨by omega, ?_⟩; (conv => whnf); exact ⟨rfl, rfl, trivial⟩))); (conv => whnf))
    (apply Exists.intro; apply And.intro; (focus ((conv => whnf); first | exact ⟨rfl, rfl, trivial⟩ | (refine ⟨by omega, ?_⟩; (conv => whnf); exact ⟨rfl, rfl, trivial⟩))); (conv => whnf))
    refine ⟨_, callK_pure (c68 p.st) ⟨rfl, rfl, trivial⟩, ?_⟩
    (conv => whnf)
    (apply Exists.intro; apply And.intro; (focus ((conv => whnf); first | exact ⟨rfl, rfl, trivial⟩ | (refine ⟨by omega, ?_⟩; (conv => whnf); exact ⟨rfl, rfl, trivial⟩))); (conv => whnf))
    (apply Exists.intro; apply And.intro; (focus ((conv => whnf); first | exact ⟨rfl, rfl, trivial⟩ | (refine ⟨by omega, ?_⟩; (conv => whnf); exact ⟨rfl, rfl, trivial⟩))); (conv => whnf))
    refine ⟨_, callK_pure (c68 p.en) ⟨rfl, rfl, trivial⟩, ?_⟩
    (conv => whnf)
    (apply Exists.intro; apply And.intro; (focus ((conv => whnf); first | exact ⟨rfl, rfl, trivial⟩ | (refine ⟨by omega, ?_⟩; (conv => whnf); exact ⟨rfl, rfl, trivial⟩))); (conv => whnf))
    refine ⟨_, callK_pure (c64p 99 [princE p.r p.n, wrapB 4 (keyB p.k), wrapB 27 p.tr, intE p.st, intE p.en] (by simp) (by simp only [List.flatten_cons, List.flatten_nil, List.length_append, List.length_nil]; omega)) ⟨rfl, rfl, trivial⟩, ?_⟩
    (conv => whnf)
    have hb : isPartB p = false := by unfold isPartB; simp only [f1, Bool.and_true, Bool.true_and, Bool.and_false, Bool.false_and]
    refine ⟨_, callK_pure ((c59 false (partL p)).of_eq (limV_no (fun h => by cases h.1))) ⟨rfl, rfl, trivial⟩, ?_⟩
    (conv => whnf)
    (apply Exists.intro; apply And.intro; (focus ((conv => whnf); first | exact ⟨rfl, rfl, trivial⟩ | (refine ⟨by omega, ?_⟩; (conv => whnf); exact ⟨rfl, rfl, trivial⟩))); (conv => whnf))
    (apply Exists.intro; apply And.intro; (focus ((conv => whnf); first | exact ⟨rfl, rfl, trivial⟩ | (refine ⟨by omega, ?_⟩; (conv => whnf); exact ⟨rfl, rfl, trivial⟩))); (conv => whnf))
    (apply Exists.intro; apply And.intro; (focus ((conv => whnf); first | exact ⟨rfl, rfl, trivial⟩ | (refine ⟨by omega, ?_⟩; (conv => whnf); exact ⟨rfl, rfl, trivial⟩))); (conv => whnf))
    (apply Exists.intro; apply And.intro; (focus ((conv => whnf); first | exact ⟨rfl, rfl, trivial⟩ | (refine ⟨by omega, ?_⟩; (conv => whnf); exact ⟨rfl, rfl, trivial⟩))); (conv => whnf))
    exact ⟨(encPV_no (fun h => by rw [hb] at h; cases h.1)).symm, rfl⟩
  (apply Exists.intro; apply And.intro; (focus ((conv => whnf); first | exact ⟨rfl, rfl, trivial⟩ | (refine ⟨by omega, ?_⟩; (conv => whnf); exact ⟨rfl, rfl, trivial⟩))); (conv => whnf))
  (apply Exists.intro; apply And.intro; (focus ((conv => whnf); first | exact ⟨rfl, rfl, trivial⟩ | (refine ⟨by omega, ?_⟩; (conv => whnf); exact ⟨rfl, rfl, trivial⟩))); (conv => whnf))
  (apply Exists.intro; apply And.intro; (focus ((conv => whnf); first | exact ⟨rfl, rfl, trivial⟩ | (refine ⟨by omega, ?_⟩; (conv => whnf); exact ⟨rfl, rfl, trivial⟩))); (conv => whnf))
  refine ⟨_, callK_pure (c62 p.tr) ⟨rfl, rfl, trivial⟩, ?_⟩
  (conv => whnf)
  cases f2 : isTextB p.tr
  · (apply Exists.intro; apply And.intro; (focus ((conv => whnf); first | exact ⟨rfl, rfl, trivial⟩ | (refine ⟨by omega, ?_⟩; (conv => whnf); exact ⟨rfl, rfl, trivial⟩))); (conv => whnf))
    (apply Exists.intro; apply And.intro; (focus ((conv => whnf); first | exact ⟨rfl, rfl, trivial⟩ | (refine ⟨by omega, ?_⟩; (conv => whnf); exact ⟨rfl, rfl, trivial⟩))); (conv => whnf))
    (apply Exists.intro; apply And.intro; (focus ((conv => whnf); first | exact ⟨rfl, rfl, trivial⟩ | (refine ⟨by omega, ?_⟩; (conv => whnf); exact ⟨rfl, rfl, trivial⟩))); (conv => whnf))
    (apply Exists.intro; apply And.intro; (focus ((conv => whnf); first | exact ⟨rfl, rfl, trivial⟩ | (refine ⟨by omega, ?_⟩; (conv => whnf); exact ⟨rfl, rfl, trivial⟩))); (conv => whnf))
    (apply Exists.intro; apply And.intro; (focus ((conv => whnf); first | exact ⟨rfl, rfl, trivial⟩ | (refine ⟨by omega, ?_⟩; (conv => whnf); exact ⟨rfl, rfl, trivial⟩))); (conv => whnf))
    (apply Exists.intro; apply And.intro; (focus ((conv => whnf); first | exact ⟨rfl, rfl, trivial⟩ | (refine ⟨by omega, ?_⟩; (conv => whnf); exact ⟨rfl, rfl, trivial⟩))); (conv => whnf))
    (apply Exists.intro; apply And.intro; (focus ((conv => whnf); first | exact ⟨rfl, rfl, trivial⟩ | (refine ⟨by omega, ?_⟩; (conv => whnf); exact ⟨rfl, rfl, trivial⟩))); (conv => whnf))
    (apply Exists.intro; apply And.intro; (focus ((conv => whnf); first | exact ⟨rfl, rfl, trivial⟩ | (refine ⟨by omega, ?_⟩; (conv => whnf); exact ⟨rfl, rfl, trivial⟩))); (conv => whnf))
    (apply Exists.intro; apply And.intro; (focus ((conv => whnf); first | exact ⟨rfl, rfl, trivial⟩ | (refine ⟨by omega, ?_⟩; (conv => whnf); exact ⟨rfl, rfl, trivial⟩))); (conv => whnf))
    (apply Exists.intro; apply And.intro; (focus ((conv => whnf); first | exact ⟨rfl, rfl, trivial⟩ | (refine ⟨by omega, ?_⟩; (conv => whnf); exact ⟨rfl, rfl, trivial⟩))); (conv => whnf))
    (apply Exists.intro; apply And.intro; (focus ((conv => whnf); first | exact ⟨rfl, rfl, trivial⟩ | (refine ⟨by omega, ?_⟩; (conv => whnf); exact ⟨rfl, rfl, trivial⟩))); (conv => whnf))
    refine ⟨_, callK_pure (c65 p.r p.n hr hn) ⟨rfl, rfl, trivial⟩, ?_⟩
    (conv => whnf)
    (apply Exists.intro; apply And.intro; (focus ((conv => whnf); first | exact ⟨rfl, rfl, trivial⟩ | (refine ⟨by omega, ?_⟩; (conv => whnf); exact ⟨rfl, rfl, trivial⟩))); (conv => whnf))
    (apply Exists.intro; apply And.intro; (focus ((conv => whnf); first | exact ⟨rfl, rfl, trivial⟩ | (refine ⟨by omega, ?_⟩; (conv => whnf); exact ⟨rfl, rfl, trivial⟩))); (conv => whnf))
    refine ⟨_, callK_pure (c66p (keyB p.k) (by omega)) ⟨rfl, rfl, trivial⟩, ?_⟩
    (conv => whnf)
    (apply Exists.intro; apply And.intro; (focus ((conv => whnf); first | exact ⟨rfl, rfl, trivial⟩ | (refine ⟨by omega, ?_⟩; (conv => whnf); exact ⟨rfl, rfl, trivial⟩))); (conv => whnf))
    (apply Exists.intro; apply And.intro; (focus ((conv => whnf); first | exact ⟨rfl, rfl, trivial⟩ | (refine ⟨by omega, ?_⟩; (conv => whnf); exact ⟨rfl, rfl, trivial⟩))); (conv => whnf))
    refine ⟨_, callK_pure (c67p p.tr (by omega)) ⟨rfl, rfl, trivial⟩, ?_⟩
    (conv => whnf)
    (apply Exists.intro; apply And.intro; (focus ((conv => whnf); first | exact ⟨rfl, rfl, trivial⟩ | (refine ⟨by omega, ?_⟩; (conv => whnf); exact ⟨rfl, rfl, trivial⟩))); (conv => whnf))
    (apply Exists.intro; apply And.intro; (focus ((conv => whnf); first | exact ⟨rfl, rfl, trivial⟩ | (refine ⟨by omega, ?_⟩; (conv => whnf); exact ⟨rfl, rfl, trivial⟩))); (conv => whnf))
    refine ⟨_, callK_pure (c68 p.st) ⟨rfl, rfl, trivial⟩, ?_⟩
    (conv => whnf)
    (apply Exists.intro; apply And.intro; (focus ((conv => whnf); first | exact ⟨rfl, rfl, trivial⟩ | (refine ⟨by omega, ?_⟩; (conv => whnf); exact ⟨rfl, rfl, trivial⟩))); (conv => whnf))
    (apply Exists.intro; apply And.intro; (focus ((conv => whnf); first | exact ⟨rfl, rfl, trivial⟩ | (refine ⟨by omega, ?_⟩; (conv => whnf); exact ⟨rfl, rfl, trivial⟩))); (conv => whnf))
    refine ⟨_, callK_pure (c68 p.en) ⟨rfl, rfl, trivial⟩, ?_⟩
    (conv => whnf)
    (apply Exists.intro; apply And.intro; (focus ((conv => whnf); first | exact ⟨rfl, rfl, trivial⟩ | (refine ⟨by omega, ?_⟩; (conv => whnf); exact ⟨rfl, rfl, trivial⟩))); (conv => whnf))
    refine ⟨_, callK_pure (c64p 99 [princE p.r p.n, wrapB 4 (keyB p.k), wrapB 27 p.tr, intE p.st, intE p.en] (by simp) (by simp only [List.flatten_cons, List.flatten_nil, List.length_append, List.length_nil]; omega)) ⟨rfl, rfl, trivial⟩, ?_⟩
    (conv => whnf)
    have hb : isPartB p = false := by unfold isPartB; simp only [f1, f2, Bool.and_true, Bool.true_and, Bool.and_false, Bool.false_and]
    refine ⟨_, callK_pure ((c59 false (partL p)).of_eq (limV_no (fun h => by cases h.1))) ⟨rfl, rfl, trivial⟩, ?_⟩
    (conv => whnf)
    (apply Exists.intro; apply And.intro; (focus ((conv => whnf); first | exact ⟨rfl, rfl, trivial⟩ | (refine ⟨by omega, ?_⟩; (conv => whnf); exact ⟨rfl, rfl, trivial⟩))); (conv => whnf))
    (apply Exists.intro; apply And.intro; (focus ((conv => whnf); first | exact ⟨rfl, rfl, trivial⟩ | (refine ⟨by omega, ?_⟩; (conv => whnf); exact ⟨rfl, rfl, trivial⟩))); (conv => whnf))
    (apply Exists.intro; apply And.intro; (focus ((conv => whnf); first | exact ⟨rfl, rfl, trivial⟩ | (refine ⟨by omega, ?_⟩; (conv => whnf); exact ⟨rfl, rfl, trivial⟩))); (conv => whnf))
    (apply Exists.intro; apply And.intro; (focus ((conv => whnf); first | exact ⟨rfl, rfl, trivial⟩ | (refine ⟨by omega, ?_⟩; (conv => whnf); exact ⟨rfl, rfl, trivial⟩))); (conv => whnf))
    exact ⟨(encPV_no (fun h => by rw [hb] at h; cases h.1)).symm, rfl⟩
  (apply Exists.intro; apply And.intro; (focus ((conv => whnf); first | exact ⟨rfl, rfl, trivial⟩ | (refine ⟨by omega, ?_⟩; (conv => whnf); exact ⟨rfl, rfl, trivial⟩))); (conv => whnf))
  (apply Exists.intro; apply And.intro; (focus ((conv => whnf); first | exact ⟨rfl, rfl, trivial⟩ | (refine ⟨by omega, ?_⟩; (conv => whnf); exact ⟨rfl, rfl, trivial⟩))); (conv => whnf))
  (apply Exists.intro; apply And.intro; (focus ((conv => whnf); first | exact ⟨rfl, rfl, trivial⟩ | (refine ⟨by omega, ?_⟩; (conv => whnf); exact ⟨rfl, rfl, trivial⟩))); (conv => whnf))
  (apply Exists.intro; apply And.intro; (focus ((conv => whnf); first | exact ⟨rfl, rfl, trivial⟩ | (refine ⟨by omega, ?_⟩; (conv => whnf); exact ⟨rfl, rfl, trivial⟩))); (conv => whnf))
  (apply Exists.intro; apply And.intro; (focus ((conv => whnf); first | exact ⟨rfl, rfl, trivial⟩ | (refine ⟨by omega, ?_⟩; (conv => whnf); exact ⟨rfl, rfl, trivial⟩))); (conv => whnf))
  (apply Exists.intro; apply And.intro; (focus ((conv => whnf); first | exact ⟨rfl, rfl, trivial⟩ | (refine ⟨by omega, ?_⟩; (conv => whnf); exact ⟨rfl, rfl, trivial⟩))); (conv => whnf))
  (apply Exists.intro; apply And.intro; (focus ((conv => whnf); first | exact ⟨rfl, rfl, trivial⟩ | (refine ⟨by omega, ?_⟩; (conv => whnf); exact ⟨rfl, rfl, trivial⟩))); (conv => whnf))
  refine ⟨_, callK_pure ((c63 [p.st, p.en] (by simp)).of_eq (show PV.bool (inZ p.st 0 1073741824 && (inZ p.en 0 1073741824 && true)) = .bool (inZ p.st 0 1073741824 && inZ p.en 0 1073741824) by rw [Bool.and_true])) ⟨rfl, rfl, trivial⟩, ?_⟩
  (conv => whnf)
  cases f3 : (inZ p.st 0 1073741824 && inZ p.en 0 1073741824)
  · (apply Exists.intro; apply And.intro; (focus ((conv => whnf); first | exact ⟨rfl, rfl, trivial⟩ | (refine ⟨by omega, ?_⟩; (conv => whnf); exact ⟨rfl, rfl, trivial⟩))); (conv => whnf))
    (apply Exists.intro; apply And.intro; (focus ((conv => whnf); first | exact ⟨rfl, rfl, trivial⟩ | (refine ⟨by omega, ?_⟩; (conv => whnf); exact ⟨rfl, rfl, trivial⟩))); (conv => whnf))
    (apply Exists.intro; apply And.intro; (focus ((conv => whnf); first | exact ⟨rfl, rfl, trivial⟩ | (refine ⟨by omega, ?_⟩; (conv => whnf); exact ⟨rfl, rfl, trivial⟩))); (conv => whnf))
    refine ⟨_, callK_pure (c65 p.r p.n hr hn) ⟨rfl, rfl, trivial⟩, ?_⟩
    (conv => whnf)
    (apply Exists.intro; apply And.intro; (focus ((conv => whnf); first | exact ⟨rfl, rfl, trivial⟩ | (refine ⟨by omega, ?_⟩; (conv => whnf); exact ⟨rfl, rfl, trivial⟩))); (conv => whnf))
    (apply Exists.intro; apply And.intro; (focus ((conv => whnf); first | exact ⟨rfl, rfl, trivial⟩ | (refine ⟨by omega, ?_⟩; (conv => whnf); exact ⟨rfl, rfl, trivial⟩))); (conv => whnf))
    refine ⟨_, callK_pure (c66p (keyB p.k) (by omega)) ⟨rfl, rfl, trivial⟩, ?_⟩
    (conv => whnf)
    (apply Exists.intro; apply And.intro; (focus ((conv => whnf); first | exact ⟨rfl, rfl, trivial⟩ | (refine ⟨by omega, ?_⟩; (conv => whnf); exact ⟨rfl, rfl, trivial⟩))); (conv => whnf))
    (apply Exists.intro; apply And.intro; (focus ((conv => whnf); first | exact ⟨rfl, rfl, trivial⟩ | (refine ⟨by omega, ?_⟩; (conv => whnf); exact ⟨rfl, rfl, trivial⟩))); (conv => whnf))
    refine ⟨_, callK_pure (c67p p.tr (by omega)) ⟨rfl, rfl, trivial⟩, ?_⟩
    (conv => whnf)
    (apply Exists.intro; apply And.intro; (focus ((conv => whnf); first | exact ⟨rfl, rfl, trivial⟩ | (refine ⟨by omega, ?_⟩; (conv => whnf); exact ⟨rfl, rfl, trivial⟩))); (conv => whnf))
    (apply Exists.intro; apply And.intro; (focus ((conv => whnf); first | exact ⟨rfl, rfl, trivial⟩ | (refine ⟨by omega, ?_⟩; (conv => whnf); exact ⟨rfl, rfl, trivial⟩))); (conv => whnf))
    refine ⟨_, callK_pure (c68 p.st) ⟨rfl, rfl, trivial⟩, ?_⟩
    (conv => whnf)
    (apply Exists.intro; apply And.intro; (focus ((conv => whnf); first | exact ⟨rfl, rfl, trivial⟩ | (refine ⟨by omega, ?_⟩; (conv => whnf); exact ⟨rfl, rfl, trivial⟩))); (conv => whnf))
    (apply Exists.intro; apply And.intro; (focus ((conv => whnf); first | exact ⟨rfl, rfl, trivial⟩ | (refine ⟨by omega, ?_⟩; (conv => whnf); exact ⟨rfl, rfl, trivial⟩))); (conv => whnf))
    refine ⟨_, callK_pure (c68 p.en) ⟨rfl, rfl, trivial⟩, ?_⟩
    (conv => whnf)
    (apply Exists.intro; apply And.intro; (focus ((conv => whnf); first | exact ⟨rfl, rfl, trivial⟩ | (refine ⟨by omega, ?_⟩; (conv => whnf); exact ⟨rfl, rfl, trivial⟩))); (conv => whnf))
    refine ⟨_, callK_pure (c64p 99 [princE p.r p.n, wrapB 4 (keyB p.k), wrapB 27 p.tr, intE p.st, intE p.en] (by simp) (by simp only [List.flatten_cons, List.flatten_nil, List.length_append, List.length_nil]; omega)) ⟨rfl, rfl, trivial⟩, ?_⟩
    (conv => whnf)
    have hb : isPartB p = false := by unfold isPartB; simp only [f1, f2, f3, Bool.and_true, Bool.true_and, Bool.and_false, Bool.false_and]
    refine ⟨_, callK_pure ((c59 false (partL p)).of_eq (limV_no (fun h => by cases h.1))) ⟨rfl, rfl, trivial⟩, ?_⟩
    (conv => whnf)
    (apply Exists.intro; apply And.intro; (focus ((conv => whnf); first | exact ⟨rfl, rfl, trivial⟩ | (refine ⟨by omega, ?_⟩; (conv => whnf); exact ⟨rfl, rfl, trivial⟩))); (conv => whnf))
    (apply Exists.intro; apply And.intro; (focus ((conv => whnf); first | exact ⟨rfl, rfl, trivial⟩ | (refine ⟨by omega, ?_⟩; (conv => whnf); exact ⟨rfl, rfl, trivial⟩))); (conv => whnf))
    (apply Exists.intro; apply And.intro; (focus ((conv => whnf); first | exact ⟨rfl, rfl, trivial⟩ | (refine ⟨by omega, ?_⟩; (conv => whnf); exact ⟨rfl, rfl, trivial⟩))); (conv => whnf))
    (apply Exists.intro; apply And.intro; (focus ((conv => whnf); first | exact ⟨rfl, rfl, trivial⟩ | (refine ⟨by omega, ?_⟩; (conv => whnf); exact ⟨rfl, rfl, trivial⟩))); (conv => whnf))
    exact ⟨(encPV_no (fun h => by rw [hb] at h; cases h.1)).symm, rfl⟩
  (apply Exists.intro; apply And.intro; (focus ((conv => whnf); first | exact ⟨rfl, rfl, trivial⟩ | (refine ⟨by omega, ?_⟩; (conv => whnf); exact ⟨rfl, rfl, trivial⟩))); (conv => whnf))
  (apply Exists.intro; apply And.intro; (focus ((conv => whnf); first | exact ⟨rfl, rfl, trivial⟩ | (refine ⟨by omega, ?_⟩; (conv => whnf); exact ⟨rfl, rfl, trivial⟩))); (conv => whnf))
  (apply Exists.intro; apply And.intro; (focus ((conv => whnf); first | exact ⟨rfl, rfl, trivial⟩ | (refine ⟨by omega, ?_⟩; (conv => whnf); exact ⟨rfl, rfl, trivial⟩))); (conv => whnf))
  refine ⟨_, callK_pure (c65 p.r p.n hr hn) ⟨rfl, rfl, trivial⟩, ?_⟩
  (conv => whnf)
  (apply Exists.intro; apply And.intro; (focus ((conv => whnf); first | exact ⟨rfl, rfl, trivial⟩ | (refine ⟨by omega, ?_⟩; (conv => whnf); exact ⟨rfl, rfl, trivial⟩))); (conv => whnf))
  (apply Exists.intro; apply And.intro; (focus ((conv => whnf); first | exact ⟨rfl, rfl, trivial⟩ | (refine ⟨by omega, ?_⟩; (conv => whnf); exact ⟨rfl, rfl, trivial⟩))); (conv => whnf))
  refine ⟨_, callK_pure (c66p (keyB p.k) (by omega)) ⟨rfl, rfl, trivial⟩, ?_⟩
  (conv => whnf)
  (apply Exists.intro; apply And.intro; (focus ((conv => whnf); first | exact ⟨rfl, rfl, trivial⟩ | (refine ⟨by omega, ?_⟩; (conv => whnf); exact ⟨rfl, rfl, trivial⟩))); (conv => whnf))
  (apply Exists.intro; apply And.intro; (focus ((conv => whnf); first | exact ⟨rfl, rfl, trivial⟩ | (refine ⟨by omega, ?_⟩; (conv => whnf); exact ⟨rfl, rfl, trivial⟩))); (conv => whnf))
  refine ⟨_, callK_pure (c67p p.tr (by omega)) ⟨rfl, rfl, trivial⟩, ?_⟩
  (conv => whnf)
  (apply Exists.intro; apply And.intro; (focus ((conv => whnf); first | exact ⟨rfl, rfl, trivial⟩ | (refine ⟨by omega, ?_⟩; (conv => whnf); exact ⟨rfl, rfl, trivial⟩))); (conv => whnf))
  (apply Exists.intro; apply And.intro; (focus ((conv => whnf); first | exact ⟨rfl, rfl, trivial⟩ | (refine ⟨by omega, ?_⟩; (conv => whnf); exact ⟨rfl, rfl, trivial⟩))); (conv => whnf))
  refine ⟨_, callK_pure (c68 p.st) ⟨rfl, rfl, trivial⟩, ?_⟩
  (conv => whnf)
  (apply Exists.intro; apply And.intro; (focus ((conv => whnf); first | exact ⟨rfl, rfl, trivial⟩ | (refine ⟨by omega, ?_⟩; (conv => whnf); exact ⟨rfl, rfl, trivial⟩))); (conv => whnf))
  (apply Exists.intro; apply And.intro; (focus ((conv => whnf); first | exact ⟨rfl, rfl, trivial⟩ | (refine ⟨by omega, ?_⟩; (conv => whnf); exact ⟨rfl, rfl, trivial⟩))); (conv => whnf))
  refine ⟨_, callK_pure (c68 p.en) ⟨rfl, rfl, trivial⟩, ?_⟩
  (conv => whnf)
  (apply Exists.intro; apply And.intro; (focus ((conv => whnf); first | exact ⟨rfl, rfl, trivial⟩ | (refine ⟨by omega, ?_⟩; (conv => whnf); exact ⟨rfl, rfl, trivial⟩))); (conv => whnf))
  refine ⟨_, callK_pure (c64p 99 [princE p.r p.n, wrapB 4 (keyB p.k), wrapB 27 p.tr, intE p.st, intE p.en] (by simp) (by simp only [List.flatten_cons, List.flatten_nil, List.length_append, List.length_nil]; omega)) ⟨rfl, rfl, trivial⟩, ?_⟩
  (conv => whnf)
  have hb : isPartB p = true := by unfold isPartB; simp only [f1, f2, f3, Bool.and_true, Bool.true_and, Bool.and_false, Bool.false_and]
  by_cases hlen : (partL p).length ≤ 2000
  · have hlim := limV_yes (ok := true) (b := partL p) ⟨rfl, hlen⟩
    refine ⟨_, callK_pure ((c59 true (partL p)).of_eq hlim) ⟨rfl, rfl, trivial⟩, ?_⟩
    (conv => whnf)
    (apply Exists.intro; apply And.intro; (focus ((conv => whnf); first | exact ⟨rfl, rfl, trivial⟩ | (refine ⟨by omega, ?_⟩; (conv => whnf); exact ⟨rfl, rfl, trivial⟩))); (conv => whnf))
    (apply Exists.intro; apply And.intro; (focus ((conv => whnf); first | exact ⟨rfl, rfl, trivial⟩ | (refine ⟨by omega, ?_⟩; (conv => whnf); exact ⟨rfl, rfl, trivial⟩))); (conv => whnf))
    (apply Exists.intro; apply And.intro; (focus ((conv => whnf); first | exact ⟨rfl, rfl, trivial⟩ | (refine ⟨by omega, ?_⟩; (conv => whnf); exact ⟨rfl, rfl, trivial⟩))); (conv => whnf))
    (apply Exists.intro; apply And.intro; (focus ((conv => whnf); first | exact ⟨rfl, rfl, trivial⟩ | (refine ⟨by omega, ?_⟩; (conv => whnf); exact ⟨rfl, rfl, trivial⟩))); (conv => whnf))
    exact ⟨(encPV_yes ⟨hb, hlen⟩).symm, rfl⟩
  · have hlim := limV_no (ok := true) (b := partL p) (fun h => hlen h.2)
    refine ⟨_, callK_pure ((c59 true (partL p)).of_eq hlim) ⟨rfl, rfl, trivial⟩, ?_⟩
    (conv => whnf)
    (apply Exists.intro; apply And.intro; (focus ((conv => whnf); first | exact ⟨rfl, rfl, trivial⟩ | (refine ⟨by omega, ?_⟩; (conv => whnf); exact ⟨rfl, rfl, trivial⟩))); (conv => whnf))
    (apply Exists.intro; apply And.intro; (focus ((conv => whnf); first | exact ⟨rfl, rfl, trivial⟩ | (refine ⟨by omega, ?_⟩; (conv => whnf); exact ⟨rfl, rfl, trivial⟩))); (conv => whnf))
    (apply Exists.intro; apply And.intro; (focus ((conv => whnf); first | exact ⟨rfl, rfl, trivial⟩ | (refine ⟨by omega, ?_⟩; (conv => whnf); exact ⟨rfl, rfl, trivial⟩))); (conv => whnf))
    (apply Exists.intro; apply And.intro; (focus ((conv => whnf); first | exact ⟨rfl, rfl, trivial⟩ | (refine ⟨by omega, ?_⟩; (conv => whnf); exact ⟨rfl, rfl, trivial⟩))); (conv => whnf))
    exact ⟨(encPV_no (fun h => hlen h.2)).symm, rfl⟩
end Go.Proofs.Tryz

set_option maxRecDepth 100000
set_option maxHeartbeats 2000000
set_option linter.unusedVariables false
set_option linter.unusedSimpArgs false
namespace Go.Proofs.Tryz
open Go Ps
def zPrt : Prt := ⟨[], [], fun _ => 0, [], 0, 0⟩
/-- Is a part laid just so? -/
def okPrt (p : Prt) (b : List UInt8) : Bool := isPartB p && (decide ((partL p).length ≤ 2000) && decide (partL p = b))
theorem get_mid (H : PH) (o o' : PObj) : (H ++ [o] ++ [o'])[H.length]? = some o := by
  rw [List.getElem?_append_left (by simp)]; exact get_last _ _
def agPV (p : Prt) (b : List UInt8) : PV := match okPrt p b with
  | true => .tup [.agg p.cells, .int .i64 0]
  | false => .tup [.agg zPrt.cells, .int .i64 2]
theorem agPV_yes {p : Prt} {b : List UInt8} (h : okPrt p b = true) : agPV p b = .tup [.agg p.cells, .int .i64 0] := by unfold agPV; rw [h]
theorem agPV_no {p : Prt} {b : List UInt8} (h : okPrt p b = false) : agPV p b = .tup [.agg zPrt.cells, .int .i64 2] := by unfold agPV; rw [h]
theorem c81x (p : Prt) (b : List UInt8) (hr : p.r.length ≤ 1000000) (hn : p.n.length ≤ 1000000) (ht : p.tr.length ≤ 1000000) (H : PH) :
    CallOk prog 81 [sl b, .agg p.cells, .func 16 [] []] H fun r H' => r = agPV p b ∧ ∃ ext, H' = H ++ ext := by
  (refine callOk_of_pFun2 (tt := ttC) (imm := imm81) follows ttC_ok depth6 func81 (by kernel_rfl) ?_; (conv => whnf))
  have e : ∀ {x : Bool}, okPrt p b = x → agPV p b = match x with
    | true => .tup [.agg p.cells, .int .i64 0]
    | false => .tup [.agg zPrt.cells, .int .i64 2] := fun h => by unfold agPV; rw [h]
  by_cases hb : isPartB p = true ∧ (partL p).length ≤ 2000
  · refine callK_pure ((c16 p hr hn ht).of_eq (encPV_yes hb)) ?_
    (conv => whnf)
    refine ⟨fun _ => ?_, fun h => absurd rfl h⟩
    (conv => whnf)
    refine callK_pure (c106 (partL p) b) ?_
    cases hq : decide (partL p = b)
    · have hk : okPrt p b = false := by unfold okPrt; rw [hq, Bool.and_false, Bool.and_false]
      rw [e hk]
      (conv => whnf)
      ((conv in (_[_]?) => tactic => exact get_last _ _); (conv => whnf))
      ((conv in (_[_]?) => tactic => exact get_mid _ _ _); (conv => whnf))
      ((conv in (_[_]?) => tactic => exact get_set (get_mid _ _ _)); (conv => whnf))
      exact ⟨rfl, (((Ext.refl H).push _).push _).set (Nat.le_refl _) _⟩
    · have hk : okPrt p b = true := by unfold okPrt; rw [hq, hb.1, decide_eq_true hb.2]; rfl
      rw [e hk]
      (conv => whnf)
      ((conv in (_[_]?) => tactic => exact get_mid _ _ _); (conv => whnf))
      ((conv in (_[_]?) => tactic => exact get_set (get_mid _ _ _)); (conv => whnf))
      exact ⟨rfl, (((Ext.refl H).push _).push _).set (Nat.le_refl _) _⟩
  · refine callK_pure ((c16 p hr hn ht).of_eq (encPV_no hb)) ?_
    have hk : okPrt p b = false := by
      unfold okPrt
      cases h1 : isPartB p
      · rfl
      · rw [decide_eq_false (fun h2 => hb ⟨h1, h2⟩)]; rfl
    rw [e hk]
    (conv => whnf)
    refine ⟨fun h => absurd h (by decide), fun _ => ?_⟩
    (conv => whnf)
    ((conv in (_[_]?) => tactic => exact get_last _ _); (conv => whnf))
    ((conv in (_[_]?) => tactic => exact get_mid _ _ _); (conv => whnf))
    ((conv in (_[_]?) => tactic => exact get_set (get_mid _ _ _)); (conv => whnf))
    exact ⟨rfl, (((Ext.refl H).push _).push _).set (Nat.le_refl _) _⟩
theorem c81 (p : Prt) (b : List UInt8) (hr : p.r.length ≤ 1000000) (hn : p.n.length ≤ 1000000) (ht : p.tr.length ≤ 1000000) : Pure prog 81 [sl b, .agg p.cells, .func 16 [] []] (agPV p b) :=
  Pure.of_gc (by unfold agPV; cases okPrt p b <;> rfl) (c81x p b hr hn ht)
/-- Where a part is taken: the result's place, the taker's, the cursor, the part's. -/
structure DecS (T : Nat) (zc : List PV) (H K : PH) (a d q : Nat) (s : Option (List UInt8)) (cells : List PV) (ver : Nat) : Prop where
  z : K[H.length]? = some ⟨T, zc, 0⟩
  c : K[a]? = some ⟨146, [.ptr (some (d, 0))], 1⟩
  p : K[q]? = some ⟨T, cells, ver⟩
  cur : curAt K d s
  up : Upd (fun _ => False) H K
  o1 : H.length < d
  o2 : d < a
  o3 : a < q
theorem DecS.call {T : Nat} {zc : List PV} {H K K' : PH} {a d q : Nat} {s s' : Option (List UInt8)} {cells : List PV} {ver : Nat} (h : DecS T zc H K a d q s cells ver) (u : Upd (· = d) K K') (c : curAt K' d s') :
    DecS T zc H K' a d q s' cells ver := by
  have o1 := h.o1
  have o2 := h.o2
  have o3 := h.o3
  have lt : ∀ {i : Nat} {o : PObj}, K[i]? = some o → i < K.length := fun h => (List.getElem?_eq_some_iff.1 h).1
  refine ⟨(u.2 _ (lt h.z) (by omega)).trans h.z, (u.2 _ (lt h.c) (by omega)).trans h.c, (u.2 _ (lt h.p) (by omega)).trans h.p, c, h.up.over u (fun i hi e => by omega), o1, o2, o3⟩
theorem DecS.store {T : Nat} {zc : List PV} {H K : PH} {a d q : Nat} {s : Option (List UInt8)} {cells : List PV} {ver : Nat} (h : DecS T zc H K a d q s cells ver) (cells' : List PV) (ver' : Nat) :
    DecS T zc H (K.set q ⟨T, cells', ver'⟩) a d q s cells' ver' := by
  have o1 := h.o1
  have o2 := h.o2
  have o3 := h.o3
  refine ⟨?_, ?_, get_set h.p, h.cur.set_ne (by omega) _, h.up.set (.inr (by omega)) _, o1, o2, o3⟩
  · rw [List.getElem?_set_ne (by omega)]; exact h.z
  · rw [List.getElem?_set_ne (by omega)]; exact h.c
theorem getD_len {o : Option (List UInt8)} {B : Nat} (h : ∀ l, o = some l → l.length ≤ B ∧ l.length ≤ 65535) : (o.getD []).length ≤ 65535 := by
  cases o with
  | none => exact Nat.zero_le _
  | some l => exact (h l rfl).2
/-- The beginning of taking: the result's place, a taker, the cursor. -/
theorem dec_begin {T : Nat} {zc : List PV} {H H2 : PH} {d : Nat} {s : Option (List UInt8)} (h1 : (H ++ [PObj.mk T zc 0]).length ≤ d) (u : Upd (fun _ => False) (H ++ [PObj.mk T zc 0]) H2) (c : curAt H2 d s) :
    H.length < d ∧ d < H2.length ∧ ((H2 ++ [PObj.mk 146 [.ptr none] 0]).set H2.length (PObj.mk 146 [.ptr (some (d, 0))] 1))[H.length]? = some ⟨T, zc, 0⟩ ∧ ((H2 ++ [PObj.mk 146 [.ptr none] 0]).set H2.length (PObj.mk 146 [.ptr (some (d, 0))] 1))[H2.length]? = some ⟨146, [.ptr (some (d, 0))], 1⟩ ∧
      curAt ((H2 ++ [PObj.mk 146 [.ptr none] 0]).set H2.length (PObj.mk 146 [.ptr (some (d, 0))] 1)) d s ∧ Upd (fun _ => False) H ((H2 ++ [PObj.mk 146 [.ptr none] 0]).set H2.length (PObj.mk 146 [.ptr (some (d, 0))] 1)) := by
  have hl := c.lt
  have h1 : H.length + 1 ≤ d := by simpa using h1
  rw [set_last]
  refine ⟨h1, hl, ?_, get_last _ _, c.keep (X := fun _ => False) ((Upd.refl H2).push _) (fun f => f), ?_⟩
  · rw [List.getElem?_append_left (by omega), u.2 _ (by simp) (fun f => f)]; exact get_last _ _
  · exact (((Upd.refl H).push _).over u (fun i hi f => f)).push _
theorem dec_part {T : Nat} {zc : List PV} {H K0 K : PH} {a d : Nat} {s : Option (List UInt8)} (o1 : H.length < d) (o2 : d < a) (hz : K0[H.length]? = some ⟨T, zc, 0⟩) (hc : K0[a]? = some ⟨146, [.ptr (some (d, 0))], 1⟩)
    (up : Upd (fun _ => False) H K0) (u : Upd (· = d) K0 K) (c : curAt K d s) (cells : List PV) (ver : Nat) : DecS T zc H ((K ++ [PObj.mk T zc 0]).set K.length ⟨T, cells, ver⟩) a d K.length s cells ver := by
  rw [set_last]
  have lt : ∀ {i : Nat} {o : PObj}, K0[i]? = some o → i < K0.length := fun h => (List.getElem?_eq_some_iff.1 h).1
  have l1 := lt hz
  have l2 := lt hc
  have l3 := u.1
  refine ⟨?_, ?_, get_last _ _, c.keep (X := fun _ => False) ((Upd.refl K).push _) (fun f => f), (up.over u (fun i hi e => by omega)).push _, o1, o2, by omega⟩
  · rw [List.getElem?_append_left (by omega), u.2 _ l1 (by omega)]; exact hz
  · rw [List.getElem?_append_left (by omega), u.2 _ l2 (by omega)]; exact hc
end Go.Proofs.Tryz

set_option maxRecDepth 100000
set_option maxHeartbeats 2000000
set_option linter.unusedVariables false
set_option linter.unusedSimpArgs false
namespace Go.Proofs.Tryz
open Go Ps
theorem c22x (b : List UInt8) (hb : b.length ≤ 140737488355328) (H : PH) : CallOk prog 22 [sl b] H fun r H' => r = agPV (partC b) b ∧ ∃ ext, H' = H ++ ext := by
  (refine callOk_of_pFun2 (tt := ttC) (imm := imm22) follows ttC_ok depth6 func22 (by kernel_rfl) ?_; (conv => whnf))
  refine callK_of (c76 b 99 hb (H ++ [PObj.mk 51 zPrt.cells 0])) ?_
  rintro _ H2 ⟨d, rfl, k1, k2, k3⟩
  obtain ⟨o1, o2, e1, e2, e3, e4⟩ := dec_begin k1 k2 k3
  have hs0 : ∀ l, (elemC 99 (some b)).2 = some l → l.length ≤ 140737488355328 := fun l h => ((elemC_len (tag := 99) (fun l h => by cases h; exact hb)).2 l h).1
  show _
  unfold partC
  generalize (elemC 99 (some b)).2 = s at hs0 k3 e3
  unfold partD
  have hs1 := (elemC_len (tag := 48) hs0).1
  have hq := (elemC_len (tag := 48) hs0).2
  have hr := getD_len (elemC_len (tag := 27) (fun l h => (hq l h).1)).2
  have hn := getD_len (elemC_len (tag := 27) (elemC_len (tag := 27) (fun l h => (hq l h).1)).1).2
  have hs2 := (elemC_len (tag := 4) hs1).1
  have hs3 := (elemC_len (tag := 27) hs2).1
  have ht := getD_len (elemC_len (tag := 27) hs2).2
  have hs4 := intC_len hs3
  (conv => whnf)
  ((conv in (_[_]?) => tactic => exact get_last _ _); (conv => whnf))
  ((conv in (_[_]?) => tactic => exact e2); (conv => whnf))
  refine callK_of (c77 d s _ e3 hs0) ?_
  rintro _ K1 ⟨rfl, u1, g1⟩
  have D1 := dec_part o1 o2 e1 e2 e4 u1 g1 (Prt.mk (princC s).2.1 (princC s).2.2 (fun _ => 0) [] 0 0).cells 1
  (conv => whnf)
  ((conv in (_[_]?) => tactic => exact get_last _ _); (conv => whnf))
  ((conv in (_[_]?) => tactic => exact D1.c); (conv => whnf))
  refine callK_of (c78 d _ _ D1.cur hs1) ?_
  rintro _ K2 ⟨rfl, u2, g2⟩
  have D2 := D1.call u2 g2
  (conv => whnf)
  ((conv in (_[_]?) => tactic => exact D2.p); (conv => whnf))
  have D3 := D2.store (Prt.mk (princC s).2.1 (princC s).2.2 (keyOf (octC (princC s).1).2) [] 0 0).cells 2
  ((conv in (_[_]?) => tactic => exact D3.c); (conv => whnf))
  refine callK_of (c79 d _ _ D3.cur hs2) ?_
  rintro _ K4 ⟨rfl, u4, g4⟩
  have D4 := D3.call u4 g4
  (conv => whnf)
  ((conv in (_[_]?) => tactic => exact D4.p); (conv => whnf))
  have D5 := D4.store (Prt.mk (princC s).2.1 (princC s).2.2 (keyOf (octC (princC s).1).2) (txtC (octC (princC s).1).1).2 0 0).cells 3
  ((conv in (_[_]?) => tactic => exact D5.c); (conv => whnf))
  refine callK_of (c80 d _ _ D5.cur hs3) ?_
  rintro _ K6 ⟨rfl, u6, g6⟩
  have D6 := D5.call u6 g6
  (conv => whnf)
  ((conv in (_[_]?) => tactic => exact D6.p); (conv => whnf))
  have D7 := D6.store (Prt.mk (princC s).2.1 (princC s).2.2 (keyOf (octC (princC s).1).2) (txtC (octC (princC s).1).1).2 (intC (txtC (octC (princC s).1).1).1).2 0).cells 4
  ((conv in (_[_]?) => tactic => exact D7.c); (conv => whnf))
  refine callK_of (c80 d _ _ D7.cur hs4) ?_
  rintro _ K8 ⟨rfl, u8, g8⟩
  have D8 := D7.call u8 g8
  (conv => whnf)
  ((conv in (_[_]?) => tactic => exact D8.p); (conv => whnf))
  have D9 := D8.store (partD s).cells 5
  ((conv in (_[_]?) => tactic => exact D9.p); (conv => whnf))
  refine callK_pure (c81 (partD s) b (by unfold partD; exact Nat.le_trans hr (by decide)) (by unfold partD; exact Nat.le_trans hn (by decide)) (by unfold partD; exact Nat.le_trans ht (by decide))) ?_
  have hw : K8.length ≥ H.length := by have := D8.up.1; omega
  cases hk : okPrt (partD s) b
  · rw [agPV_no hk]
    (conv => whnf)
    ((conv in (_[_]?) => tactic => exact D9.z); (conv => whnf))
    ((conv in (_[_]?) => tactic => exact get_set D9.z); (conv => whnf))
    refine ⟨(agPV_no hk).symm, ?_⟩
    exact Upd.ext (D9.up.set (.inr (Nat.le_refl _)) _)
  · rw [agPV_yes hk]
    (conv => whnf)
    ((conv in (_[_]?) => tactic => exact D9.z); (conv => whnf))
    ((conv in (_[_]?) => tactic => exact get_set D9.z); (conv => whnf))
    refine ⟨(agPV_yes hk).symm, ?_⟩
    exact Upd.ext (D9.up.set (.inr (Nat.le_refl _)) _)
theorem c22 (b : List UInt8) (hb : b.length ≤ 140737488355328) : Pure prog 22 [sl b] (agPV (partC b) b) := Pure.of_gc (by unfold agPV; cases okPrt (partC b) b <;> rfl) (c22x b hb)
end Go.Proofs.Tryz

set_option maxRecDepth 100000
set_option maxHeartbeats 1000000
set_option linter.unusedVariables false
set_option linter.unusedSimpArgs false
namespace Go.Proofs.Tryz
open Go Ps
structure Tk where
  r : List UInt8
  n : List UInt8
  kv : Int
  b : List UInt8
def tickD (s : Option (List UInt8)) : Tk := ⟨(princC s).2.1, (princC s).2.2, (intC (princC s).1).2, (octC (intC (princC s).1).1).2⟩
def tickC (s : Option (List UInt8)) : Option (List UInt8) × Tk := ((elemC 97 s).1, tickD (elemC 97 s).2)
theorem tickC_wrap (r n : List UInt8) (kv : Int) (b rest : List UInt8) (hr : r.length ≤ 1000) (hn : n.length ≤ 1000) (h0 : 0 ≤ kv) (h1 : kv ≤ 4611686018427387904) (hb : b.length ≤ 10000) :
    tickC (some (ticketE r n kv b ++ rest)) = (some rest, ⟨r, n, kv, b⟩) := by
  have k1 := princE_len r n
  have k2 := intE_len kv
  have k3 := wrapB_len 4 b
  unfold tickC ticketE
  rw [elemC_wrap 97 _ rest (by simp only [List.flatten_cons, List.flatten_nil, List.length_append, List.length_nil]; omega)]
  show (some rest, tickD (some [princE r n, intE kv, wrapB 4 b].flatten)) = _
  simp only [List.flatten_cons, List.flatten_nil]
  unfold tickD
  rw [princC_wrap r n _ hr hn]
  show (some rest, Tk.mk r n (intC (some (intE kv ++ (wrapB 4 b ++ [])))).2 (octC (intC (some (intE kv ++ (wrapB 4 b ++ [])))).1).2) = _
  rw [intC_wrap kv h0 h1]
  show (some rest, Tk.mk r n kv (octC (some (wrapB 4 b ++ []))).2) = _
  rw [octC_wrap b [] (by omega)]
def mZ : Msg := ⟨0, [], [], [], [], 0, 0, [], [], 0, [], some 5, [], some 5, [], [], 0, 0, [], [], [], [], 0, [], some 5, [], some 5, [], [], 0, [], some 5, [], some 5, 0, 0⟩
def tkAs (s : Option (List UInt8)) : Msg := { mZ with kind := 1, a1 := (princC s).2.1, a2 := (princC s).2.2, a3 := (princC (princC s).1).2.1, a4 := (princC (princC s).1).2.2, aTill := (intC (princC (princC s).1).1).2, aNonce := (intC (intC (princC (princC s).1).1).1).2 }
def tkTgs (s : Option (List UInt8)) : Msg := { mZ with kind := 2, t1 := (tickC s).2.r, t2 := (tickC s).2.n, tKv := (tickC s).2.kv, tB := (tickC s).2.b, tBo := none, tAu := (octC (tickC s).1).2, tAuo := none, t3 := (princC (octC (tickC s).1).1).2.1, t4 := (princC (octC (tickC s).1).1).2.2, tTill := (intC (princC (octC (tickC s).1).1).1).2, tNonce := (intC (intC (princC (octC (tickC s).1).1).1).1).2 }
def tkRep (s : Option (List UInt8)) : Msg := { mZ with kind := 3, r1 := (princC s).2.1, r2 := (princC s).2.2, r3 := (tickC (princC s).1).2.r, r4 := (tickC (princC s).1).2.n, rKv := (tickC (princC s).1).2.kv, rB := (tickC (princC s).1).2.b, rBo := none, rBl := (octC (tickC (princC s).1).1).2, rBlo := none }
def tkAp (s : Option (List UInt8)) : Msg := { mZ with kind := 4, p1 := (tickC s).2.r, p2 := (tickC s).2.n, pKv := (tickC s).2.kv, pB := (tickC s).2.b, pBo := none, pAu := (octC (tickC s).1).2, pAuo := none }
def tkFail (s : Option (List UInt8)) : Msg := { mZ with kind := 5, fErr := (intC s).2, fNonce := (intC (intC s).1).2 }
def takenT (t : UInt8) (s : Option (List UInt8)) : Msg :=
  if t.toNat = 106 then tkAs s else if t.toNat = 108 then tkTgs s else if t.toNat = 107 then tkRep s else if t.toNat = 110 then tkAp s else if t.toNat = 126 then tkFail s else mZ
def takenB : List UInt8 → Msg
  | [] => mZ
  | t :: r => takenT t (elemC t (some (t :: r))).2
theorem taken_wrap (t : UInt8) (x : List UInt8) (hx : x.length ≤ 65535) : takenB (wrapB t x) = takenT t (some x) := by
  have e := elemC_wrap t x [] hx
  rw [List.append_nil] at e
  show takenT t (elemC t (some (wrapB t x))).2 = _
  rw [e]
theorem noAs_z {m : Msg} (h : noAs m = true) : m.a1 = [] ∧ m.a2 = [] ∧ m.a3 = [] ∧ m.a4 = [] ∧ m.aTill = 0 ∧ m.aNonce = 0 := of_decide_eq_true h
theorem noTgs_z {m : Msg} (h : noTgs m = true) : m.t1 = [] ∧ m.t2 = [] ∧ m.tKv = 0 ∧ m.tB = [] ∧ m.tAu = [] ∧ m.t3 = [] ∧ m.t4 = [] ∧ m.tTill = 0 ∧ m.tNonce = 0 := by
  unfold noTgs noTk at h
  simp only [Bool.and_eq_true, decide_eq_true_eq, List.length_eq_zero_iff] at h
  obtain ⟨⟨⟨⟨⟨⟨⟨h1, h2⟩, h3⟩, h4⟩, h5⟩, h6, h7⟩, h8⟩, h9⟩ := h
  exact ⟨h1, h2, h3, h4, h5, h6, h7, h8, h9⟩
theorem noRep_z {m : Msg} (h : noRep m = true) : m.r1 = [] ∧ m.r2 = [] ∧ m.r3 = [] ∧ m.r4 = [] ∧ m.rKv = 0 ∧ m.rB = [] ∧ m.rBl = [] := by
  unfold noRep noTk at h
  simp only [Bool.and_eq_true, decide_eq_true_eq, List.length_eq_zero_iff] at h
  obtain ⟨⟨⟨h1, h2⟩, ⟨⟨h3, h4⟩, h5⟩, h6⟩, h7⟩ := h
  exact ⟨h1, h2, h3, h4, h5, h6, h7⟩
theorem noAp_z {m : Msg} (h : noAp m = true) : m.p1 = [] ∧ m.p2 = [] ∧ m.pKv = 0 ∧ m.pB = [] ∧ m.pAu = [] := by
  unfold noAp noTk at h
  simp only [Bool.and_eq_true, decide_eq_true_eq, List.length_eq_zero_iff] at h
  obtain ⟨⟨⟨⟨h1, h2⟩, h3⟩, h4⟩, h5⟩ := h
  exact ⟨h1, h2, h3, h4, h5⟩
theorem noFail_z {m : Msg} (h : noFail m = true) : m.fErr = 0 ∧ m.fNonce = 0 := of_decide_eq_true h
theorem others_z {m : Msg} (h : othersB m = true) : (m.kind ≠ 1 → noAs m = true) ∧ (m.kind ≠ 2 → noTgs m = true) ∧ (m.kind ≠ 3 → noRep m = true) ∧ (m.kind ≠ 4 → noAp m = true) ∧ (m.kind ≠ 5 → noFail m = true) := by
  unfold othersB at h
  simp only [Bool.and_eq_true, Bool.or_eq_true, decide_eq_true_eq] at h
  obtain ⟨⟨⟨⟨h1, h2⟩, h3⟩, h4⟩, h5⟩ := h
  exact ⟨fun h => h1.resolve_left h, fun h => h2.resolve_left h, fun h => h3.resolve_left h, fun h => h4.resolve_left h, fun h => h5.resolve_left h⟩
theorem isB_kind {m : Msg} (h : isB m = true) : othersB m = true := by
  unfold isB at h
  rw [Bool.and_eq_true] at h
  exact h.2
theorem tick_kv {r n : List UInt8} {kv : Int} {k : Nat} (h : tickB r n kv k = true) : 1 ≤ kv ∧ kv ≤ 255 := by
  unfold tickB at h
  rw [Bool.and_eq_true, Bool.and_eq_true] at h
  exact inZ_le h.1.2
/-- What is laid is read as it was. -/
theorem taken_laid (m : Msg) (h : isB m = true) : (takenB (laidB m)).d = m.d := by
  obtain ⟨o1, o2, o3, o4, o5⟩ := others_z (isB_kind h)
  have hm := (Bool.and_eq_true _ _ ▸ h : _ ∧ _).1
  by_cases h1 : m.kind = 1
  · skip
    rw [if_pos h1] at hm
    simp only [Bool.and_eq_true] at hm
    have g1 := princ_len hm.1.1.1
    have g2 := princ_len hm.1.1.2
    have g3 := inZ_le hm.1.2
    have g4 := inZ_le hm.2
    have e0 := princE_len m.a1 m.a2
    have e1 := princE_len m.a3 m.a4
    have e2 := intE_len m.aTill
    have e3 := intE_len m.aNonce
    have hl : laidB m = wrapB 106 [princE m.a1 m.a2, princE m.a3 m.a4, intE m.aTill, intE m.aNonce].flatten := by unfold laidB; rw [if_pos h1]
    rw [hl, taken_wrap _ _ (by simp only [List.flatten_cons, List.flatten_nil, List.length_append, List.length_nil]; omega)]
    show (tkAs (some [princE m.a1 m.a2, princE m.a3 m.a4, intE m.aTill, intE m.aNonce].flatten)).d = _
    simp only [List.flatten_cons, List.flatten_nil]
    unfold tkAs
    have w0 := princC_wrap m.a1 m.a2 (princE m.a3 m.a4 ++ (intE m.aTill ++ (intE m.aNonce ++ []))) (by omega) (by omega)
    have w1 := princC_wrap m.a3 m.a4 (intE m.aTill ++ (intE m.aNonce ++ [])) (by omega) (by omega)
    have w2 := intC_wrap m.aTill (by omega) (by omega) (intE m.aNonce ++ [])
    have w3 := intC_wrap m.aNonce (by omega) (by omega) []
    simp only [w0, w1, w2, w3]
    have z2 := noTgs_z (o2 (by omega))
    have z3 := noRep_z (o3 (by omega))
    have z4 := noAp_z (o4 (by omega))
    have z5 := noFail_z (o5 (by omega))
    clear o1 o2 o3 o4 o5 hl hm h w0
    obtain ⟨kind, a1, a2, a3, a4, aTill, aNonce, t1, t2, tKv, tB, tBo, tAu, tAuo, t3, t4, tTill, tNonce, r1, r2, r3, r4, rKv, rB, rBo, rBl, rBlo, p1, p2, pKv, pB, pBo, pAu, pAuo, fErr, fNonce⟩ := m
    obtain ⟨y2_0, y2_1, y2_2, y2_3, y2_4, y2_5, y2_6, y2_7, y2_8⟩ := z2
    obtain ⟨y3_0, y3_1, y3_2, y3_3, y3_4, y3_5, y3_6⟩ := z3
    obtain ⟨y4_0, y4_1, y4_2, y4_3, y4_4⟩ := z4
    obtain ⟨y5_0, y5_1⟩ := z5
    simp only at *
    subst h1 y2_0 y2_1 y2_2 y2_3 y2_4 y2_5 y2_6 y2_7 y2_8 y3_0 y3_1 y3_2 y3_3 y3_4 y3_5 y3_6 y4_0 y4_1 y4_2 y4_3 y4_4 y5_0 y5_1
    rfl
  by_cases h2 : m.kind = 2
  · skip
    rw [if_neg h1] at hm
    rw [if_pos h2] at hm
    simp only [Bool.and_eq_true] at hm
    have g1 := tick_len hm.1.1.1.1
    have gk := tick_kv hm.1.1.1.1
    have g2 := inZ_le hm.1.1.1.2
    have g3 := princ_len hm.1.1.2
    have g4 := inZ_le hm.1.2
    have g5 := inZ_le hm.2
    have e0 := ticketE_len m.t1 m.t2 m.tKv m.tB
    have e1 := wrapB_len 4 m.tAu
    have e2 := princE_len m.t3 m.t4
    have e3 := intE_len m.tTill
    have e4 := intE_len m.tNonce
    have hl : laidB m = wrapB 108 [ticketE m.t1 m.t2 m.tKv m.tB, wrapB 4 m.tAu, princE m.t3 m.t4, intE m.tTill, intE m.tNonce].flatten := by unfold laidB; rw [if_neg h1]; rw [if_pos h2]
    rw [hl, taken_wrap _ _ (by simp only [List.flatten_cons, List.flatten_nil, List.length_append, List.length_nil]; omega)]
    show (tkTgs (some [ticketE m.t1 m.t2 m.tKv m.tB, wrapB 4 m.tAu, princE m.t3 m.t4, intE m.tTill, intE m.tNonce].flatten)).d = _
    simp only [List.flatten_cons, List.flatten_nil]
    unfold tkTgs
    have w0 := tickC_wrap m.t1 m.t2 m.tKv m.tB (wrapB 4 m.tAu ++ (princE m.t3 m.t4 ++ (intE m.tTill ++ (intE m.tNonce ++ [])))) (by omega) (by omega) (by omega) (by omega) (by omega)
    have w1 := octC_wrap m.tAu (princE m.t3 m.t4 ++ (intE m.tTill ++ (intE m.tNonce ++ []))) (by omega)
    have w2 := princC_wrap m.t3 m.t4 (intE m.tTill ++ (intE m.tNonce ++ [])) (by omega) (by omega)
    have w3 := intC_wrap m.tTill (by omega) (by omega) (intE m.tNonce ++ [])
    have w4 := intC_wrap m.tNonce (by omega) (by omega) []
    simp only [w0, w1, w2, w3, w4]
    have z1 := noAs_z (o1 (by omega))
    have z3 := noRep_z (o3 (by omega))
    have z4 := noAp_z (o4 (by omega))
    have z5 := noFail_z (o5 (by omega))
    clear o1 o2 o3 o4 o5 hl hm h w0
    obtain ⟨kind, a1, a2, a3, a4, aTill, aNonce, t1, t2, tKv, tB, tBo, tAu, tAuo, t3, t4, tTill, tNonce, r1, r2, r3, r4, rKv, rB, rBo, rBl, rBlo, p1, p2, pKv, pB, pBo, pAu, pAuo, fErr, fNonce⟩ := m
    obtain ⟨y1_0, y1_1, y1_2, y1_3, y1_4, y1_5⟩ := z1
    obtain ⟨y3_0, y3_1, y3_2, y3_3, y3_4, y3_5, y3_6⟩ := z3
    obtain ⟨y4_0, y4_1, y4_2, y4_3, y4_4⟩ := z4
    obtain ⟨y5_0, y5_1⟩ := z5
    simp only at *
    subst h2 y1_0 y1_1 y1_2 y1_3 y1_4 y1_5 y3_0 y3_1 y3_2 y3_3 y3_4 y3_5 y3_6 y4_0 y4_1 y4_2 y4_3 y4_4 y5_0 y5_1
    rfl
  by_cases h3 : m.kind = 3
  · skip
    rw [if_neg h1] at hm
    rw [if_neg h2] at hm
    rw [if_pos h3] at hm
    simp only [Bool.and_eq_true] at hm
    have g1 := princ_len hm.1.1
    have g2 := tick_len hm.1.2
    have gk := tick_kv hm.1.2
    have g3 := inZ_le hm.2
    have e0 := princE_len m.r1 m.r2
    have e1 := ticketE_len m.r3 m.r4 m.rKv m.rB
    have e2 := wrapB_len 4 m.rBl
    have hl : laidB m = wrapB 107 [princE m.r1 m.r2, ticketE m.r3 m.r4 m.rKv m.rB, wrapB 4 m.rBl].flatten := by unfold laidB; rw [if_neg h1]; rw [if_neg h2]; rw [if_pos h3]
    rw [hl, taken_wrap _ _ (by simp only [List.flatten_cons, List.flatten_nil, List.length_append, List.length_nil]; omega)]
    show (tkRep (some [princE m.r1 m.r2, ticketE m.r3 m.r4 m.rKv m.rB, wrapB 4 m.rBl].flatten)).d = _
    simp only [List.flatten_cons, List.flatten_nil]
    unfold tkRep
    have w0 := princC_wrap m.r1 m.r2 (ticketE m.r3 m.r4 m.rKv m.rB ++ (wrapB 4 m.rBl ++ [])) (by omega) (by omega)
    have w1 := tickC_wrap m.r3 m.r4 m.rKv m.rB (wrapB 4 m.rBl ++ []) (by omega) (by omega) (by omega) (by omega) (by omega)
    have w2 := octC_wrap m.rBl [] (by omega)
    simp only [w0, w1, w2]
    have z1 := noAs_z (o1 (by omega))
    have z2 := noTgs_z (o2 (by omega))
    have z4 := noAp_z (o4 (by omega))
    have z5 := noFail_z (o5 (by omega))
    clear o1 o2 o3 o4 o5 hl hm h w0
    obtain ⟨kind, a1, a2, a3, a4, aTill, aNonce, t1, t2, tKv, tB, tBo, tAu, tAuo, t3, t4, tTill, tNonce, r1, r2, r3, r4, rKv, rB, rBo, rBl, rBlo, p1, p2, pKv, pB, pBo, pAu, pAuo, fErr, fNonce⟩ := m
    obtain ⟨y1_0, y1_1, y1_2, y1_3, y1_4, y1_5⟩ := z1
    obtain ⟨y2_0, y2_1, y2_2, y2_3, y2_4, y2_5, y2_6, y2_7, y2_8⟩ := z2
    obtain ⟨y4_0, y4_1, y4_2, y4_3, y4_4⟩ := z4
    obtain ⟨y5_0, y5_1⟩ := z5
    simp only at *
    subst h3 y1_0 y1_1 y1_2 y1_3 y1_4 y1_5 y2_0 y2_1 y2_2 y2_3 y2_4 y2_5 y2_6 y2_7 y2_8 y4_0 y4_1 y4_2 y4_3 y4_4 y5_0 y5_1
    rfl
  by_cases h4 : m.kind = 4
  · skip
    rw [if_neg h1] at hm
    rw [if_neg h2] at hm
    rw [if_neg h3] at hm
    rw [if_pos h4] at hm
    simp only [Bool.and_eq_true] at hm
    have g1 := tick_len hm.1
    have gk := tick_kv hm.1
    have g2 := inZ_le hm.2
    have e0 := ticketE_len m.p1 m.p2 m.pKv m.pB
    have e1 := wrapB_len 4 m.pAu
    have hl : laidB m = wrapB 110 [ticketE m.p1 m.p2 m.pKv m.pB, wrapB 4 m.pAu].flatten := by unfold laidB; rw [if_neg h1]; rw [if_neg h2]; rw [if_neg h3]; rw [if_pos h4]
    rw [hl, taken_wrap _ _ (by simp only [List.flatten_cons, List.flatten_nil, List.length_append, List.length_nil]; omega)]
    show (tkAp (some [ticketE m.p1 m.p2 m.pKv m.pB, wrapB 4 m.pAu].flatten)).d = _
    simp only [List.flatten_cons, List.flatten_nil]
    unfold tkAp
    have w0 := tickC_wrap m.p1 m.p2 m.pKv m.pB (wrapB 4 m.pAu ++ []) (by omega) (by omega) (by omega) (by omega) (by omega)
    have w1 := octC_wrap m.pAu [] (by omega)
    simp only [w0, w1]
    have z1 := noAs_z (o1 (by omega))
    have z2 := noTgs_z (o2 (by omega))
    have z3 := noRep_z (o3 (by omega))
    have z5 := noFail_z (o5 (by omega))
    clear o1 o2 o3 o4 o5 hl hm h w0
    obtain ⟨kind, a1, a2, a3, a4, aTill, aNonce, t1, t2, tKv, tB, tBo, tAu, tAuo, t3, t4, tTill, tNonce, r1, r2, r3, r4, rKv, rB, rBo, rBl, rBlo, p1, p2, pKv, pB, pBo, pAu, pAuo, fErr, fNonce⟩ := m
    obtain ⟨y1_0, y1_1, y1_2, y1_3, y1_4, y1_5⟩ := z1
    obtain ⟨y2_0, y2_1, y2_2, y2_3, y2_4, y2_5, y2_6, y2_7, y2_8⟩ := z2
    obtain ⟨y3_0, y3_1, y3_2, y3_3, y3_4, y3_5, y3_6⟩ := z3
    obtain ⟨y5_0, y5_1⟩ := z5
    simp only at *
    subst h4 y1_0 y1_1 y1_2 y1_3 y1_4 y1_5 y2_0 y2_1 y2_2 y2_3 y2_4 y2_5 y2_6 y2_7 y2_8 y3_0 y3_1 y3_2 y3_3 y3_4 y3_5 y3_6 y5_0 y5_1
    rfl
  by_cases h5 : m.kind = 5
  · skip
    rw [if_neg h1] at hm
    rw [if_neg h2] at hm
    rw [if_neg h3] at hm
    rw [if_neg h4] at hm
    rw [if_pos h5] at hm
    simp only [Bool.and_eq_true] at hm
    have g1 := inZ_le hm.1
    have g2 := inZ_le hm.2
    have e0 := intE_len m.fErr
    have e1 := intE_len m.fNonce
    have hl : laidB m = wrapB 126 [intE m.fErr, intE m.fNonce].flatten := by unfold laidB; rw [if_neg h1, if_neg h2, if_neg h3, if_neg h4]
    rw [hl, taken_wrap _ _ (by simp only [List.flatten_cons, List.flatten_nil, List.length_append, List.length_nil]; omega)]
    show (tkFail (some [intE m.fErr, intE m.fNonce].flatten)).d = _
    simp only [List.flatten_cons, List.flatten_nil]
    unfold tkFail
    have w0 := intC_wrap m.fErr (by omega) (by omega) (intE m.fNonce ++ [])
    have w1 := intC_wrap m.fNonce (by omega) (by omega) []
    simp only [w0, w1]
    have z1 := noAs_z (o1 (by omega))
    have z2 := noTgs_z (o2 (by omega))
    have z3 := noRep_z (o3 (by omega))
    have z4 := noAp_z (o4 (by omega))
    clear o1 o2 o3 o4 o5 hl hm h w0
    obtain ⟨kind, a1, a2, a3, a4, aTill, aNonce, t1, t2, tKv, tB, tBo, tAu, tAuo, t3, t4, tTill, tNonce, r1, r2, r3, r4, rKv, rB, rBo, rBl, rBlo, p1, p2, pKv, pB, pBo, pAu, pAuo, fErr, fNonce⟩ := m
    obtain ⟨y1_0, y1_1, y1_2, y1_3, y1_4, y1_5⟩ := z1
    obtain ⟨y2_0, y2_1, y2_2, y2_3, y2_4, y2_5, y2_6, y2_7, y2_8⟩ := z2
    obtain ⟨y3_0, y3_1, y3_2, y3_3, y3_4, y3_5, y3_6⟩ := z3
    obtain ⟨y4_0, y4_1, y4_2, y4_3, y4_4⟩ := z4
    simp only at *
    subst h5 y1_0 y1_1 y1_2 y1_3 y1_4 y1_5 y2_0 y2_1 y2_2 y2_3 y2_4 y2_5 y2_6 y2_7 y2_8 y3_0 y3_1 y3_2 y3_3 y3_4 y3_5 y3_6 y4_0 y4_1 y4_2 y4_3 y4_4
    rfl
  rw [if_neg h1, if_neg h2, if_neg h3, if_neg h4, if_neg h5] at hm
  cases hm
theorem laid_shape (m : Msg) : ∃ t x, laidB m = wrapB t x := by
  unfold laidB
  split
  · exact ⟨_, _, rfl⟩
  · split
    · exact ⟨_, _, rfl⟩
    · split
      · exact ⟨_, _, rfl⟩
      · split
        · exact ⟨_, _, rfl⟩
        · exact ⟨_, _, rfl⟩
theorem wrapB_ge (t : UInt8) (x : List UInt8) : x.length ≤ (wrapB t x).length := by unfold wrapB; simp; omega
theorem wrap_inj {t t' : UInt8} {x x' r r' : List UInt8} (hx : x.length ≤ 65535) (hx' : x'.length ≤ 65535) (h : wrapB t x ++ r = wrapB t' x' ++ r') : t = t' ∧ x = x' ∧ r = r' := by
  have ht : t = t' := by
    have : (wrapB t x ++ r).head? = (wrapB t' x' ++ r').head? := by rw [h]
    exact Option.some.inj this
  subst ht
  have e := elem_wrap t x r hx
  rw [h, elem_wrap t x' r' hx'] at e
  cases e
  exact ⟨rfl, rfl, rfl⟩
/-- No laid bytes stand ahead of other ones. -/
theorem laid_free {m m' : Msg} {r r' : List UInt8} (h1 : (laidB m).length ≤ 60000) (h2 : (laidB m').length ≤ 60000) (h : laidB m ++ r = laidB m' ++ r') : laidB m = laidB m' ∧ r = r' := by
  obtain ⟨t, x, e⟩ := laid_shape m
  obtain ⟨t', x', e'⟩ := laid_shape m'
  rw [e] at h1 h
  rw [e'] at h2 h
  rw [e, e']
  have g1 := wrapB_ge t x
  have g2 := wrapB_ge t' x'
  have k1 : x.length ≤ 65535 := by omega
  have k2 : x'.length ≤ 65535 := by omega
  obtain ⟨rfl, rfl, rfl⟩ := wrap_inj k1 k2 h
  exact ⟨rfl, rfl⟩
/-- What Decode answers. -/
def decM (b : List UInt8) : Option Msg := if isB (takenB b) = true ∧ laidB (takenB b) = b ∧ b.length ≤ 2000 then some (takenB b) else none
theorem d_is {m m' : Msg} (h : m.d = m'.d) : isB m = isB m' := by rw [← isd (m := m), h, isd]
theorem d_laid {m m' : Msg} (h : m.d = m'.d) : laidB m = laidB m' := by rw [← laidd (m := m), h, laidd]
theorem decM_laid {b : List UInt8} {m : Msg} (h : isB m = true) (hl : laidB m = b) (hb : b.length ≤ 2000) : decM b = some (takenB b) ∧ (takenB b).d = m.d := by
  subst hl
  have e := taken_laid m h
  refine ⟨if_pos ⟨?_, ?_, hb⟩, e⟩
  · rw [d_is e, h]
  · rw [d_laid e]
theorem decM_ok {b : List UInt8} {m : Msg} (h : decM b = some m) : isB m = true ∧ laidB m = b ∧ b.length ≤ 2000 ∧ m = takenB b := by
  unfold decM at h
  split at h
  · rename_i hh
    cases h
    exact ⟨hh.1, hh.2.1, hh.2.2, rfl⟩
  · cases h
theorem decM_none {b : List UInt8} (h : decM b = none) (m : Msg) (hm : isB m = true) (hb : b.length ≤ 2000) : laidB m ≠ b := fun hl => by
  rw [(decM_laid hm hl hb).1] at h
  cases h
end Go.Proofs.Tryz

set_option maxRecDepth 100000
set_option maxHeartbeats 4000000
set_option linter.unusedVariables false
set_option linter.unusedSimpArgs false
namespace Go.Proofs.Tryz
open Go Ps
def ttN : TT := [(3, ⟨.int .i64, 1, 8, [.int .i64 0]⟩), (4, ⟨.bool, 1, 1, [.bool false]⟩), (5, ⟨.int .u8, 1, 1, [.int .u8 0]⟩), (9, ⟨.str, 1, 16, [.str []]⟩), (22, ⟨.slice 5, 1, 24, [.slice 0 [] (some 5)]⟩), (24, ⟨.strct [(9, 0), (9, 1)], 2, 32, [.str [], .str []]⟩), (26, ⟨.strct [(24, 0), (24, 2), (3, 4), (3, 5)], 6, 80, [.str [], .str [], .str [], .str [], .int .i64 0, .int .i64 0]⟩), (28, ⟨.strct [(24, 0), (3, 2), (22, 3)], 4, 64, [.str [], .str [], .int .i64 0, .slice 0 [] (some 5)]⟩), (30, ⟨.strct [(28, 0), (22, 4), (24, 5), (3, 7), (3, 8)], 9, 136, [.str [], .str [], .int .i64 0, .slice 0 [] (some 5), .slice 0 [] (some 5), .str [], .str [], .int .i64 0, .int .i64 0]⟩), (32, ⟨.strct [(24, 0), (28, 2), (22, 6)], 7, 120, [.str [], .str [], .str [], .str [], .int .i64 0, .slice 0 [] (some 5), .slice 0 [] (some 5)]⟩), (34, ⟨.strct [(28, 0), (22, 4)], 5, 88, [.str [], .str [], .int .i64 0, .slice 0 [] (some 5), .slice 0 [] (some 5)]⟩), (35, ⟨.int .i64, 1, 8, [.int .i64 0]⟩), (37, ⟨.strct [(35, 0), (3, 1)], 2, 16, [.int .i64 0, .int .i64 0]⟩), (39, ⟨.strct [(3, 0), (26, 1), (30, 7), (32, 16), (34, 23), (37, 28)], 30, 448, [.int .i64 0, .str [], .str [], .str [], .str [], .int .i64 0, .int .i64 0, .str [], .str [], .int .i64 0, .slice 0 [] (some 5), .slice 0 [] (some 5), .str [], .str [], .int .i64 0, .int .i64 0, .str [], .str [], .str [], .str [], .int .i64 0, .slice 0 [] (some 5), .slice 0 [] (some 5), .str [], .str [], .int .i64 0, .slice 0 [] (some 5), .slice 0 [] (some 5), .int .i64 0, .int .i64 0]⟩), (46, ⟨.fn, 1, 8, [.nilF]⟩), (144, ⟨.ptr, 1, 8, [.ptr none]⟩), (146, ⟨.strct [(144, 0)], 1, 8, [.ptr none]⟩)]
theorem ttN_ok : ttOk prog ttN = true := by kernel_rfl
def imm112 : List Nat := [1]
def imm52 : List Nat := []
def imm51 : List Nat := [4]
def imm11 : List Nat := []
/-- Where something is taken: the result's place, the taker's, the cursor, the place of what is made. -/
structure TakS (T : Nat) (zc : List PV) (B K : PH) (r a e q : Nat) (s : Option (List UInt8)) (cells : List PV) (ver : Nat) : Prop where
  z : K[r]? = some ⟨T, zc, 0⟩
  c : K[a]? = some ⟨146, [.ptr (some (e, 0))], 1⟩
  p : K[q]? = some ⟨T, cells, ver⟩
  cur : curAt K e s
  up : Upd (· = e) B K
  lb : B.length ≤ q
  n1 : r ≠ e
  n2 : a ≠ e
  n3 : q ≠ e
  n4 : q ≠ a
  n5 : q ≠ r
theorem TakS.call {T : Nat} {zc : List PV} {B K K' : PH} {r a e q : Nat} {s s' : Option (List UInt8)} {cells : List PV} {ver : Nat} (h : TakS T zc B K r a e q s cells ver) (u : Upd (· = e) K K') (c : curAt K' e s') :
    TakS T zc B K' r a e q s' cells ver := by
  have lt : ∀ {i : Nat} {o : PObj}, K[i]? = some o → i < K.length := fun h => (List.getElem?_eq_some_iff.1 h).1
  exact ⟨(u.2 _ (lt h.z) h.n1).trans h.z, (u.2 _ (lt h.c) h.n2).trans h.c, (u.2 _ (lt h.p) h.n3).trans h.p, c, h.up.trans u, h.lb, h.n1, h.n2, h.n3, h.n4, h.n5⟩
theorem TakS.store {T : Nat} {zc : List PV} {B K : PH} {r a e q : Nat} {s : Option (List UInt8)} {cells : List PV} {ver : Nat} (h : TakS T zc B K r a e q s cells ver) (cells' : List PV) (ver' : Nat) :
    TakS T zc B (K.set q ⟨T, cells', ver'⟩) r a e q s cells' ver' := by
  refine ⟨?_, ?_, get_set h.p, h.cur.set_ne h.n3 _, h.up.set (.inr h.lb) _, h.lb, h.n1, h.n2, h.n3, h.n4, h.n5⟩
  · rw [List.getElem?_set_ne h.n5]; exact h.z
  · rw [List.getElem?_set_ne h.n4]; exact h.c
theorem c112 (d : Nat) (s : Option (List UInt8)) (H : PH) (hc : curAt H d s) (hl : ∀ l, s = some l → l.length ≤ 140737488355328) :
    CallOk prog 112 [.agg [.ptr (some (d, 0))]] H fun r H' => r = .agg [.str (tickC s).2.r, .str (tickC s).2.n, .int .i64 (tickC s).2.kv, sl (tickC s).2.b] ∧ Upd (· = d) H H' ∧ curAt H' d (tickC s).1 := by
  have hd := hc.lt
  have g0 := elemC_len (tag := 97) hl
  have hs0 : ∀ l, (elemC 97 s).2 = some l → l.length ≤ 140737488355328 := fun l h => (g0.2 l h).1
  have hs1 := (elemC_len (tag := 48) hs0).1
  have hs2 := intC_len hs1
  (refine callOk_of_pFun2 (tt := ttN) (imm := imm112) follows ttN_ok depth6 func112 (by kernel_rfl) ?_; (conv => whnf))
  obtain ⟨H1, hH1⟩ : ∃ H1, H1 = H ++ [PObj.mk 28 [.str [], .str [], .int .i64 0, .slice 0 [] (some 5)] 0] := ⟨_, rfl⟩
  have hl1 : H1.length = H.length + 1 := by rw [hH1]; simp
  have h0 : H1[H.length]? = some ⟨28, [.str [], .str [], .int .i64 0, .slice 0 [] (some 5)], 0⟩ := by rw [hH1]; exact get_last _ _
  have u1 : Upd (· = d) H H1 := by rw [hH1]; exact (Upd.refl H).push _
  have hc1 : curAt H1 d s := hc.keep (X := fun _ => False) (by rw [hH1]; exact (Upd.refl H).push _) (fun f => f)
  rw [← hH1]
  refine callK_of (c131 d 97 s H1 hc1 hl) ?_
  rintro _ H2 ⟨e, rfl, k1, k2, k3, k4⟩
  have hle := k4.lt
  have uB : Upd (· = d) H H2 := u1.trans k2
  (conv => whnf)
  ((conv in (_[_]?) => tactic => exact get_last _ _); (conv => whnf))
  obtain ⟨H3, hH3⟩ : ∃ H3, H3 = (H2 ++ [PObj.mk 146 [.ptr none] 0]).set H2.length (PObj.mk 146 [.ptr (some (e, 0))] 1) := ⟨_, rfl⟩
  have hH3' : H3 = H2 ++ [PObj.mk 146 [.ptr (some (e, 0))] 1] := by rw [hH3, set_last]
  have u3 : Upd (· = e) H2 H3 := by rw [hH3']; exact (Upd.refl H2).push _
  have h3c : H3[H2.length]? = some ⟨146, [.ptr (some (e, 0))], 1⟩ := by rw [hH3']; exact get_last _ _
  have h3e : curAt H3 e (elemC 97 s).2 := k4.keep (X := fun _ => False) (by rw [hH3']; exact (Upd.refl H2).push _) (fun f => f)
  have h3z : H3[H.length]? = some ⟨28, [.str [], .str [], .int .i64 0, .slice 0 [] (some 5)], 0⟩ := by
    rw [hH3', List.getElem?_append_left (by omega), k2.2 _ (by omega) (by omega)]; exact h0
  have h3l : H3.length = H2.length + 1 := by rw [hH3']; simp
  subst hH3
  ((conv in (_[_]?) => tactic => exact h3c); (conv => whnf))
  refine callK_of (c77 e _ _ h3e hs0) ?_
  rintro _ K1 ⟨rfl, u4, g4⟩
  have D1 : TakS 28 [.str [], .str [], .int .i64 0, .slice 0 [] (some 5)] H2 ((K1 ++ [PObj.mk 28 [.str [], .str [], .int .i64 0, .slice 0 [] (some 5)] 0]).set K1.length ⟨28, [.str (princC (elemC 97 s).2).2.1, .str (princC (elemC 97 s).2).2.2, .int .i64 0, .slice 0 [] (some 5)], 1⟩) H.length H2.length e K1.length (princC (elemC 97 s).2).1 [.str (princC (elemC 97 s).2).2.1, .str (princC (elemC 97 s).2).2.2, .int .i64 0, .slice 0 [] (some 5)] 1 := by
    have hk : H2.length + 1 ≤ K1.length := Nat.le_trans (Nat.le_of_eq h3l.symm) u4.1
    rw [set_last]
    refine ⟨?_, ?_, get_last _ _, g4.keep (X := fun _ => False) ((Upd.refl K1).push _) (fun f => f), (u3.trans u4).push _, by omega, by omega, by omega, by omega, by omega, by omega⟩
    · rw [List.getElem?_append_left (by omega), u4.2 _ (Nat.lt_of_lt_of_le (show H.length < H2.length + 1 by omega) (Nat.le_of_eq h3l.symm)) (by omega)]; exact h3z
    · rw [List.getElem?_append_left (by omega), u4.2 _ (Nat.lt_of_lt_of_le (show H2.length < H2.length + 1 by omega) (Nat.le_of_eq h3l.symm)) (by omega)]; exact h3c
  (conv => whnf)
  ((conv in (_[_]?) => tactic => exact get_last _ _); (conv => whnf))
  ((conv in (_[_]?) => tactic => exact D1.c); (conv => whnf))
  refine callK_of (c80 e _ _ D1.cur hs1) ?_
  rintro _ K2 ⟨rfl, u5, g5⟩
  have D2 := D1.call u5 g5
  (conv => whnf)
  ((conv in (_[_]?) => tactic => exact D2.p); (conv => whnf))
  have D3 := D2.store [.str (princC (elemC 97 s).2).2.1, .str (princC (elemC 97 s).2).2.2, .int .i64 (intC (princC (elemC 97 s).2).1).2, .slice 0 [] (some 5)] 2
  ((conv in (_[_]?) => tactic => exact D3.c); (conv => whnf))
  refine callK_of (c113 e _ _ D3.cur hs2) ?_
  rintro _ K4 ⟨rfl, u6, g6, _⟩
  have D4 := D3.call u6 g6
  (conv => whnf)
  ((conv in (_[_]?) => tactic => exact D4.p); (conv => whnf))
  have D5 := D4.store [.str (princC (elemC 97 s).2).2.1, .str (princC (elemC 97 s).2).2.2, .int .i64 (intC (princC (elemC 97 s).2).1).2, sl (octC (intC (princC (elemC 97 s).2).1).1).2] 3
  ((conv in (_[_]?) => tactic => exact D5.p); (conv => whnf))
  ((conv in (_[_]?) => tactic => exact D5.z); (conv => whnf))
  ((conv in (_[_]?) => tactic => exact get_set D5.z); (conv => whnf))
  have uF := uB.over D5.up (fun i hi h => by omega)
  exact ⟨rfl, uF.set (.inr (Nat.le_refl _)) _, (k3.keep D5.up (by omega)).set_ne (by omega) _⟩
theorem sl_get0 (t : UInt8) (b : List UInt8) : ∀ (j : Nat) (c : PV), [byteC t][j]? = some c → ((t :: b).map byteC)[0 * 1 + j]? = some c := by
  intro j c hj
  match j with
  | 0 => exact hj
  | j + 1 => simp at hj
theorem get_mid_set (H : PH) (o o' o'' : PObj) : ((H ++ [o] ++ [o']).set (H ++ [o]).length o'')[H.length]? = some o := by
  rw [set_last]; exact get_mid _ _ _
theorem c52x (b : List UInt8) (hb : b.length ≤ 140737488355328) (H : PH) : CallOk prog 52 [sl b] H fun r H' => r = .agg (takenB b).d.cells ∧ ∃ ext, H' = H ++ ext := by
  (refine callOk_of_pFun2 (tt := ttN) (imm := imm52) follows ttN_ok depth6 func52 (by kernel_rfl) ?_; (conv => whnf))
  ((conv in (_[_]?) => tactic => exact get_last _ _); (conv => whnf))
  cases b with
  | nil =>
    refine ⟨fun _ => ?_, fun h => absurd rfl h⟩
    (conv => whnf)
    ((conv in (_[_]?) => tactic => exact get_set (get_last _ _)); (conv => whnf))
    ((conv in (_[_]?) => tactic => exact get_mid_set _ _ _ _); (conv => whnf))
    ((conv in (_[_]?) => tactic => exact get_set (get_mid_set _ _ _ _)); (conv => whnf))
    exact ⟨rfl, ((((Ext.refl H).push _).push _).set (by simp) _).set (Nat.le_refl _) _⟩
  | cons t b =>
    refine ⟨fun h => absurd h (by simp <;> omega), fun _ => ?_⟩
    (conv => whnf)
    obtain ⟨HA, hHA⟩ : ∃ HA, HA = H ++ [PObj.mk 39 mZ.cells 0] := ⟨_, rfl⟩
    obtain ⟨H1, hH1⟩ : ∃ H1, H1 = (HA ++ [PObj.mk 39 mZ.cells 0]).set HA.length (PObj.mk 39 mZ.cells 1) := ⟨_, rfl⟩
    have hlA : HA.length = H.length + 1 := by rw [hHA]; simp
    have hH1' : H1 = HA ++ [PObj.mk 39 mZ.cells 1] := by rw [hH1, set_last]
    have hl1 : H1.length = H.length + 2 := by rw [hH1']; simp [hlA]
    have h1r : H1[H.length]? = some ⟨39, mZ.cells, 0⟩ := by rw [hH1', List.getElem?_append_left (by omega), hHA]; exact get_last _ _
    have h1q : H1[HA.length]? = some ⟨39, mZ.cells, 1⟩ := by rw [hH1']; exact get_last _ _
    have u1 : Upd (fun _ => False) H H1 := by rw [hH1', hHA]; exact ((Upd.refl H).push _).push _
    refine ⟨⟨by decide, by first | (simp; done) | (simp; omega)⟩, [byteC t], sl_get0 t b, ?_⟩
    (conv => whnf)
    subst hH1
    subst hHA
    refine callK_of (c76 (t :: b) t hb _) ?_
    rintro _ H2 ⟨e, rfl, k1, k2, k3⟩
    have k1 : ((H ++ [PObj.mk 39 mZ.cells 0] ++ [PObj.mk 39 mZ.cells 0]).set (H ++ [PObj.mk 39 mZ.cells 0]).length (PObj.mk 39 mZ.cells 1)).length ≤ e := k1
    rw [hl1] at k1
    have k2 : Upd (fun _ => False) ((H ++ [PObj.mk 39 mZ.cells 0] ++ [PObj.mk 39 mZ.cells 0]).set (H ++ [PObj.mk 39 mZ.cells 0]).length (PObj.mk 39 mZ.cells 1)) H2 := k2
    have hle := k3.lt
    have hs0 : ∀ l, (elemC t (some (t :: b))).2 = some l → l.length ≤ 140737488355328 := fun l h => ((elemC_len (tag := t) (fun l h => by cases h; exact hb)).2 l h).1
    show _
    have e0 : takenB (t :: b) = takenT t (elemC t (some (t :: b))).2 := rfl
    rw [e0]
    generalize (elemC t (some (t :: b))).2 = s at hs0 k3
    have D0 : TakS 39 mZ.cells H ((H2 ++ [PObj.mk 146 [.ptr none] 0]).set H2.length (PObj.mk 146 [.ptr (some (e, 0))] 1)) H.length H2.length e (H ++ [PObj.mk 39 mZ.cells 0]).length s mZ.cells 1 := by
      rw [set_last]
      have hk : H.length + 2 ≤ H2.length := Nat.le_trans (Nat.le_of_eq hl1.symm) k2.1
      refine ⟨?_, get_last _ _, ?_, k3.keep (X := fun _ => False) ((Upd.refl H2).push _) (fun f => f), ((u1.over k2 (fun _ _ h => h)).push _).mono (fun i _ h => h.elim), by omega, by omega, by omega, by omega, by omega, by omega⟩
      · rw [List.getElem?_append_left (by omega), k2.2 _ (by omega) (fun f => f)]; exact h1r
      · rw [List.getElem?_append_left (by omega), k2.2 _ (by omega) (fun f => f)]; exact h1q
    have fin : ∀ {K : PH} {s' : Option (List UInt8)} {cells : List PV} {ver : Nat} (D : TakS 39 mZ.cells H K H.length H2.length e (H ++ [PObj.mk 39 mZ.cells 0]).length s' cells ver) (o : PObj), ∃ ext, K.set H.length o = H ++ ext := fun D o =>
      Upd.ext ((D.up.mono (Y := fun _ => False) (fun i hi h => by have h : i = e := h; omega)).set (.inr (Nat.le_refl _)) o)
    (conv => whnf)
    ((conv in (_[_]?) => tactic => exact get_last _ _); (conv => whnf))
    refine ⟨⟨by decide, by first | (simp; done) | (simp; omega)⟩, [byteC t], sl_get0 t b, ?_⟩
    (conv => whnf)
    refine ⟨fun h1 => ?_, fun h1 => ?_⟩
    · have h1 : (t.toNat : Int) = 106 := h1
      have et : takenT t s = tkAs s := by unfold takenT; rw [if_pos (by omega)]
      rw [et]
      (conv => whnf)
      ((conv in (_[_]?) => tactic => exact D0.p); (conv => whnf))
      have E0 := D0.store ({ mZ with kind := 1 } : Msg).cells 2
      ((conv in (_[_]?) => tactic => exact E0.c); (conv => whnf))
      have l0 : ∀ l, s = some l → l.length ≤ 140737488355328 := hs0
      refine callK_of (c77 e _ _ E0.cur l0) ?_
      rintro _ K0 ⟨rfl, u0, g0⟩
      have F0 := E0.call u0 g0
      (conv => whnf)
      ((conv in (_[_]?) => tactic => exact F0.p); (conv => whnf))
      have E1 := F0.store ({ mZ with kind := 1, a1 := (princC s).2.1, a2 := (princC s).2.2 } : Msg).cells 3
      ((conv in (_[_]?) => tactic => exact E1.c); (conv => whnf))
      have l1 : ∀ l, (princC s).1 = some l → l.length ≤ 140737488355328 := (elemC_len (tag := 48) l0).1
      refine callK_of (c77 e _ _ E1.cur l1) ?_
      rintro _ K1 ⟨rfl, u1, g1⟩
      have F1 := E1.call u1 g1
      (conv => whnf)
      ((conv in (_[_]?) => tactic => exact F1.p); (conv => whnf))
      have E2 := F1.store ({ mZ with kind := 1, a1 := (princC s).2.1, a2 := (princC s).2.2, a3 := (princC (princC s).1).2.1, a4 := (princC (princC s).1).2.2 } : Msg).cells 4
      ((conv in (_[_]?) => tactic => exact E2.c); (conv => whnf))
      have l2 : ∀ l, (princC (princC s).1).1 = some l → l.length ≤ 140737488355328 := (elemC_len (tag := 48) l1).1
      refine callK_of (c80 e _ _ E2.cur l2) ?_
      rintro _ K2 ⟨rfl, u2, g2⟩
      have F2 := E2.call u2 g2
      (conv => whnf)
      ((conv in (_[_]?) => tactic => exact F2.p); (conv => whnf))
      have E3 := F2.store ({ mZ with kind := 1, a1 := (princC s).2.1, a2 := (princC s).2.2, a3 := (princC (princC s).1).2.1, a4 := (princC (princC s).1).2.2, aTill := (intC (princC (princC s).1).1).2 } : Msg).cells 5
      ((conv in (_[_]?) => tactic => exact E3.c); (conv => whnf))
      have l3 : ∀ l, (intC (princC (princC s).1).1).1 = some l → l.length ≤ 140737488355328 := intC_len l2
      refine callK_of (c80 e _ _ E3.cur l3) ?_
      rintro _ K3 ⟨rfl, u3, g3⟩
      have F3 := E3.call u3 g3
      (conv => whnf)
      ((conv in (_[_]?) => tactic => exact F3.p); (conv => whnf))
      have E4 := F3.store ({ mZ with kind := 1, a1 := (princC s).2.1, a2 := (princC s).2.2, a3 := (princC (princC s).1).2.1, a4 := (princC (princC s).1).2.2, aTill := (intC (princC (princC s).1).1).2, aNonce := (intC (intC (princC (princC s).1).1).1).2 } : Msg).cells 6
      ((conv in (_[_]?) => tactic => exact E4.p); (conv => whnf))
      ((conv in (_[_]?) => tactic => exact E4.z); (conv => whnf))
      ((conv in (_[_]?) => tactic => exact get_set E4.z); (conv => whnf))
      exact ⟨rfl, fin E4 _⟩
    (conv => whnf)
    have h1 : ¬ (t.toNat : Int) = 106 := h1
    refine ⟨fun h2 => ?_, fun h2 => ?_⟩
    · have h2 : (t.toNat : Int) = 108 := h2
      have et : takenT t s = tkTgs s := by unfold takenT; rw [if_neg (by omega)]; rw [if_pos (by omega)]
      rw [et]
      (conv => whnf)
      ((conv in (_[_]?) => tactic => exact D0.p); (conv => whnf))
      have E0 := D0.store ({ mZ with kind := 2 } : Msg).cells 2
      ((conv in (_[_]?) => tactic => exact E0.c); (conv => whnf))
      have l0 : ∀ l, s = some l → l.length ≤ 140737488355328 := hs0
      refine callK_of (c112 e _ _ E0.cur l0) ?_
      rintro _ K0 ⟨rfl, u0, g0⟩
      have F0 := E0.call u0 g0
      (conv => whnf)
      ((conv in (_[_]?) => tactic => exact F0.p); (conv => whnf))
      have E1 := F0.store ({ mZ with kind := 2, t1 := (tickC s).2.r, t2 := (tickC s).2.n, tKv := (tickC s).2.kv, tB := (tickC s).2.b, tBo := none } : Msg).cells 3
      ((conv in (_[_]?) => tactic => exact E1.c); (conv => whnf))
      have l1 : ∀ l, (tickC s).1 = some l → l.length ≤ 140737488355328 := (elemC_len (tag := 97) l0).1
      refine callK_of (c113 e _ _ E1.cur l1) ?_
      rintro _ K1 ⟨rfl, u1, g1, _⟩
      have F1 := E1.call u1 g1
      (conv => whnf)
      ((conv in (_[_]?) => tactic => exact F1.p); (conv => whnf))
      have E2 := F1.store ({ mZ with kind := 2, t1 := (tickC s).2.r, t2 := (tickC s).2.n, tKv := (tickC s).2.kv, tB := (tickC s).2.b, tBo := none, tAu := (octC (tickC s).1).2, tAuo := none } : Msg).cells 4
      ((conv in (_[_]?) => tactic => exact E2.c); (conv => whnf))
      have l2 : ∀ l, (octC (tickC s).1).1 = some l → l.length ≤ 140737488355328 := (elemC_len (tag := 4) l1).1
      refine callK_of (c77 e _ _ E2.cur l2) ?_
      rintro _ K2 ⟨rfl, u2, g2⟩
      have F2 := E2.call u2 g2
      (conv => whnf)
      ((conv in (_[_]?) => tactic => exact F2.p); (conv => whnf))
      have E3 := F2.store ({ mZ with kind := 2, t1 := (tickC s).2.r, t2 := (tickC s).2.n, tKv := (tickC s).2.kv, tB := (tickC s).2.b, tBo := none, tAu := (octC (tickC s).1).2, tAuo := none, t3 := (princC (octC (tickC s).1).1).2.1, t4 := (princC (octC (tickC s).1).1).2.2 } : Msg).cells 5
      ((conv in (_[_]?) => tactic => exact E3.c); (conv => whnf))
      have l3 : ∀ l, (princC (octC (tickC s).1).1).1 = some l → l.length ≤ 140737488355328 := (elemC_len (tag := 48) l2).1
      refine callK_of (c80 e _ _ E3.cur l3) ?_
      rintro _ K3 ⟨rfl, u3, g3⟩
      have F3 := E3.call u3 g3
      (conv => whnf)
      ((conv in (_[_]?) => tactic => exact F3.p); (conv => whnf))
      have E4 := F3.store ({ mZ with kind := 2, t1 := (tickC s).2.r, t2 := (tickC s).2.n, tKv := (tickC s).2.kv, tB := (tickC s).2.b, tBo := none, tAu := (octC (tickC s).1).2, tAuo := none, t3 := (princC (octC (tickC s).1).1).2.1, t4 := (princC (octC (tickC s).1).1).2.2, tTill := (intC (princC (octC (tickC s).1).1).1).2 } : Msg).cells 6
      ((conv in (_[_]?) => tactic => exact E4.c); (conv => whnf))
      have l4 : ∀ l, (intC (princC (octC (tickC s).1).1).1).1 = some l → l.length ≤ 140737488355328 := intC_len l3
      refine callK_of (c80 e _ _ E4.cur l4) ?_
      rintro _ K4 ⟨rfl, u4, g4⟩
      have F4 := E4.call u4 g4
      (conv => whnf)
      ((conv in (_[_]?) => tactic => exact F4.p); (conv => whnf))
      have E5 := F4.store ({ mZ with kind := 2, t1 := (tickC s).2.r, t2 := (tickC s).2.n, tKv := (tickC s).2.kv, tB := (tickC s).2.b, tBo := none, tAu := (octC (tickC s).1).2, tAuo := none, t3 := (princC (octC (tickC s).1).1).2.1, t4 := (princC (octC (tickC s).1).1).2.2, tTill := (intC (princC (octC (tickC s).1).1).1).2, tNonce := (intC (intC (princC (octC (tickC s).1).1).1).1).2 } : Msg).cells 7
      ((conv in (_[_]?) => tactic => exact E5.p); (conv => whnf))
      ((conv in (_[_]?) => tactic => exact E5.z); (conv => whnf))
      ((conv in (_[_]?) => tactic => exact get_set E5.z); (conv => whnf))
      exact ⟨rfl, fin E5 _⟩
    (conv => whnf)
    have h2 : ¬ (t.toNat : Int) = 108 := h2
    refine ⟨fun h3 => ?_, fun h3 => ?_⟩
    · have h3 : (t.toNat : Int) = 107 := h3
      have et : takenT t s = tkRep s := by unfold takenT; rw [if_neg (by omega)]; rw [if_neg (by omega)]; rw [if_pos (by omega)]
      rw [et]
      (conv => whnf)
      ((conv in (_[_]?) => tactic => exact D0.p); (conv => whnf))
      have E0 := D0.store ({ mZ with kind := 3 } : Msg).cells 2
      ((conv in (_[_]?) => tactic => exact E0.c); (conv => whnf))
      have l0 : ∀ l, s = some l → l.length ≤ 140737488355328 := hs0
      refine callK_of (c77 e _ _ E0.cur l0) ?_
      rintro _ K0 ⟨rfl, u0, g0⟩
      have F0 := E0.call u0 g0
      (conv => whnf)
      ((conv in (_[_]?) => tactic => exact F0.p); (conv => whnf))
      have E1 := F0.store ({ mZ with kind := 3, r1 := (princC s).2.1, r2 := (princC s).2.2 } : Msg).cells 3
      ((conv in (_[_]?) => tactic => exact E1.c); (conv => whnf))
      have l1 : ∀ l, (princC s).1 = some l → l.length ≤ 140737488355328 := (elemC_len (tag := 48) l0).1
      refine callK_of (c112 e _ _ E1.cur l1) ?_
      rintro _ K1 ⟨rfl, u1, g1⟩
      have F1 := E1.call u1 g1
      (conv => whnf)
      ((conv in (_[_]?) => tactic => exact F1.p); (conv => whnf))
      have E2 := F1.store ({ mZ with kind := 3, r1 := (princC s).2.1, r2 := (princC s).2.2, r3 := (tickC (princC s).1).2.r, r4 := (tickC (princC s).1).2.n, rKv := (tickC (princC s).1).2.kv, rB := (tickC (princC s).1).2.b, rBo := none } : Msg).cells 4
      ((conv in (_[_]?) => tactic => exact E2.c); (conv => whnf))
      have l2 : ∀ l, (tickC (princC s).1).1 = some l → l.length ≤ 140737488355328 := (elemC_len (tag := 97) l1).1
      refine callK_of (c113 e _ _ E2.cur l2) ?_
      rintro _ K2 ⟨rfl, u2, g2, _⟩
      have F2 := E2.call u2 g2
      (conv => whnf)
      ((conv in (_[_]?) => tactic => exact F2.p); (conv => whnf))
      have E3 := F2.store ({ mZ with kind := 3, r1 := (princC s).2.1, r2 := (princC s).2.2, r3 := (tickC (princC s).1).2.r, r4 := (tickC (princC s).1).2.n, rKv := (tickC (princC s).1).2.kv, rB := (tickC (princC s).1).2.b, rBo := none, rBl := (octC (tickC (princC s).1).1).2, rBlo := none } : Msg).cells 5
      ((conv in (_[_]?) => tactic => exact E3.p); (conv => whnf))
      ((conv in (_[_]?) => tactic => exact E3.z); (conv => whnf))
      ((conv in (_[_]?) => tactic => exact get_set E3.z); (conv => whnf))
      exact ⟨rfl, fin E3 _⟩
    (conv => whnf)
    have h3 : ¬ (t.toNat : Int) = 107 := h3
    refine ⟨fun h4 => ?_, fun h4 => ?_⟩
    · have h4 : (t.toNat : Int) = 110 := h4
      have et : takenT t s = tkAp s := by unfold takenT; rw [if_neg (by omega)]; rw [if_neg (by omega)]; rw [if_neg (by omega)]; rw [if_pos (by omega)]
      rw [et]
      (conv => whnf)
      ((conv in (_[_]?) => tactic => exact D0.p); (conv => whnf))
      have E0 := D0.store ({ mZ with kind := 4 } : Msg).cells 2
      ((conv in (_[_]?) => tactic => exact E0.c); (conv => whnf))
      have l0 : ∀ l, s = some l → l.length ≤ 140737488355328 := hs0
      refine callK_of (c112 e _ _ E0.cur l0) ?_
      rintro _ K0 ⟨rfl, u0, g0⟩
      have F0 := E0.call u0 g0
      (conv => whnf)
      ((conv in (_[_]?) => tactic => exact F0.p); (conv => whnf))
      have E1 := F0.store ({ mZ with kind := 4, p1 := (tickC s).2.r, p2 := (tickC s).2.n, pKv := (tickC s).2.kv, pB := (tickC s).2.b, pBo := none } : Msg).cells 3
      ((conv in (_[_]?) => tactic => exact E1.c); (conv => whnf))
      have l1 : ∀ l, (tickC s).1 = some l → l.length ≤ 140737488355328 := (elemC_len (tag := 97) l0).1
      refine callK_of (c113 e _ _ E1.cur l1) ?_
      rintro _ K1 ⟨rfl, u1, g1, _⟩
      have F1 := E1.call u1 g1
      (conv => whnf)
      ((conv in (_[_]?) => tactic => exact F1.p); (conv => whnf))
      have E2 := F1.store ({ mZ with kind := 4, p1 := (tickC s).2.r, p2 := (tickC s).2.n, pKv := (tickC s).2.kv, pB := (tickC s).2.b, pBo := none, pAu := (octC (tickC s).1).2, pAuo := none } : Msg).cells 4
      ((conv in (_[_]?) => tactic => exact E2.p); (conv => whnf))
      ((conv in (_[_]?) => tactic => exact E2.z); (conv => whnf))
      ((conv in (_[_]?) => tactic => exact get_set E2.z); (conv => whnf))
      exact ⟨rfl, fin E2 _⟩
    (conv => whnf)
    have h4 : ¬ (t.toNat : Int) = 110 := h4
    refine ⟨fun h5 => ?_, fun h5 => ?_⟩
    · have h5 : (t.toNat : Int) = 126 := h5
      have et : takenT t s = tkFail s := by unfold takenT; rw [if_neg (by omega)]; rw [if_neg (by omega)]; rw [if_neg (by omega)]; rw [if_neg (by omega)]; rw [if_pos (by omega)]
      rw [et]
      (conv => whnf)
      ((conv in (_[_]?) => tactic => exact D0.p); (conv => whnf))
      have E0 := D0.store ({ mZ with kind := 5 } : Msg).cells 2
      ((conv in (_[_]?) => tactic => exact E0.c); (conv => whnf))
      have l0 : ∀ l, s = some l → l.length ≤ 140737488355328 := hs0
      refine callK_of (c80 e _ _ E0.cur l0) ?_
      rintro _ K0 ⟨rfl, u0, g0⟩
      have F0 := E0.call u0 g0
      (conv => whnf)
      ((conv in (_[_]?) => tactic => exact F0.p); (conv => whnf))
      have E1 := F0.store ({ mZ with kind := 5, fErr := (intC s).2 } : Msg).cells 3
      ((conv in (_[_]?) => tactic => exact E1.c); (conv => whnf))
      have l1 : ∀ l, (intC s).1 = some l → l.length ≤ 140737488355328 := intC_len l0
      refine callK_of (c80 e _ _ E1.cur l1) ?_
      rintro _ K1 ⟨rfl, u1, g1⟩
      have F1 := E1.call u1 g1
      (conv => whnf)
      ((conv in (_[_]?) => tactic => exact F1.p); (conv => whnf))
      have E2 := F1.store ({ mZ with kind := 5, fErr := (intC s).2, fNonce := (intC (intC s).1).2 } : Msg).cells 4
      ((conv in (_[_]?) => tactic => exact E2.p); (conv => whnf))
      ((conv in (_[_]?) => tactic => exact E2.z); (conv => whnf))
      ((conv in (_[_]?) => tactic => exact get_set E2.z); (conv => whnf))
      exact ⟨rfl, fin E2 _⟩
    (conv => whnf)
    have h5 : ¬ (t.toNat : Int) = 126 := h5
    have et : takenT t s = mZ := by unfold takenT; rw [if_neg (by omega), if_neg (by omega), if_neg (by omega), if_neg (by omega), if_neg (by omega)]
    rw [et]
    ((conv in (_[_]?) => tactic => exact D0.p); (conv => whnf))
    ((conv in (_[_]?) => tactic => exact D0.z); (conv => whnf))
    ((conv in (_[_]?) => tactic => exact get_set D0.z); (conv => whnf))
    exact ⟨rfl, fin D0 _⟩
end Go.Proofs.Tryz

set_option maxRecDepth 100000
set_option maxHeartbeats 4000000
set_option linter.unusedVariables false
set_option linter.unusedSimpArgs false
namespace Go.Proofs.Tryz
open Go Ps
theorem old_cells (m : Msg) : oldPs m.d.cells = true := by
  simp [Msg.cells, Msg.as, Msg.tgs, Msg.rep, Msg.ap, Msg.fail, Msg.d, oldPs, oldP, slo, oldPs_bytes]
theorem c52 (b : List UInt8) (hb : b.length ≤ 140737488355328) : Pure prog 52 [sl b] (.agg (takenB b).d.cells) := Pure.of_gc (old_cells _) (c52x b hb)
theorem small (t : UInt8) (s : Option (List UInt8)) : ((elemC t s).2.getD []).length ≤ 65535 :=
  getD_len (B := (s.getD []).length) (elemC_len (fun l h => by subst h; exact Nat.le_refl _)).2
theorem small2 (t : UInt8) (s : Option (List UInt8)) : ((elemC t s).2.getD []).length ≤ 1099511620000 := Nat.le_trans (small t s) (by decide)
theorem taken_fits (b : List UInt8) : (takenB b).fits := by
  cases b with
  | nil => simp [takenB, mZ, Msg.fits]
  | cons t b =>
    show (takenT t _).fits
    generalize (elemC t (some (t :: b))).2 = s
    unfold takenT
    have z : ∀ n : Nat, ([] : List UInt8).length ≤ n := fun n => Nat.zero_le _
    split
    · refine ⟨?_, ?_, ?_, ?_, ?_, ?_, ?_, ?_, ?_, ?_, ?_, ?_, ?_, ?_⟩ <;> first | exact z _ | exact small2 _ _
    · split
      · refine ⟨?_, ?_, ?_, ?_, ?_, ?_, ?_, ?_, ?_, ?_, ?_, ?_, ?_, ?_⟩ <;> first | exact z _ | exact small2 _ _
      · split
        · refine ⟨?_, ?_, ?_, ?_, ?_, ?_, ?_, ?_, ?_, ?_, ?_, ?_, ?_, ?_⟩ <;> first | exact z _ | exact small2 _ _
        · split
          · refine ⟨?_, ?_, ?_, ?_, ?_, ?_, ?_, ?_, ?_, ?_, ?_, ?_, ?_, ?_⟩ <;> first | exact z _ | exact small2 _ _
          · split
            · refine ⟨?_, ?_, ?_, ?_, ?_, ?_, ?_, ?_, ?_, ?_, ?_, ?_, ?_, ?_⟩ <;> first | exact z _ | exact small2 _ _
            · refine ⟨?_, ?_, ?_, ?_, ?_, ?_, ?_, ?_, ?_, ?_, ?_, ?_, ?_, ?_⟩ <;> first | exact z _ | exact small2 _ _
/-- Is a message laid just so? -/
def okM (m : Msg) (b : List UInt8) : Bool := isB m && (decide ((laidB m).length ≤ 2000) && decide (laidB m = b))
def agM (m : Msg) (b : List UInt8) : PV := match okM m b with
  | true => .tup [.agg m.d.cells, .int .i64 0]
  | false => .tup [.agg mZ.d.cells, .int .i64 2]
theorem agM_yes {m : Msg} {b : List UInt8} (h : okM m b = true) : agM m b = .tup [.agg m.d.cells, .int .i64 0] := by unfold agM; rw [h]
theorem agM_no {m : Msg} {b : List UInt8} (h : okM m b = false) : agM m b = .tup [.agg mZ.d.cells, .int .i64 2] := by unfold agM; rw [h]
theorem encV_yes {m : Msg} (h : isB m = true ∧ (laidB m).length ≤ 2000) : encV m = .tup [sl (laidB m), .int .i64 0] := if_pos h
theorem encV_no {m : Msg} (h : ¬ (isB m = true ∧ (laidB m).length ≤ 2000)) : encV m = .tup [.slice 0 [] (some 5), .int .i64 1] := if_neg h
theorem c51x (m : Msg) (b : List UInt8) (hm : m.fits) (H : PH) : CallOk prog 51 [sl b, .agg m.d.cells, .func 14 [] []] H fun r H' => r = agM m b ∧ ∃ ext, H' = H ++ ext := by
  (refine callOk_of_pFun2 (tt := ttN) (imm := imm51) follows ttN_ok depth6 func51 (by kernel_rfl) ?_; (conv => whnf))
  have hd : encV m.d = encV m := rfl
  by_cases hb : isB m = true ∧ (laidB m).length ≤ 2000
  · refine callK_pure ((c14 m.d hm).of_eq (hd.trans (encV_yes hb))) ?_
    (conv => whnf)
    refine ⟨fun _ => ?_, fun h => absurd rfl h⟩
    (conv => whnf)
    refine callK_pure (c106 (laidB m) b) ?_
    cases hq : decide (laidB m = b)
    · have hk : okM m b = false := by unfold okM; rw [hq, Bool.and_false, Bool.and_false]
      rw [agM_no hk]
      (conv => whnf)
      ((conv in (_[_]?) => tactic => exact get_last _ _); (conv => whnf))
      ((conv in (_[_]?) => tactic => exact get_mid _ _ _); (conv => whnf))
      ((conv in (_[_]?) => tactic => exact get_set (get_mid _ _ _)); (conv => whnf))
      exact ⟨rfl, (((Ext.refl H).push _).push _).set (Nat.le_refl _) _⟩
    · have hk : okM m b = true := by unfold okM; rw [hq, hb.1, decide_eq_true hb.2]; rfl
      rw [agM_yes hk]
      (conv => whnf)
      ((conv in (_[_]?) => tactic => exact get_mid _ _ _); (conv => whnf))
      ((conv in (_[_]?) => tactic => exact get_set (get_mid _ _ _)); (conv => whnf))
      exact ⟨rfl, (((Ext.refl H).push _).push _).set (Nat.le_refl _) _⟩
  · refine callK_pure ((c14 m.d hm).of_eq (hd.trans (encV_no hb))) ?_
    have hk : okM m b = false := by
      unfold okM
      cases h1 : isB m
      · rfl
      · rw [decide_eq_false (fun h2 => hb ⟨h1, h2⟩)]; rfl
    rw [agM_no hk]
    (conv => whnf)
    refine ⟨fun h => absurd h (by decide), fun _ => ?_⟩
    (conv => whnf)
    ((conv in (_[_]?) => tactic => exact get_last _ _); (conv => whnf))
    ((conv in (_[_]?) => tactic => exact get_mid _ _ _); (conv => whnf))
    ((conv in (_[_]?) => tactic => exact get_set (get_mid _ _ _)); (conv => whnf))
    exact ⟨rfl, (((Ext.refl H).push _).push _).set (Nat.le_refl _) _⟩
theorem agM_old (m : Msg) (b : List UInt8) : oldR (agM m b) = true := by
  cases h : okM m b
  · rw [agM_no h]; simp [oldR, oldPs, oldP, old_cells]
  · rw [agM_yes h]; simp [oldR, oldPs, oldP, old_cells]
theorem c51 (m : Msg) (b : List UInt8) (hm : m.fits) : Pure prog 51 [sl b, .agg m.d.cells, .func 14 [] []] (agM m b) := Pure.of_gc (agM_old m b) (c51x m b hm)
def decV (b : List UInt8) : PV := agM (takenB b) b
theorem c11x (b : List UInt8) (hb : b.length ≤ 140737488355328) (H : PH) : CallOk prog 11 [sl b] H fun r H' => r = decV b ∧ ∃ ext, H' = H ++ ext := by
  (refine callOk_of_pFun2 (tt := ttN) (imm := imm11) follows ttN_ok depth6 func11 (by kernel_rfl) ?_; (conv => whnf))
  refine callK_pure (c52 b hb) ?_
  (conv => whnf)
  refine callK_pure (c51 (takenB b) b (taken_fits b)) ?_
  unfold decV
  cases h : okM (takenB b) b
  · rw [agM_no h]
    (conv => whnf)
    ((conv in (_[_]?) => tactic => exact get_last _ _); (conv => whnf))
    ((conv in (_[_]?) => tactic => exact get_set (get_last _ _)); (conv => whnf))
    exact ⟨rfl, ((Ext.refl H).push _).set (Nat.le_refl _) _⟩
  · rw [agM_yes h]
    (conv => whnf)
    ((conv in (_[_]?) => tactic => exact get_last _ _); (conv => whnf))
    ((conv in (_[_]?) => tactic => exact get_set (get_last _ _)); (conv => whnf))
    exact ⟨rfl, ((Ext.refl H).push _).set (Nat.le_refl _) _⟩
theorem c11 (b : List UInt8) (hb : b.length ≤ 140737488355328) : Pure prog 11 [sl b] (decV b) := Pure.of_gc (agM_old _ b) (c11x b hb)
end Go.Proofs.Tryz

set_option maxRecDepth 100000
set_option maxHeartbeats 4000000
set_option linter.unusedVariables false
set_option linter.unusedSimpArgs false
namespace Go.Proofs.Tryz
open Go Ps
def ttL : TT := [(3, ⟨.int .i64, 1, 8, [.int .i64 0]⟩), (4, ⟨.bool, 1, 1, [.bool false]⟩), (5, ⟨.int .u8, 1, 1, [.int .u8 0]⟩), (9, ⟨.str, 1, 16, [.str []]⟩), (22, ⟨.slice 5, 1, 24, [.slice 0 [] (some 5)]⟩), (24, ⟨.strct [(9, 0), (9, 1)], 2, 32, [.str [], .str []]⟩), (26, ⟨.strct [(24, 0), (24, 2), (3, 4), (3, 5)], 6, 80, [.str [], .str [], .str [], .str [], .int .i64 0, .int .i64 0]⟩), (28, ⟨.strct [(24, 0), (3, 2), (22, 3)], 4, 64, [.str [], .str [], .int .i64 0, .slice 0 [] (some 5)]⟩), (30, ⟨.strct [(28, 0), (22, 4), (24, 5), (3, 7), (3, 8)], 9, 136, [.str [], .str [], .int .i64 0, .slice 0 [] (some 5), .slice 0 [] (some 5), .str [], .str [], .int .i64 0, .int .i64 0]⟩), (32, ⟨.strct [(24, 0), (28, 2), (22, 6)], 7, 120, [.str [], .str [], .str [], .str [], .int .i64 0, .slice 0 [] (some 5), .slice 0 [] (some 5)]⟩), (34, ⟨.strct [(28, 0), (22, 4)], 5, 88, [.str [], .str [], .int .i64 0, .slice 0 [] (some 5), .slice 0 [] (some 5)]⟩), (35, ⟨.int .i64, 1, 8, [.int .i64 0]⟩), (37, ⟨.strct [(35, 0), (3, 1)], 2, 16, [.int .i64 0, .int .i64 0]⟩), (39, ⟨.strct [(3, 0), (26, 1), (30, 7), (32, 16), (34, 23), (37, 28)], 30, 448, [.int .i64 0, .str [], .str [], .str [], .str [], .int .i64 0, .int .i64 0, .str [], .str [], .int .i64 0, .slice 0 [] (some 5), .slice 0 [] (some 5), .str [], .str [], .int .i64 0, .int .i64 0, .str [], .str [], .str [], .str [], .int .i64 0, .slice 0 [] (some 5), .slice 0 [] (some 5), .str [], .str [], .int .i64 0, .slice 0 [] (some 5), .slice 0 [] (some 5), .int .i64 0, .int .i64 0]⟩), (124, ⟨.ptr, 1, 8, [.ptr none]⟩), (126, ⟨.strct [(22, 0), (4, 1)], 2, 32, [.slice 0 [] (some 5), .bool false]⟩), (201, ⟨.slice 22, 1, 24, [.slice 0 [] (some 22)]⟩)]
theorem ttL_ok : ttOk prog ttL = true := by kernel_rfl
def imm153 : List Nat := []
def imm116 : List Nat := []
def imm70 : List Nat := []
def imm72 : List Nat := []
def imm73 : List Nat := []
def imm74 : List Nat := []
def imm57 : List Nat := []
def imm83 : List Nat := []
def imm115 : List Nat := []
def imm53 : List Nat := []
def imm114 : List Nat := []
def imm55 : List Nat := []
def imm54 : List Nat := []
def imm56 : List Nat := []
def imm71 : List Nat := [1]
def imm102 : List Nat := [1]
def imm69 : List Nat := []
def imm42 : List Nat := [1]
def imm12 : List Nat := []
theorem c153 (n : Nat) : Pure prog 153 [.int .i64 n] (slo (lenB n) (some 5)) := by
  intro H
  (refine callOk_of_pFun2 (tt := ttL) (imm := imm153) follows ttL_ok depth6 func153 (by kernel_rfl) ?_; (conv => whnf))
  refine ⟨fun h => ?_, fun h => ?_⟩
  · (conv => whnf)
    have h : (n : Int) < 128 := h
    have e : lenB n = [UInt8.ofNat n] := by unfold lenB; rw [if_pos (by omega)]
    rw [e]
    refine ⟨?_, rfl⟩
    show PV.slice 1 [PV.int .u8 (IntKind.u8.wrap (n : Int))] (some 5) = PV.slice 1 [PV.int .u8 ((UInt8.ofNat n).toNat : Int)] (some 5)
    rw [u8w]
  · (conv => whnf)
    have h : ¬ (n : Int) < 128 := h
    refine ⟨fun h2 => ?_, fun h2 => ?_⟩
    · (conv => whnf)
      have h2 : (n : Int) < 256 := h2
      have e : lenB n = [129, UInt8.ofNat n] := by unfold lenB; rw [if_neg (by omega), if_pos (by omega)]
      rw [e]
      refine ⟨?_, rfl⟩
      show PV.slice 2 [PV.int .u8 129, PV.int .u8 (IntKind.u8.wrap (n : Int))] (some 5) = PV.slice 2 [PV.int .u8 129, PV.int .u8 ((UInt8.ofNat n).toNat : Int)] (some 5)
      rw [u8w]
    · (conv => whnf)
      have h2 : ¬ (n : Int) < 256 := h2
      have e : lenB n = [130, UInt8.ofNat (n / 256), UInt8.ofNat n] := by unfold lenB; rw [if_neg (by omega), if_neg (by omega)]
      rw [e]
      refine ⟨by decide, ?_⟩
      (conv => whnf)
      refine ⟨?_, rfl⟩
      show PV.slice 3 [PV.int .u8 130, PV.int .u8 (IntKind.u8.wrap (ishr .i64 (n : Int) 8)), PV.int .u8 (IntKind.u8.wrap (n : Int))] (some 5) = PV.slice 3 [PV.int .u8 130, PV.int .u8 ((UInt8.ofNat (n / 256)).toNat : Int), PV.int .u8 ((UInt8.ofNat n).toNat : Int)] (some 5)
      rw [shr8, u8w, u8w]
theorem c116 (tag : UInt8) (p : List UInt8) (o : Option Nat) (hp : p.length ≤ 1099511627000) : Pure prog 116 [byteC tag, slo p o] (slo (wrapB tag p) (some 5)) := by
  intro H
  have hl := lenB_len p.length
  (refine callOk_of_pFun2 (tt := ttL) (imm := imm116) follows ttL_ok depth6 func116 (by kernel_rfl) ?_; (conv => whnf))
  refine callK_pure (c153 p.length) ?_
  (conv => whnf)
  refine ⟨⟨by show (1 + (lenB p.length).length) * 1 ≤ _; omega, by simp, allOne _⟩, ?_⟩
  (conv => whnf)
  refine ⟨⟨by show (1 + (lenB p.length).length + p.length) * 1 ≤ _; omega, by simp, allOne _⟩, ?_⟩
  (conv => whnf)
  refine ⟨?_, rfl⟩
  show PV.slice (1 + (lenB p.length).length + p.length) ([byteC tag] ++ (lenB p.length).map byteC ++ p.map byteC) (some 5) = PV.slice (wrapB tag p).length ((wrapB tag p).map byteC) (some 5)
  have e1 : (wrapB tag p).length = 1 + (lenB p.length).length + p.length := by unfold wrapB; rw [List.length_cons, List.length_append]; omega
  have e2 : (wrapB tag p).map byteC = [byteC tag] ++ (lenB p.length).map byteC ++ p.map byteC := by unfold wrapB; rw [List.map_cons, List.map_append]; rfl
  rw [e1, e2]
theorem c72 (p : List UInt8) (o : Option Nat) (hp : p.length ≤ 1099511627000) : Pure prog 72 [slo p o] (slo (wrapB 4 p) (some 5)) := by
  intro H
  (refine callOk_of_pFun2 (tt := ttL) (imm := imm72) follows ttL_ok depth6 func72 (by kernel_rfl) ?_; (conv => whnf))
  refine callK_pure (c116 4 p none hp) ?_
  (conv => whnf)
  exact ⟨rfl, rfl⟩
theorem c73 (p : List UInt8) (hp : p.length ≤ 1099511627000) : Pure prog 73 [.str p] (slo (wrapB 27 p) (some 5)) := by
  intro H
  (refine callOk_of_pFun2 (tt := ttL) (imm := imm73) follows ttL_ok depth6 func73 (by kernel_rfl) ?_; (conv => whnf))
  refine ⟨by omega, ?_⟩
  (conv => whnf)
  refine callK_pure (c116 27 p none hp) ?_
  (conv => whnf)
  exact ⟨rfl, rfl⟩
structure RwS where
  i : Nat
theorem flat_len (ls : List (List UInt8)) (i : Nat) : (ls.take i).flatten.length ≤ ls.flatten.length := by
  conv => rhs; rw [← List.take_append_drop i ls, List.flatten_append, List.length_append]
  omega
theorem c70 (tag : UInt8) (ls : List (List UInt8)) (hn : ls.length ≤ 1099511627776) (ht : ls.flatten.length ≤ 1099511627000) : Pure prog 70 [byteC tag, .slice ls.length (ls.map sl) none] (slo (wrapB tag ls.flatten) (some 5)) := by
  intro H
  (refine callOk_of_pFun2 (tt := ttL) (imm := imm70) follows ttL_ok depth6 func70 (by kernel_rfl) ?_; (conv => whnf))
  refine loopK_of RwS (fun x => [(0, byteC tag), (1, .slice ls.length (ls.map sl) none), (6, .int .i64 x.i), (5, slo (ls.take x.i).flatten (some 5))]) (fun _ => H) (fun x => x.i ≤ ls.length) (fun x => ls.length - x.i)
    ⟨⟨0⟩, Nat.zero_le _, ⟨rfl, rfl, rfl, rfl, trivial⟩, rfl⟩ ?_
  rintro ⟨i⟩ hi
  have hi : i ≤ ls.length := hi
  (conv => whnf)
  refine ⟨fun h => ?_, fun h => ?_⟩
  · (conv => whnf)
    have h : (i : Int) < (ls.length : Int) := h
    have hlt : i < ls.length := by omega
    have hat : (ls.map sl)[(i : Int).toNat * 1]? = some (sl ls[i]) := by
      rw [Int.toNat_natCast, Nat.mul_one, List.getElem?_map, List.getElem?_eq_getElem hlt]; rfl
    refine ⟨⟨by show (0 : Int) ≤ (i : Int); omega, h⟩, [sl ls[i]], at1 hat, ?_⟩
    (conv => whnf)
    have e1 := flat_take hlt
    have e2 := flat_len ls (i + 1)
    rw [e1, List.length_append] at e2
    refine ⟨⟨by show ((ls.take i).flatten.length + ls[i].length) * 1 ≤ _; omega, by simp, allOne _⟩, ?_⟩
    (conv => whnf)
    refine ⟨⟨i + 1⟩, hlt, ⟨rfl, rfl, ?_, ?_, trivial⟩, rfl, by show ls.length - (i + 1) < ls.length - i; omega⟩
    · show PV.int _ (IntKind.i64.wrap ((i : Int) + 1)) = PV.int _ ((i + 1 : Nat) : Int)
      rw [wrap64 (by omega) (by omega)]; rfl
    · show PV.slice ((ls.take i).flatten.length + ls[i].length) ((ls.take i).flatten.map byteC ++ ls[i].map byteC) (some 5) = slo (ls.take (i + 1)).flatten (some 5)
      rw [e1]; unfold slo; rw [List.length_append, List.map_append]
  · (conv => whnf)
    have h : ¬ (i : Int) < (ls.length : Int) := h
    have hi2 : i = ls.length := by omega
    subst hi2
    rw [List.take_length]
    refine callK_pure (c116 tag ls.flatten none ht) ?_
    (conv => whnf)
    exact ⟨rfl, rfl⟩
end Go.Proofs.Tryz

set_option maxRecDepth 100000
set_option maxHeartbeats 4000000
set_option linter.unusedVariables false
set_option linter.unusedSimpArgs false
namespace Go.Proofs.Tryz
open Go Ps
/-- A number's digits, the highest first; of nothing one. -/
def digB (n : Nat) : List UInt8 := if n = 0 then [0] else (le 9 n).reverse
theorem digB_len (n : Nat) : (digB n).length ≤ 9 := by
  unfold digB
  split
  · decide
  · rw [List.length_reverse]; exact le_len 9 n
theorem digB_intB (n : Nat) (x : UInt8) (t : List UInt8) (h : digB n = x :: t) : intB n = if 128 ≤ x.toNat then 0 :: x :: t else x :: t := by
  unfold digB at h
  unfold intB padB
  split at h
  · rename_i e
    subst e
    cases h
    rw [le_zero, if_pos (.inl rfl), if_neg (by decide)]; rfl
  · have hl : le 9 n = (x :: t).reverse := by rw [← h, List.reverse_reverse]
    have hg : ((x :: t).reverse.getLast?.getD 0) = x := by simp
    rw [hl, hg]
    by_cases hc : 128 ≤ x.toNat
    · rw [if_pos (.inr hc), if_pos hc, List.reverse_append, List.reverse_reverse]; rfl
    · rw [if_neg (fun hh => by rcases hh with hh | hh; · simp at hh
                               · exact hc hh), if_neg hc, List.reverse_reverse]
theorem digB_ne (n : Nat) (hn : n ≤ 4611686018427387904) : digB n ≠ [] := by
  unfold digB
  split
  · simp
  · rename_i h0
    intro e
    have e : le 9 n = [] := by rw [← List.reverse_reverse (le 9 n), e]; rfl
    exact h0 (le_nil 9 n (by omega) e)
structure RiS where
  m : Nat
  p : List UInt8
theorem c74 (n : Int) : Pure prog 74 [.int .i64 n] (slo (intE n) (some 5)) := by
  intro H
  (refine callOk_of_pFun2 (tt := ttL) (imm := imm74) follows ttL_ok depth6 func74 (by kernel_rfl) ?_; (conv => whnf))
  have hN : min (max n 0) 4611686018427387904 = (clampI n : Int) := by unfold clampI; omega
  have hN2 : clampI n ≤ 4611686018427387904 := by unfold clampI; omega
  refine ⟨by decide, ?_⟩
  (conv => whnf)
  have hbw : ∀ m : Nat, PV.int .u8 (IntKind.u8.wrap (m : Int)) = byteC (UInt8.ofNat m) := fun m => congrArg (PV.int .u8) (u8w m)
  refine loopK_of RiS (fun x => [(0, .int .i64 x.m), (3, slo x.p (some 5))]) (fun _ => H)
    (fun x => ∃ f, (le f x.m).reverse ++ x.p = digB (clampI n) ∧ x.m < 256 ^ f ∧ x.m ≤ 4611686018427387904) (fun x => x.m)
    ⟨⟨clampI n / 256, [UInt8.ofNat (clampI n)]⟩, ⟨8, ?_, by show clampI n / 256 < 256 ^ 8; omega, by show clampI n / 256 ≤ _; omega⟩, ⟨?_, ?_, trivial⟩, rfl⟩ ?_
  · show (le 8 (clampI n / 256)).reverse ++ [UInt8.ofNat (clampI n)] = _
    unfold digB
    split
    · rename_i e
      rw [e]; rfl
    · rename_i e
      have hle : le (8 + 1) (clampI n) = UInt8.ofNat (clampI n) :: le 8 (clampI n / 256) := by
        conv => lhs; unfold le
        rw [if_neg e]
      show _ = (le (8 + 1) (clampI n)).reverse
      rw [hle, List.reverse_cons]
  · show PV.int .i64 (ishr .i64 (min (max n 0) 4611686018427387904) 8) = PV.int .i64 ((clampI n / 256 : Nat) : Int)
    rw [hN, shr8]
  · show PV.slice 1 [PV.int .u8 (IntKind.u8.wrap (min (max n 0) 4611686018427387904))] (some 5) = slo [UInt8.ofNat (clampI n)] (some 5)
    rw [hN, hbw]; rfl
  rintro ⟨m, p⟩ ⟨f, g1, g2, g3⟩
  have g1 : (le f m).reverse ++ p = digB (clampI n) := g1
  have g2 : m < 256 ^ f := g2
  have g3 : m ≤ 4611686018427387904 := g3
  have hp9 : p.length ≤ 9 := by
    have := digB_len (clampI n)
    rw [← g1, List.length_append] at this
    omega
  (conv => whnf)
  refine ⟨fun h => ?_, fun h => ?_⟩
  · (conv => whnf)
    have h : (m : Int) > 0 := h
    have hf : ∃ f', f = f' + 1 := by
      cases f with
      | zero => simp at g2; omega
      | succ f => exact ⟨f, rfl⟩
    obtain ⟨f, rfl⟩ := hf
    have hle : le (f + 1) m = UInt8.ofNat m :: le f (m / 256) := by
      conv => lhs; unfold le
      rw [if_neg (by omega)]
    refine ⟨⟨by show (1 + p.length) * 1 ≤ _; omega, by simp, allOne _⟩, ?_⟩
    (conv => whnf)
    refine ⟨by decide, ?_⟩
    (conv => whnf)
    refine ⟨⟨m / 256, UInt8.ofNat m :: p⟩, ⟨f, ?_, ?_, by show m / 256 ≤ _; omega⟩, ⟨?_, ?_, trivial⟩, rfl, by show m / 256 < m; omega⟩
    · show (le f (m / 256)).reverse ++ (UInt8.ofNat m :: p) = _
      rw [← g1, hle, List.reverse_cons, List.append_assoc]; rfl
    · show m / 256 < 256 ^ f
      rw [Nat.div_lt_iff_lt_mul (by omega), ← Nat.pow_succ]; exact g2
    · show PV.int .i64 (ishr .i64 (m : Int) 8) = PV.int .i64 ((m / 256 : Nat) : Int)
      rw [shr8]
    · show PV.slice (1 + p.length) ([PV.int .u8 (IntKind.u8.wrap (m : Int))] ++ p.map byteC) (some 5) = PV.slice (p.length + 1) (byteC (UInt8.ofNat m) :: p.map byteC) (some 5)
      rw [hbw, Nat.add_comm]; rfl
  · (conv => whnf)
    have h : ¬ (m : Int) > 0 := h
    have hm : m = 0 := by omega
    subst hm
    rw [le_zero] at g1
    have g1 : p = digB (clampI n) := g1
    have hne := digB_ne (clampI n) hN2
    rw [← g1] at hne
    have hib := digB_intB (clampI n)
    cases p with
    | nil => exact absurd rfl hne
    | cons x t =>
      have hib := hib x t g1.symm
      refine ⟨⟨by decide, by first | (simp; done) | (simp; omega)⟩, [byteC x], sl_get0 x t, ?_⟩
      (conv => whnf)
      refine ⟨fun h => ?_, fun h => ?_⟩
      · (conv => whnf)
        have h : (128 : Int) ≤ (x.toNat : Int) := h
        rw [if_pos (by omega)] at hib
        have hp9 : t.length + 1 ≤ 9 := hp9
        refine ⟨⟨by show (1 + (t.length + 1)) * 1 ≤ _; omega, by simp, allOne (x :: t)⟩, ?_⟩
        (conv => whnf)
        have hE : slo (0 :: x :: t) (some 5) = PV.slice (1 + (x :: t).length) ([PV.int .u8 0] ++ (x :: t).map byteC) (some 5) := by
          unfold slo
          rw [Nat.add_comm]; rfl
        refine callK_args (args' := [byteC 2, slo (0 :: x :: t) none]) (congrArg (fun n => [byteC 2, PV.slice n ([PV.int .u8 0] ++ (x :: t).map byteC) none]) (Nat.add_comm 1 _)) (callK_pure (c116 2 (0 :: x :: t) none (by simp; omega)) ?_)
        (conv => whnf)
        refine ⟨?_, rfl⟩
        unfold intE
        rw [hib]; rfl
      · (conv => whnf)
        have h : ¬ (128 : Int) ≤ (x.toNat : Int) := h
        rw [if_neg (by omega)] at hib
        have hp9 : t.length + 1 ≤ 9 := hp9
        refine callK_pure (c116 2 (x :: t) none (by simp; omega)) ?_
        (conv => whnf)
        refine ⟨?_, rfl⟩
        unfold intE
        rw [hib]; rfl
end Go.Proofs.Tryz

set_option maxRecDepth 100000
set_option maxHeartbeats 4000000
set_option linter.unusedVariables false
set_option linter.unusedSimpArgs false
namespace Go.Proofs.Tryz
open Go Ps
theorem or8 (a b : Nat) (ha : a < 36028797018963968) (hb : b < 256) : ibits .or .i64 ((a * 256 : Nat) : Int) (b : Int) = ((a * 256 + b : Nat) : Int) := by
  show IntKind.i64.wrap ((BitVec.ofInt 64 ((a * 256 : Nat) : Int) ||| BitVec.ofInt 64 (b : Int)).toNat : Int) = _
  have e1 : (BitVec.ofInt 64 ((a * 256 : Nat) : Int)).toNat = a * 256 := by rw [BitVec.toNat_ofInt]; omega
  have e2 : (BitVec.ofInt 64 (b : Int)).toNat = b := by rw [BitVec.toNat_ofInt]; omega
  have e3 := Nat.two_pow_add_eq_or_of_lt (i := 8) (show b < 2 ^ 8 by omega) a
  have e4 : 2 ^ 8 * a = a * 256 := by rw [Nat.mul_comm]
  rw [e4] at e3
  rw [BitVec.toNat_or, e1, e2, ← e3, wrap64 (by omega) (by omega)]
def rcur (H : PH) (c : Nat) (s : Option (List UInt8)) : Prop := ∃ b v, H[c]? = some ⟨126, [sl b, .bool s.isNone], v⟩ ∧ ∀ l, s = some l → b = l
theorem rcur.lt {H : PH} {c : Nat} {s : Option (List UInt8)} (h : rcur H c s) : c < H.length := by
  obtain ⟨b, v, h, _⟩ := h
  exact (List.getElem?_eq_some_iff.1 h).1
theorem rcur.keep {X : Nat → Prop} {H H' : PH} {c : Nat} {s : Option (List UInt8)} (h : rcur H c s) (k : Upd X H H') (hc : ¬ X c) : rcur H' c s := by
  have hl := h.lt
  obtain ⟨b, v, h, h2⟩ := h
  exact ⟨b, v, (k.2 c hl hc).trans h, h2⟩
theorem rcur.set_ne {H : PH} {c j : Nat} {s : Option (List UInt8)} (h : rcur H c s) (hj : j ≠ c) (x : PObj) : rcur (H.set j x) c s := by
  obtain ⟨b, v, h1, h2⟩ := h
  exact ⟨b, v, by rw [List.getElem?_set_ne hj]; exact h1, h2⟩
theorem head_lt (y : UInt8) (r : List UInt8) (h : y.toNat < 128) : headB (y :: r) = (1, y.toNat, true) := by
  match r with
  | [] => rw [head_1, if_pos h]
  | [z] => rw [head_2, if_pos h]
  | z :: w :: u => rw [head_3, if_pos h]
theorem head_81 (y z : UInt8) (r : List UInt8) (h : y.toNat = 129) : headB (y :: z :: r) = if 128 ≤ z.toNat then (2, z.toNat, true) else (0, 0, false) := by
  match r with
  | [] =>
    rw [head_2, if_neg (by omega)]
    by_cases h2 : 128 ≤ z.toNat
    · rw [if_pos ⟨h, h2⟩, if_pos h2]
    · rw [if_neg (fun hh => h2 hh.2), if_neg h2]
  | w :: u =>
    rw [head_3, if_neg (by omega)]
    by_cases h2 : 128 ≤ z.toNat
    · rw [if_pos ⟨h, h2⟩, if_pos h2]
    · rw [if_neg (fun hh => h2 hh.2), if_neg h2, if_neg (fun hh => by omega)]
theorem head_82 (y z w : UInt8) (r : List UInt8) (h : y.toNat = 130) : headB (y :: z :: w :: r) = if 0 < z.toNat then (3, z.toNat * 256 + w.toNat, true) else (0, 0, false) := by
  rw [head_3, if_neg (by omega), if_neg (fun hh => by omega)]
  by_cases h2 : 0 < z.toNat
  · rw [if_pos ⟨h, h2⟩, if_pos h2]
  · rw [if_neg (fun hh => h2 hh.2), if_neg h2]
theorem head_bad (y : UInt8) (r : List UInt8) (h : 128 ≤ y.toNat) (h1 : ¬ (y.toNat = 129 ∧ r ≠ [])) (h2 : ¬ (y.toNat = 130 ∧ 2 ≤ r.length)) : (headB (y :: r)).2.2 = false := by
  match r with
  | [] => rw [head_1, if_neg (by omega)]
  | [z] => rw [head_2, if_neg (by omega), if_neg (fun hh => h1 ⟨hh.1, by simp⟩)]
  | z :: w :: u => rw [head_3, if_neg (by omega), if_neg (fun hh => h1 ⟨hh.1, by simp⟩), if_neg (fun hh => h2 ⟨hh.1, by simp⟩)]
theorem elemC_ne {t tag : UInt8} {b : List UInt8} (h : ¬ t = tag) : elemC tag (some (t :: b)) = (none, none) := by
  refine elemC_bad ?_
  show (if t = tag then _ else none) = none
  rw [if_neg h]
theorem elemC_hd {t : UInt8} {b : List UInt8} {h1 n : Nat} {ok : Bool} (h : headB b = (h1, n, ok)) (hb : ¬ (ok = true ∧ h1 + n ≤ b.length)) : elemC t (some (t :: b)) = (none, none) := by
  refine elemC_bad ?_
  show (if t = t then (if (headB b).2.2 = true ∧ (headB b).1 + (headB b).2.1 ≤ b.length then some ((b.drop (headB b).1).take (headB b).2.1, b.drop ((headB b).1 + (headB b).2.1)) else none) else none) = none
  rw [if_pos rfl, h]
  exact if_neg hb
theorem elemC_hy {t : UInt8} {b : List UInt8} {h1 n : Nat} (h : headB b = (h1, n, true)) (hb : h1 + n ≤ b.length) : elemC t (some (t :: b)) = (some (b.drop (h1 + n)), some ((b.drop h1).take n)) := by
  show (match elemB t (t :: b) with | none => (none, none) | some (x, r) => (some r, some x)) = _
  have e : elemB t (t :: b) = some ((b.drop h1).take n, b.drop (h1 + n)) := by
    show (if t = t then (if (headB b).2.2 = true ∧ (headB b).1 + (headB b).2.1 ≤ b.length then some ((b.drop (headB b).1).take (headB b).2.1, b.drop ((headB b).1 + (headB b).2.1)) else none) else none) = _
    rw [if_pos rfl, h]
    exact if_pos ⟨rfl, hb⟩
  rw [e]
theorem elemC_f {t : UInt8} {b : List UInt8} (h : (headB b).2.2 = false) : elemC t (some (t :: b)) = (none, none) := by
  refine elemC_bad ?_
  show (if t = t then (if (headB b).2.2 = true ∧ (headB b).1 + (headB b).2.1 ≤ b.length then some ((b.drop (headB b).1).take (headB b).2.1, b.drop ((headB b).1 + (headB b).2.1)) else none) else none) = none
  rw [if_pos rfl]
  exact if_neg (fun hh => by rw [h] at hh; cases hh.1)
theorem lenB_1 {n : Nat} (h : n < 128) : (lenB n).length = 1 := by unfold lenB; rw [if_pos h]; rfl
theorem lenB_2 {n : Nat} (h : 128 ≤ n) (h2 : n < 256) : (lenB n).length = 2 := by unfold lenB; rw [if_neg (by omega), if_pos (by omega)]; rfl
theorem lenB_3 {n : Nat} (h : 256 ≤ n) : (lenB n).length = 3 := by unfold lenB; rw [if_neg (by omega), if_neg (by omega)]; rfl
theorem c114 (c : Nat) (tag : UInt8) (s : Option (List UInt8)) (H : PH) (hc : rcur H c s) (hl : ∀ l, s = some l → l.length ≤ 140737488355328) :
    CallOk prog 114 [.ptr (some (c, 0)), byteC tag] H fun r H' => (∃ o, r = slo ((elemC tag s).2.getD []) o) ∧ Upd (· = c) H H' ∧ rcur H' c (elemC tag s).1 := by
  obtain ⟨b, v, hc0, hx⟩ := id hc
  (refine callOk_of_pFun2 (tt := ttL) (imm := imm114) follows ttL_ok depth6 func114 (by kernel_rfl) ?_; (conv => whnf))
  ((conv in (_[_]?) => tactic => exact hc0); (conv => whnf))
  have fin : ∀ (q : Option (List UInt8) × Option (List UInt8)), q = (none, none) → ∀ o', (∃ o, PV.slice 0 [] o' = slo (q.2.getD []) o) ∧ Upd (· = c) H (H.set c ⟨126, [sl b, .bool true], v + 1⟩) ∧ rcur (H.set c ⟨126, [sl b, .bool true], v + 1⟩) c q.1 := fun q hq o' => by
    subst hq
    exact ⟨⟨o', rfl⟩, ((Upd.refl H).set (X := (· = c)) (.inl rfl) _), b, v + 1, get_set hc0, fun l h => by cases h⟩
  cases s with
  | none =>
    ((conv in (_[_]?) => tactic => exact hc0); (conv => whnf))
    ((conv in (_[_]?) => tactic => exact hc0); (conv => whnf))
    exact fin _ rfl _
  | some l =>
    have hb := hx l rfl
    subst hb
    have hll := hl b rfl
    ((conv in (_[_]?) => tactic => exact hc0); (conv => whnf))
    match b, hc0, hll with
    | [], hc0, _ =>
      refine ⟨fun _ => ?_, fun h => absurd (by decide) h⟩
      (conv => whnf)
      ((conv in (_[_]?) => tactic => exact hc0); (conv => whnf))
      exact fin _ rfl _
    | [t], hc0, _ =>
      refine ⟨fun _ => ?_, fun h => absurd (by show ((1 : Nat) : Int) < 2; decide) h⟩
      (conv => whnf)
      ((conv in (_[_]?) => tactic => exact hc0); (conv => whnf))
      refine fin _ ?_ _
      by_cases h : t = tag
      · subst h; exact elemC_hd (h1 := 0) (n := 0) (ok := false) rfl (fun hh => by cases hh.1)
      · exact elemC_ne h
    | t :: y :: r, hc0, hll =>
      have hll : r.length + 2 ≤ 140737488355328 := hll
      refine ⟨fun h => absurd h (by simp; omega), fun _ => ?_⟩
      (conv => whnf)
      have i0 : (0 : Int) ≤ 0 ∧ (0 : Int) < (((t :: y :: r).length : Nat) : Int) := ⟨by decide, by simp; omega⟩
      have i1 : (0 : Int) ≤ 1 ∧ (1 : Int) < (((t :: y :: r).length : Nat) : Int) := ⟨by decide, by simp; omega⟩
      refine ⟨i0, [byteC t], at1 (k := 0 * 1) rfl, ?_⟩
      (conv => whnf)
      refine ⟨fun ht => ?_, fun ht => ?_⟩
      rotate_left
      · have ht : ¬ t = tag := fun e => ht (show (t.toNat : Int) = (tag.toNat : Int) by rw [e])
        (conv => whnf)
        ((conv in (_[_]?) => tactic => exact hc0); (conv => whnf))
        exact fin _ (elemC_ne ht) _
      have ht : t = tag := by
        have ht : (t.toNat : Int) = (tag.toNat : Int) := ht
        exact UInt8.toNat_inj.1 (by omega)
      subst ht
      (conv => whnf)
      refine ⟨i1, [byteC y], at1 (k := 1 * 1) rfl, ?_⟩
      (conv => whnf)
      refine ⟨i1, [byteC y], at1 (k := 1 * 1) rfl, ?_⟩
      (conv => whnf)
      refine ⟨fun h6 => ?_, fun h6 => ?_⟩
      · have h6 : (y.toNat : Int) = 129 := h6
        (conv => whnf)
        match r, hc0, hll, i0, i1 with
        | [], hc0, hll, i0, i1 =>
          refine ⟨fun h => absurd h (by show ¬ ((2 : Nat) : Int) ≥ 3; decide), fun _ => ?_⟩
          (conv => whnf)
          refine ⟨i1, [byteC y], at1 (k := 1 * 1) rfl, ?_⟩
          (conv => whnf)
          refine ⟨fun h => absurd (show (y.toNat : Int) = 130 from h) (by omega), fun _ => ?_⟩
          (conv => whnf)
          refine ⟨i1, [byteC y], at1 (k := 1 * 1) rfl, ?_⟩
          (conv => whnf)
          refine ⟨fun _ => ?_, fun h => absurd (show (128 : Int) ≤ (y.toNat : Int) by omega) h⟩
          (conv => whnf)
          ((conv in (_[_]?) => tactic => exact hc0); (conv => whnf))
          exact fin _ (elemC_f (head_bad y [] (by omega) (fun hh => hh.2 rfl) (fun hh => by omega))) _
        | z :: r, hc0, hll, i0, i1 =>
          have i2 : (0 : Int) ≤ 2 ∧ (2 : Int) < (((t :: y :: z :: r).length : Nat) : Int) := ⟨by decide, by simp; omega⟩
          have hll : r.length + 1 + 2 ≤ 140737488355328 := hll
          refine ⟨fun _ => ?_, fun h => absurd (show (((t :: y :: z :: r).length : Nat) : Int) ≥ 3 by simp; omega) h⟩
          (conv => whnf)
          refine ⟨i2, [byteC z], at1 (k := 2 * 1) rfl, ?_⟩
          (conv => whnf)
          have hz := z.toNat_lt
          rw [show IntKind.i64.wrap (z.toNat : Int) = (z.toNat : Int) from wrapB1 z]
          have hd0 := head_81 y z r (by omega)
          have hL : (((t :: y :: z :: r).length : Nat) : Int) = (((y :: z :: r).length + 1 : Nat) : Int) := rfl
          have hl2 : 2 ≤ (y :: z :: r).length := by simp <;> omega
          have hl3 : (y :: z :: r).length ≤ 140737488355327 := by simp <;> omega
          have hnw : IntKind.i64.wrap ((((t :: y :: z :: r).length : Nat) : Int) - 3) = (((t :: y :: z :: r).length : Nat) : Int) - 3 := by rw [wrap64 (by omega) (by omega)]
          have hn : z.toNat ≤ 65535 := by omega
          refine ⟨fun hg => ?_, fun hg => ?_⟩
          · have hg : ((z.toNat : Nat) : Int) > IntKind.i64.wrap ((((t :: y :: z :: r).length : Nat) : Int) - 3) := hg
            rw [hnw, hL] at hg
            (conv => whnf)
            ((conv in (_[_]?) => tactic => exact hc0); (conv => whnf))
            by_cases hz8 : 128 ≤ z.toNat
            · exact fin _ (elemC_hd (hd0.trans (if_pos hz8)) (fun hh => by have := hh.2; omega)) _
            · exact fin _ (elemC_f (by rw [hd0, if_neg hz8])) _
          have hg : ¬ ((z.toNat : Nat) : Int) > IntKind.i64.wrap ((((t :: y :: z :: r).length : Nat) : Int) - 3) := hg
          rw [hnw, hL] at hg
          (conv => whnf)
          refine callK_pure (c153 (z.toNat)) ?_
          (conv => whnf)
          have ew : IntKind.i64.wrap (3 - 1) = 2 := by decide
          refine ⟨fun hs => ?_, fun hs => ?_⟩
          rotate_left
          · have hs : ¬ (((lenB (z.toNat)).length : Nat) : Int) = IntKind.i64.wrap (3 - 1) := hs
            rw [ew] at hs
            (conv => whnf)
            ((conv in (_[_]?) => tactic => exact hc0); (conv => whnf))
            have hz8 : ¬ 128 ≤ z.toNat := fun h8 => hs (by rw [lenB_2 h8 hz]; rfl)
            exact fin _ (elemC_f (by rw [hd0, if_neg hz8])) _
          have hs : (((lenB (z.toNat)).length : Nat) : Int) = IntKind.i64.wrap (3 - 1) := hs
          rw [ew] at hs
          have hz8 : 128 ≤ z.toNat := Nat.le_of_not_lt fun h8 => by rw [lenB_1 h8] at hs; exact absurd hs (by decide)
          (conv => whnf)
          have haw : IntKind.i64.wrap (3 + ((z.toNat : Nat) : Int)) = ((3 + (z.toNat) : Nat) : Int) := by rw [wrap64 (by omega) (by omega)]; omega
          have hfit : 2 + (z.toNat) ≤ (y :: z :: r).length := by omega
          refine ⟨⟨by show (0 : Int) ≤ IntKind.i64.wrap (3 + ((z.toNat : Nat) : Int)); rw [haw]; omega, by show IntKind.i64.wrap (3 + ((z.toNat : Nat) : Int)) ≤ (((t :: y :: z :: r).length : Nat) : Int); rw [haw]; omega, by show (((t :: y :: z :: r).length : Nat) : Int) ≤ (((t :: y :: z :: r).length : Nat) : Int); omega⟩, ?_⟩
          (conv => whnf)
          ((conv in (_[_]?) => tactic => exact hc0); (conv => whnf))
          refine ⟨⟨by decide, by show (3 : Int) ≤ IntKind.i64.wrap (3 + ((z.toNat : Nat) : Int)); rw [haw]; omega, by show IntKind.i64.wrap (3 + ((z.toNat : Nat) : Int)) ≤ (((t :: y :: z :: r).length : Nat) : Int); rw [haw]; omega⟩, ?_⟩
          (conv => whnf)
          have e1 := sl_cut (t :: y :: z :: r) 3 (IntKind.i64.wrap (3 + ((z.toNat : Nat) : Int))) ⟨by decide, by rw [haw]; omega, by rw [haw]; omega⟩
          have e2 := sl_cut (t :: y :: z :: r) (IntKind.i64.wrap (3 + ((z.toNat : Nat) : Int))) (((t :: y :: z :: r).length : Nat) : Int) ⟨by rw [haw]; omega, by rw [haw]; omega, by omega⟩
          have f1 : ((t :: y :: z :: r).take (IntKind.i64.wrap (3 + ((z.toNat : Nat) : Int))).toNat).drop (3 : Int).toNat = ((y :: z :: r).drop 2).take (z.toNat) := by
            rw [haw, Int.toNat_natCast, List.drop_take]
            show ((t :: y :: z :: r).drop 3).take (3 + (z.toNat) - 3) = _
            rw [show 3 + (z.toNat) - 3 = z.toNat by omega]; rfl
          have f2 : ((t :: y :: z :: r).take (((t :: y :: z :: r).length : Nat) : Int).toNat).drop (IntKind.i64.wrap (3 + ((z.toNat : Nat) : Int))).toNat = (y :: z :: r).drop (2 + (z.toNat)) := by
            rw [haw, Int.toNat_natCast, Int.toNat_natCast, List.take_length, show 3 + (z.toNat) = (2 + (z.toNat)) + 1 by omega]; rfl
          have hel := elemC_hy (t := t) (hd0.trans (if_pos hz8)) hfit
          rw [hel]
          exact ⟨⟨none, e1.trans (by rw [f1]; rfl)⟩, ((Upd.refl H).set (X := (· = c)) (.inl rfl) _), _, v + 1, (get_set hc0).trans (congrArg (fun x => some (PObj.mk 126 [x, .bool false] (v + 1))) (e2.trans (by rw [f2]))), fun l h => Option.some.inj h⟩
      have h6 : ¬ (y.toNat : Int) = 129 := h6
      (conv => whnf)
      refine ⟨i1, [byteC y], at1 (k := 1 * 1) rfl, ?_⟩
      (conv => whnf)
      refine ⟨fun h8 => ?_, fun h8 => ?_⟩
      · have h8 : (y.toNat : Int) = 130 := h8
        (conv => whnf)
        match r, hc0, hll, i0, i1 with
        | [], hc0, hll, i0, i1 =>
          refine ⟨fun h => absurd h (by show ¬ ((2 : Nat) : Int) ≥ 4; decide), fun _ => ?_⟩
          (conv => whnf)
          refine ⟨i1, [byteC y], at1 (k := 1 * 1) rfl, ?_⟩
          (conv => whnf)
          refine ⟨fun _ => ?_, fun h => absurd (show (128 : Int) ≤ (y.toNat : Int) by omega) h⟩
          (conv => whnf)
          ((conv in (_[_]?) => tactic => exact hc0); (conv => whnf))
          exact fin _ (elemC_f (head_bad y [] (by omega) (fun hh => by omega) (fun hh => absurd hh.2 (by decide)))) _
        | [z], hc0, hll, i0, i1 =>
          refine ⟨fun h => absurd h (by show ¬ ((3 : Nat) : Int) ≥ 4; decide), fun _ => ?_⟩
          (conv => whnf)
          refine ⟨i1, [byteC y], at1 (k := 1 * 1) rfl, ?_⟩
          (conv => whnf)
          refine ⟨fun _ => ?_, fun h => absurd (show (128 : Int) ≤ (y.toNat : Int) by omega) h⟩
          (conv => whnf)
          ((conv in (_[_]?) => tactic => exact hc0); (conv => whnf))
          exact fin _ (elemC_f (head_bad y [z] (by omega) (fun hh => by omega) (fun hh => absurd hh.2 (by show ¬ 2 ≤ 1; decide)))) _
        | z :: w :: r, hc0, hll, i0, i1 =>
          have i2 : (0 : Int) ≤ 2 ∧ (2 : Int) < (((t :: y :: z :: w :: r).length : Nat) : Int) := ⟨by decide, by simp; omega⟩
          have i3 : (0 : Int) ≤ 3 ∧ (3 : Int) < (((t :: y :: z :: w :: r).length : Nat) : Int) := ⟨by decide, by simp; omega⟩
          have hll : r.length + 1 + 1 + 2 ≤ 140737488355328 := hll
          have hz := z.toNat_lt
          have hw := w.toNat_lt
          refine ⟨fun _ => ?_, fun h => absurd (show (((t :: y :: z :: w :: r).length : Nat) : Int) ≥ 4 by simp; omega) h⟩
          (conv => whnf)
          refine drawK_pure2 (by kernel_rfl) ?_
          (conv => whnf)
          (apply Exists.intro; apply And.intro; (focus ((conv => whnf); first | exact ⟨rfl, rfl, trivial⟩ | (refine ⟨by omega, ?_⟩; (conv => whnf); exact ⟨rfl, rfl, trivial⟩))); (conv => whnf))
          refine ⟨.elem [byteC z], ⟨i2, [byteC z], at1 (k := 2 * 1) rfl, rfl, rfl, trivial⟩, ?_⟩
          (conv => whnf)
          (apply Exists.intro; apply And.intro; (focus ((conv => whnf); first | exact ⟨rfl, rfl, trivial⟩ | (refine ⟨by omega, ?_⟩; (conv => whnf); exact ⟨rfl, rfl, trivial⟩))); (conv => whnf))
          (apply Exists.intro; apply And.intro; (focus ((conv => whnf); first | exact ⟨rfl, rfl, trivial⟩ | (refine ⟨by omega, ?_⟩; (conv => whnf); exact ⟨rfl, rfl, trivial⟩))); (conv => whnf))
          refine ⟨_, ⟨by decide, rfl, rfl, trivial⟩, ?_⟩
          (conv => whnf)
          (apply Exists.intro; apply And.intro; (focus ((conv => whnf); first | exact ⟨rfl, rfl, trivial⟩ | (refine ⟨by omega, ?_⟩; (conv => whnf); exact ⟨rfl, rfl, trivial⟩))); (conv => whnf))
          refine ⟨.elem [byteC w], ⟨i3, [byteC w], at1 (k := 3 * 1) rfl, rfl, rfl, trivial⟩, ?_⟩
          (conv => whnf)
          (apply Exists.intro; apply And.intro; (focus ((conv => whnf); first | exact ⟨rfl, rfl, trivial⟩ | (refine ⟨by omega, ?_⟩; (conv => whnf); exact ⟨rfl, rfl, trivial⟩))); (conv => whnf))
          (apply Exists.intro; apply And.intro; (focus ((conv => whnf); first | exact ⟨rfl, rfl, trivial⟩ | (refine ⟨by omega, ?_⟩; (conv => whnf); exact ⟨rfl, rfl, trivial⟩))); (conv => whnf))
          (apply Exists.intro; apply And.intro; (focus ((conv => whnf); first | exact ⟨rfl, rfl, trivial⟩ | (refine ⟨by omega, ?_⟩; (conv => whnf); exact ⟨rfl, rfl, trivial⟩))); (conv => whnf))
          (apply Exists.intro; apply And.intro; (focus ((conv => whnf); first | exact ⟨rfl, rfl, trivial⟩ | (refine ⟨by omega, ?_⟩; (conv => whnf); exact ⟨rfl, rfl, trivial⟩))); (conv => whnf))
          (apply Exists.intro; apply And.intro; (focus ((conv => whnf); first | exact ⟨rfl, rfl, trivial⟩ | (refine ⟨by omega, ?_⟩; (conv => whnf); exact ⟨rfl, rfl, trivial⟩))); (conv => whnf))
          have hor : ibits .or .i64 (ishl .i64 (IntKind.i64.wrap (z.toNat : Int)) 8) (IntKind.i64.wrap (w.toNat : Int)) = (((z.toNat * 256 + w.toNat) : Nat) : Int) := by
            rw [ishl8, wrapB1, wrapB1, wrap64 (by omega) (by omega)]
            exact or8 z.toNat w.toNat (by omega) hw
          rw [hor]
          have hd0 := head_82 y z w r (by omega)
          have hL : (((t :: y :: z :: w :: r).length : Nat) : Int) = (((y :: z :: w :: r).length + 1 : Nat) : Int) := rfl
          have hl2 : 3 ≤ (y :: z :: w :: r).length := by simp <;> omega
          have hl3 : (y :: z :: w :: r).length ≤ 140737488355327 := by simp <;> omega
          have hnw : IntKind.i64.wrap ((((t :: y :: z :: w :: r).length : Nat) : Int) - 4) = (((t :: y :: z :: w :: r).length : Nat) : Int) - 4 := by rw [wrap64 (by omega) (by omega)]
          have hn : (z.toNat * 256 + w.toNat) ≤ 65535 := by omega
          refine ⟨fun hg => ?_, fun hg => ?_⟩
          · have hg : (((z.toNat * 256 + w.toNat) : Nat) : Int) > IntKind.i64.wrap ((((t :: y :: z :: w :: r).length : Nat) : Int) - 4) := hg
            rw [hnw, hL] at hg
            (conv => whnf)
            ((conv in (_[_]?) => tactic => exact hc0); (conv => whnf))
            by_cases hz8 : 0 < z.toNat
            · exact fin _ (elemC_hd (hd0.trans (if_pos hz8)) (fun hh => by have := hh.2; omega)) _
            · exact fin _ (elemC_f (by rw [hd0, if_neg hz8])) _
          have hg : ¬ (((z.toNat * 256 + w.toNat) : Nat) : Int) > IntKind.i64.wrap ((((t :: y :: z :: w :: r).length : Nat) : Int) - 4) := hg
          rw [hnw, hL] at hg
          (conv => whnf)
          refine callK_pure (c153 ((z.toNat * 256 + w.toNat))) ?_
          (conv => whnf)
          have ew : IntKind.i64.wrap (4 - 1) = 3 := by decide
          refine ⟨fun hs => ?_, fun hs => ?_⟩
          rotate_left
          · have hs : ¬ (((lenB ((z.toNat * 256 + w.toNat))).length : Nat) : Int) = IntKind.i64.wrap (4 - 1) := hs
            rw [ew] at hs
            (conv => whnf)
            ((conv in (_[_]?) => tactic => exact hc0); (conv => whnf))
            have hz8 : ¬ 0 < z.toNat := fun h8 => hs (by rw [lenB_3 (by omega)]; rfl)
            exact fin _ (elemC_f (by rw [hd0, if_neg hz8])) _
          have hs : (((lenB ((z.toNat * 256 + w.toNat))).length : Nat) : Int) = IntKind.i64.wrap (4 - 1) := hs
          rw [ew] at hs
          have hz8 : 0 < z.toNat := Nat.pos_of_ne_zero fun h0 => by
            have h9 : (lenB (z.toNat * 256 + w.toNat)).length ≤ 2 := by
              by_cases h7 : w.toNat < 128
              · rw [lenB_1 (by omega)]; decide
              · rw [lenB_2 (by omega) (by omega)]; decide
            omega
          (conv => whnf)
          have haw : IntKind.i64.wrap (4 + (((z.toNat * 256 + w.toNat) : Nat) : Int)) = ((4 + ((z.toNat * 256 + w.toNat)) : Nat) : Int) := by rw [wrap64 (by omega) (by omega)]; omega
          have hfit : 3 + ((z.toNat * 256 + w.toNat)) ≤ (y :: z :: w :: r).length := by omega
          refine ⟨⟨by show (0 : Int) ≤ IntKind.i64.wrap (4 + (((z.toNat * 256 + w.toNat) : Nat) : Int)); rw [haw]; omega, by show IntKind.i64.wrap (4 + (((z.toNat * 256 + w.toNat) : Nat) : Int)) ≤ (((t :: y :: z :: w :: r).length : Nat) : Int); rw [haw]; omega, by show (((t :: y :: z :: w :: r).length : Nat) : Int) ≤ (((t :: y :: z :: w :: r).length : Nat) : Int); omega⟩, ?_⟩
          (conv => whnf)
          ((conv in (_[_]?) => tactic => exact hc0); (conv => whnf))
          refine ⟨⟨by decide, by show (4 : Int) ≤ IntKind.i64.wrap (4 + (((z.toNat * 256 + w.toNat) : Nat) : Int)); rw [haw]; omega, by show IntKind.i64.wrap (4 + (((z.toNat * 256 + w.toNat) : Nat) : Int)) ≤ (((t :: y :: z :: w :: r).length : Nat) : Int); rw [haw]; omega⟩, ?_⟩
          (conv => whnf)
          have e1 := sl_cut (t :: y :: z :: w :: r) 4 (IntKind.i64.wrap (4 + (((z.toNat * 256 + w.toNat) : Nat) : Int))) ⟨by decide, by rw [haw]; omega, by rw [haw]; omega⟩
          have e2 := sl_cut (t :: y :: z :: w :: r) (IntKind.i64.wrap (4 + (((z.toNat * 256 + w.toNat) : Nat) : Int))) (((t :: y :: z :: w :: r).length : Nat) : Int) ⟨by rw [haw]; omega, by rw [haw]; omega, by omega⟩
          have f1 : ((t :: y :: z :: w :: r).take (IntKind.i64.wrap (4 + (((z.toNat * 256 + w.toNat) : Nat) : Int))).toNat).drop (4 : Int).toNat = ((y :: z :: w :: r).drop 3).take ((z.toNat * 256 + w.toNat)) := by
            rw [haw, Int.toNat_natCast, List.drop_take]
            show ((t :: y :: z :: w :: r).drop 4).take (4 + ((z.toNat * 256 + w.toNat)) - 4) = _
            rw [show 4 + ((z.toNat * 256 + w.toNat)) - 4 = (z.toNat * 256 + w.toNat) by omega]; rfl
          have f2 : ((t :: y :: z :: w :: r).take (((t :: y :: z :: w :: r).length : Nat) : Int).toNat).drop (IntKind.i64.wrap (4 + (((z.toNat * 256 + w.toNat) : Nat) : Int))).toNat = (y :: z :: w :: r).drop (3 + ((z.toNat * 256 + w.toNat))) := by
            rw [haw, Int.toNat_natCast, Int.toNat_natCast, List.take_length, show 4 + ((z.toNat * 256 + w.toNat)) = (3 + ((z.toNat * 256 + w.toNat))) + 1 by omega]; rfl
          have hel := elemC_hy (t := t) (hd0.trans (if_pos hz8)) hfit
          rw [hel]
          exact ⟨⟨none, e1.trans (by rw [f1]; rfl)⟩, ((Upd.refl H).set (X := (· = c)) (.inl rfl) _), _, v + 1, (get_set hc0).trans (congrArg (fun x => some (PObj.mk 126 [x, .bool false] (v + 1))) (e2.trans (by rw [f2]))), fun l h => Option.some.inj h⟩
      have h8 : ¬ (y.toNat : Int) = 130 := h8
      (conv => whnf)
      refine ⟨i1, [byteC y], at1 (k := 1 * 1) rfl, ?_⟩
      (conv => whnf)
      refine ⟨fun h9 => ?_, fun h9 => ?_⟩
      · have h9 : (128 : Int) ≤ (y.toNat : Int) := h9
        (conv => whnf)
        ((conv in (_[_]?) => tactic => exact hc0); (conv => whnf))
        exact fin _ (elemC_f (head_bad y r (by omega) (fun hh => by omega) (fun hh => by omega))) _
      have h9 : ¬ (128 : Int) ≤ (y.toNat : Int) := h9
      (conv => whnf)
      have hy := y.toNat_lt
      rw [show IntKind.i64.wrap (y.toNat : Int) = (y.toNat : Int) from wrapB1 y]
      have hd0 := head_lt y r (by omega)
      have hL : (((t :: y :: r).length : Nat) : Int) = (((y :: r).length + 1 : Nat) : Int) := rfl
      have hl2 : 1 ≤ (y :: r).length := by simp <;> omega
      have hl3 : (y :: r).length ≤ 140737488355327 := by simp <;> omega
      have hnw : IntKind.i64.wrap ((((t :: y :: r).length : Nat) : Int) - 2) = (((t :: y :: r).length : Nat) : Int) - 2 := by rw [wrap64 (by omega) (by omega)]
      have hn : y.toNat ≤ 65535 := by omega
      refine ⟨fun hg => ?_, fun hg => ?_⟩
      · have hg : ((y.toNat : Nat) : Int) > IntKind.i64.wrap ((((t :: y :: r).length : Nat) : Int) - 2) := hg
        rw [hnw, hL] at hg
        (conv => whnf)
        ((conv in (_[_]?) => tactic => exact hc0); (conv => whnf))
        exact fin _ (elemC_hd (hd0) (fun hh => by have := hh.2; omega)) _
      have hg : ¬ ((y.toNat : Nat) : Int) > IntKind.i64.wrap ((((t :: y :: r).length : Nat) : Int) - 2) := hg
      rw [hnw, hL] at hg
      (conv => whnf)
      refine callK_pure (c153 (y.toNat)) ?_
      (conv => whnf)
      have ew : IntKind.i64.wrap (2 - 1) = 1 := by decide
      refine ⟨fun hs => ?_, fun hs => ?_⟩
      rotate_left
      · have hs : ¬ (((lenB (y.toNat)).length : Nat) : Int) = IntKind.i64.wrap (2 - 1) := hs
        rw [ew] at hs
        (conv => whnf)
        ((conv in (_[_]?) => tactic => exact hc0); (conv => whnf))
        exact absurd (by rw [lenB_1 (by omega)]; rfl) hs
      have hs : (((lenB (y.toNat)).length : Nat) : Int) = IntKind.i64.wrap (2 - 1) := hs
      rw [ew] at hs
      skip
      (conv => whnf)
      have haw : IntKind.i64.wrap (2 + ((y.toNat : Nat) : Int)) = ((2 + (y.toNat) : Nat) : Int) := by rw [wrap64 (by omega) (by omega)]; omega
      have hfit : 1 + (y.toNat) ≤ (y :: r).length := by omega
      refine ⟨⟨by show (0 : Int) ≤ IntKind.i64.wrap (2 + ((y.toNat : Nat) : Int)); rw [haw]; omega, by show IntKind.i64.wrap (2 + ((y.toNat : Nat) : Int)) ≤ (((t :: y :: r).length : Nat) : Int); rw [haw]; omega, by show (((t :: y :: r).length : Nat) : Int) ≤ (((t :: y :: r).length : Nat) : Int); omega⟩, ?_⟩
      (conv => whnf)
      ((conv in (_[_]?) => tactic => exact hc0); (conv => whnf))
      refine ⟨⟨by decide, by show (2 : Int) ≤ IntKind.i64.wrap (2 + ((y.toNat : Nat) : Int)); rw [haw]; omega, by show IntKind.i64.wrap (2 + ((y.toNat : Nat) : Int)) ≤ (((t :: y :: r).length : Nat) : Int); rw [haw]; omega⟩, ?_⟩
      (conv => whnf)
      have e1 := sl_cut (t :: y :: r) 2 (IntKind.i64.wrap (2 + ((y.toNat : Nat) : Int))) ⟨by decide, by rw [haw]; omega, by rw [haw]; omega⟩
      have e2 := sl_cut (t :: y :: r) (IntKind.i64.wrap (2 + ((y.toNat : Nat) : Int))) (((t :: y :: r).length : Nat) : Int) ⟨by rw [haw]; omega, by rw [haw]; omega, by omega⟩
      have f1 : ((t :: y :: r).take (IntKind.i64.wrap (2 + ((y.toNat : Nat) : Int))).toNat).drop (2 : Int).toNat = ((y :: r).drop 1).take (y.toNat) := by
        rw [haw, Int.toNat_natCast, List.drop_take]
        show ((t :: y :: r).drop 2).take (2 + (y.toNat) - 2) = _
        rw [show 2 + (y.toNat) - 2 = y.toNat by omega]; rfl
      have f2 : ((t :: y :: r).take (((t :: y :: r).length : Nat) : Int).toNat).drop (IntKind.i64.wrap (2 + ((y.toNat : Nat) : Int))).toNat = (y :: r).drop (1 + (y.toNat)) := by
        rw [haw, Int.toNat_natCast, Int.toNat_natCast, List.take_length, show 2 + (y.toNat) = (1 + (y.toNat)) + 1 by omega]; rfl
      have hel := elemC_hy (t := t) (hd0) hfit
      rw [hel]
      exact ⟨⟨none, e1.trans (by rw [f1]; rfl)⟩, ((Upd.refl H).set (X := (· = c)) (.inl rfl) _), _, v + 1, (get_set hc0).trans (congrArg (fun x => some (PObj.mk 126 [x, .bool false] (v + 1))) (e2.trans (by rw [f2]))), fun l h => Option.some.inj h⟩
end Go.Proofs.Tryz

set_option maxRecDepth 100000
set_option maxHeartbeats 4000000
set_option linter.unusedVariables false
set_option linter.unusedSimpArgs false
namespace Go.Proofs.Tryz
open Go Ps
theorem elemC_both (tag : UInt8) (s : Option (List UInt8)) : (elemC tag s).1.isNone = (elemC tag s).2.isNone := by
  cases s with
  | none => rfl
  | some l =>
    have e : elemC tag (some l) = (match elemB tag l with | none => (none, none) | some (x, r) => (some r, some x)) := rfl
    rw [e]
    cases elemB tag l with
    | none => rfl
    | some p => rfl
theorem c114s (c : Nat) (tag : UInt8) (s : Option (List UInt8)) (H : PH) (hc : rcur H c s) (hl : ∀ l, s = some l → l.length ≤ 140737488355328) :
    CallOk prog 114 [.ptr (some (c, 0)), byteC tag] H fun r H' => r = sl ((elemC tag s).2.getD []) ∧ Upd (· = c) H H' ∧ rcur H' c (elemC tag s).1 :=
  (c114 c tag s H hc hl).dem fun r H' ⟨⟨o, e⟩, h⟩ => by subst e; exact ⟨(fun cs e => by cases e), rfl, h⟩
theorem c57 (c : Nat) (s : Option (List UInt8)) (H : PH) (hc : rcur H c s) (hl : ∀ l, s = some l → l.length ≤ 140737488355328) :
    CallOk prog 57 [.ptr (some (c, 0))] H fun r H' => r = sl (octC s).2 ∧ Upd (· = c) H H' ∧ rcur H' c (octC s).1 := by
  (refine callOk_of_pFun2 (tt := ttL) (imm := imm57) follows ttL_ok depth6 func57 (by kernel_rfl) ?_; (conv => whnf))
  refine callK_of (c114s c 4 s H hc hl) ?_
  rintro _ H1 ⟨rfl, h1, h2⟩
  (conv => whnf)
  exact ⟨rfl, h1, h2⟩
theorem c83 (c : Nat) (s : Option (List UInt8)) (H : PH) (hc : rcur H c s) (hl : ∀ l, s = some l → l.length ≤ 140737488355328) :
    CallOk prog 83 [.ptr (some (c, 0))] H fun r H' => r = .str (txtC s).2 ∧ Upd (· = c) H H' ∧ rcur H' c (txtC s).1 := by
  (refine callOk_of_pFun2 (tt := ttL) (imm := imm83) follows ttL_ok depth6 func83 (by kernel_rfl) ?_; (conv => whnf))
  refine callK_of (c114s c 27 s H hc hl) ?_
  rintro _ H1 ⟨rfl, h1, h2⟩
  (conv => whnf)
  refine ⟨_, ⟨rfl, rfl⟩, ?_⟩
  (conv => whnf)
  exact ⟨rfl, h1, h2⟩
theorem c53 (c : Nat) (tag : UInt8) (s : Option (List UInt8)) (H : PH) (hc : rcur H c s) (hl : ∀ l, s = some l → l.length ≤ 140737488355328) :
    CallOk prog 53 [.ptr (some (c, 0)), byteC tag] H fun r H' => ∃ d, r = .ptr (some (d, 0)) ∧ H.length ≤ d ∧ Upd (· = c) H H' ∧ rcur H' c (elemC tag s).1 ∧ rcur H' d (elemC tag s).2 := by
  (refine callOk_of_pFun2 (tt := ttL) (imm := imm53) follows ttL_ok depth6 func53 (by kernel_rfl) ?_; (conv => whnf))
  refine callK_of (c114s c tag s H hc hl) ?_
  rintro _ H1 ⟨rfl, h1, h2⟩
  obtain ⟨b, v, hb, _⟩ := id h2
  (conv => whnf)
  ((conv in (_[_]?) => tactic => exact hb); (conv => whnf))
  refine ⟨H1.length, rfl, h1.1, h1.push _, h2.keep (X := fun _ => False) ((Upd.refl H1).push _) (fun f => f), (elemC tag s).2.getD [], 0, ?_, fun l hl => by rw [hl]; rfl⟩
  rw [← elemC_both]
  exact get_last _ _
def wholeB : Option (List UInt8) → Bool
  | some [] => true
  | _ => false
theorem c115 (c : Nat) (s : Option (List UInt8)) (H : PH) (hc : rcur H c s) : CallOk prog 115 [.ptr (some (c, 0))] H fun r H' => r = .bool (wholeB s) ∧ H' = H := by
  obtain ⟨b, v, hb, hx⟩ := hc
  (refine callOk_of_pFun2 (tt := ttL) (imm := imm115) follows ttL_ok depth6 func115 (by kernel_rfl) ?_; (conv => whnf))
  ((conv in (_[_]?) => tactic => exact hb); (conv => whnf))
  cases s with
  | none =>
    (conv => whnf)
    exact ⟨rfl, rfl⟩
  | some l =>
    have := hx l rfl
    subst this
    (conv => whnf)
    ((conv in (_[_]?) => tactic => exact hb); (conv => whnf))
    cases b with
    | nil =>
      refine ⟨fun _ => ?_, fun h => absurd rfl h⟩
      (conv => whnf)
      exact ⟨rfl, rfl⟩
    | cons x t =>
      refine ⟨fun h => absurd h (by simp <;> omega), fun _ => ?_⟩
      (conv => whnf)
      exact ⟨rfl, rfl⟩
def stepR (n : Int) (x : UInt8) : Int := ibits .or .i64 (ishl .i64 n 8) (IntKind.i64.wrap (x.toNat : Int))
def numR (l : List UInt8) : Int := l.foldl stepR 0
def okR (p : List UInt8) : Bool := decide (p ≠ []) && (decide (p.length ≤ 9) && (decide (0 ≤ numR p) && (decide (numR p ≤ 4611686018427387904) && decide (intE (numR p) = wrapB 2 p))))
def rintR (s' : Option (List UInt8)) : Option (List UInt8) → Option (List UInt8) × Int
  | none => (none, 0)
  | some p => if okR p = true then (s', numR p) else (none, 0)
def rintC (s : Option (List UInt8)) : Option (List UInt8) × Int := rintR (elemC 2 s).1 (elemC 2 s).2
theorem numR_fold : ∀ (l : List UInt8) (a : Nat), l.foldl stepV a ≤ 4611686018427387904 → l.foldl stepR (a : Int) = ((l.foldl stepV a : Nat) : Int)
  | [], a, _ => rfl
  | x :: l, a, h => by
    have h : l.foldl stepV (stepV a x) ≤ 4611686018427387904 := h
    have h1 := fold_ge l (stepV a x)
    have h2 : stepV a x = a * 256 + x.toNat := rfl
    have hx := x.toNat_lt
    show l.foldl stepR (stepR (a : Int) x) = ((l.foldl stepV (stepV a x) : Nat) : Int)
    rw [← numR_fold l (stepV a x) h]
    congr 1
    unfold stepR
    rw [ishl8, wrapB1, wrap64 (by omega) (by omega), show (a : Int) * 256 = ((a * 256 : Nat) : Int) by omega, or8 a x.toNat (by omega) hx, h2]
theorem rintC_wrap (n : Int) (h0 : 0 ≤ n) (h1 : n ≤ 4611686018427387904) (rest : List UInt8) : rintC (some (intE n ++ rest)) = (some rest, n) := by
  have hc : clampI n = n.toNat := by unfold clampI; omega
  obtain ⟨k1, k2, k3⟩ := intB_ok n.toNat (by omega)
  have hw : numR (intB n.toNat) = n := by
    show (intB n.toNat).foldl stepR ((0 : Nat) : Int) = n
    have e : (intB n.toNat).foldl stepV 0 = n.toNat := k2
    rw [numR_fold _ 0 (by rw [e]; omega), e]; omega
  have hok : okR (intB n.toNat) = true := by
    have hne : intB n.toNat ≠ [] := fun e => by rw [e] at k1; cases k1
    unfold okR
    rw [hw, decide_eq_true hne, decide_eq_true (show (intB n.toNat).length ≤ 9 by omega), decide_eq_true h0, decide_eq_true h1]
    unfold intE
    rw [hc, decide_eq_true rfl]; rfl
  have e : elemC 2 (some (intE n ++ rest)) = (some rest, some (intB n.toNat)) := by
    unfold intE
    rw [hc]
    exact elemC_wrap 2 _ rest (by omega)
  unfold rintC
  rw [e]
  show (if okR (intB n.toNat) = true then (some rest, numR (intB n.toNat)) else (none, 0)) = _
  rw [if_pos hok, hw]
theorem c55 (c : Nat) (s : Option (List UInt8)) (H : PH) (hc : rcur H c s) (hl : ∀ l, s = some l → l.length ≤ 140737488355328) :
    CallOk prog 55 [.ptr (some (c, 0))] H fun r H' => r = .int .i64 (rintC s).2 ∧ Upd (· = c) H H' ∧ rcur H' c (rintC s).1 := by
  (refine callOk_of_pFun2 (tt := ttL) (imm := imm55) follows ttL_ok depth6 func55 (by kernel_rfl) ?_; (conv => whnf))
  refine callK_of (c114s c 2 s H hc hl) ?_
  rintro _ H1 ⟨rfl, h1, h2⟩
  obtain ⟨b, v, hb, hx⟩ := id h2
  unfold rintC
  have hbo := elemC_both 2 s
  have hl2 := (elemC_len (tag := 2) hl).2
  revert h2 hb hx hbo hl2
  generalize elemC 2 s = q
  obtain ⟨s', p⟩ := q
  intro h2 hb hx hbo hl2
  have fin : ∀ q : Option (List UInt8) × Int, q = (none, 0) → PV.int .i64 0 = PV.int .i64 q.2 ∧ Upd (· = c) H (H1.set c ⟨126, [sl b, .bool true], v + 1⟩) ∧ rcur (H1.set c ⟨126, [sl b, .bool true], v + 1⟩) c q.1 := fun q hq => by
    subst hq
    exact ⟨rfl, h1.set (.inl rfl) _, b, v + 1, get_set hb, fun l h => by cases h⟩
  (conv => whnf)
  ((conv in (_[_]?) => tactic => exact hb); (conv => whnf))
  cases p with
  | none =>
    cases s' with
    | some _ => cases hbo
    | none =>
      (conv => whnf)
      ((conv in (_[_]?) => tactic => exact hb); (conv => whnf))
      exact fin _ rfl
  | some p =>
    cases s' with
    | none => cases hbo
    | some s' =>
      have hp := (hl2 p rfl).2
      have hno : okR p = false → rintR (some s') (some p) = (none, 0) := fun h => if_neg (by rw [h]; decide)
      have hpl : (PV.int .i64 (((some p).getD [] : List UInt8).length : Int)) = .int .i64 (p.length : Int) := rfl
      (conv => whnf)
      refine ⟨fun h => ?_, fun h => ?_⟩
      · (conv => whnf)
        ((conv in (_[_]?) => tactic => exact hb); (conv => whnf))
        have h : (p.length : Int) = 0 := h
        have e : p = [] := List.length_eq_zero_iff.1 (by omega)
        exact fin _ (hno (by rw [e]; rfl))
      have h : ¬ (p.length : Int) = 0 := h
      have hne : p ≠ [] := fun e => h (by rw [e]; rfl)
      (conv => whnf)
      refine ⟨fun h9 => ?_, fun h9 => ?_⟩
      · have h9 : (p.length : Int) > 9 := h9
        (conv => whnf)
        ((conv in (_[_]?) => tactic => exact hb); (conv => whnf))
        exact fin _ (hno (by unfold okR; rw [decide_eq_false (show ¬ p.length ≤ 9 by omega), Bool.false_and, Bool.and_false]))
      have h9 : ¬ (p.length : Int) > 9 := h9
      (conv => whnf)
      refine loopK_of RwS (fun x => [(0, .ptr (some (c, 0))), (3, sl p), (5, .int .i64 x.i), (4, .int .i64 (numR (p.take x.i)))]) (fun _ => H1) (fun x => x.i ≤ p.length) (fun x => p.length - x.i)
        ⟨⟨0⟩, Nat.zero_le _, ⟨rfl, rfl, rfl, rfl, trivial⟩, rfl⟩ ?_
      rintro ⟨i⟩ hi
      have hi : i ≤ p.length := hi
      (conv => whnf)
      refine ⟨fun h5 => ?_, fun h5 => ?_⟩
      · (conv => whnf)
        have h5 : (i : Int) < (p.length : Int) := h5
        have hlt : i < p.length := by omega
        refine ⟨by decide, ?_⟩
        (conv => whnf)
        refine ⟨⟨by show (0 : Int) ≤ (i : Int); omega, h5⟩, [byteC p[i]], at1 ?_, ?_⟩
        · show (p.map byteC)[(i : Int).toNat * 1]? = _
          rw [Int.toNat_natCast, Nat.mul_one, List.getElem?_map, List.getElem?_eq_getElem hlt]; rfl
        (conv => whnf)
        refine ⟨⟨i + 1⟩, hlt, ⟨rfl, rfl, ?_, ?_, trivial⟩, rfl, by show p.length - (i + 1) < p.length - i; omega⟩
        · show PV.int _ (IntKind.i64.wrap ((i : Int) + 1)) = PV.int _ ((i + 1 : Nat) : Int)
          rw [wrap64 (by omega) (by omega)]; rfl
        · rw [List.take_succ_eq_append_getElem hlt]
          unfold numR
          rw [List.foldl_append]
          rfl
      · (conv => whnf)
        have h5 : ¬ (i : Int) < (p.length : Int) := h5
        rw [List.take_of_length_le (l := p) (by omega)]
        refine drawK_pure2 (by kernel_rfl) ?_
        (conv => whnf)
        (apply Exists.intro; apply And.intro; (focus ((conv => whnf); first | exact ⟨rfl, rfl, trivial⟩ | (refine ⟨by omega, ?_⟩; (conv => whnf); exact ⟨rfl, rfl, trivial⟩))); (conv => whnf))
        by_cases n0 : numR p < 0
        · refine ⟨.bool true, ?_, ?_⟩
          · (conv => whnf)
            exact ⟨fun _ => ⟨rfl, rfl, trivial⟩, fun h => (h n0).elim⟩
          (conv => whnf)
          (apply Exists.intro; apply And.intro; (focus ((conv => whnf); first | exact ⟨rfl, rfl, trivial⟩ | (refine ⟨by omega, ?_⟩; (conv => whnf); exact ⟨rfl, rfl, trivial⟩))); (conv => whnf))
          (apply Exists.intro; apply And.intro; (focus ((conv => whnf); first | exact ⟨rfl, rfl, trivial⟩ | (refine ⟨by omega, ?_⟩; (conv => whnf); exact ⟨rfl, rfl, trivial⟩))); (conv => whnf))
          (apply Exists.intro; apply And.intro; (focus ((conv => whnf); first | exact ⟨rfl, rfl, trivial⟩ | (refine ⟨by omega, ?_⟩; (conv => whnf); exact ⟨rfl, rfl, trivial⟩))); (conv => whnf))
          (apply Exists.intro; apply And.intro; (focus ((conv => whnf); first | exact ⟨rfl, rfl, trivial⟩ | (refine ⟨by omega, ?_⟩; (conv => whnf); exact ⟨rfl, rfl, trivial⟩))); (conv => whnf))
          (apply Exists.intro; apply And.intro; (focus ((conv => whnf); first | exact ⟨rfl, rfl, trivial⟩ | (refine ⟨by omega, ?_⟩; (conv => whnf); exact ⟨rfl, rfl, trivial⟩))); (conv => whnf))
          (apply Exists.intro; apply And.intro; (focus ((conv => whnf); first | exact ⟨rfl, rfl, trivial⟩ | (refine ⟨by omega, ?_⟩; (conv => whnf); exact ⟨rfl, rfl, trivial⟩))); (conv => whnf))
          (apply Exists.intro; apply And.intro; (focus ((conv => whnf); first | exact ⟨rfl, rfl, trivial⟩ | (refine ⟨by omega, ?_⟩; (conv => whnf); exact ⟨rfl, rfl, trivial⟩))); (conv => whnf))
          (apply Exists.intro; apply And.intro; (focus ((conv => whnf); first | exact ⟨rfl, rfl, trivial⟩ | (refine ⟨by omega, ?_⟩; (conv => whnf); exact ⟨rfl, rfl, trivial⟩))); (conv => whnf))
          (apply Exists.intro; apply And.intro; (focus ((conv => whnf); first | exact ⟨rfl, rfl, trivial⟩ | (refine ⟨by omega, ?_⟩; (conv => whnf); exact ⟨rfl, rfl, trivial⟩))); (conv => whnf))
          (apply Exists.intro; apply And.intro; (focus ((conv => whnf); first | exact ⟨rfl, rfl, trivial⟩ | (refine ⟨by omega, ?_⟩; (conv => whnf); exact ⟨rfl, rfl, trivial⟩))); (conv => whnf))
          (apply Exists.intro; apply And.intro; (focus ((conv => whnf); first | exact ⟨rfl, rfl, trivial⟩ | (refine ⟨by omega, ?_⟩; (conv => whnf); exact ⟨rfl, rfl, trivial⟩))); (conv => whnf))
          (apply Exists.intro; apply And.intro; (focus ((conv => whnf); first | exact ⟨rfl, rfl, trivial⟩ | (refine ⟨by omega, ?_⟩; (conv => whnf); exact ⟨rfl, rfl, trivial⟩))); (conv => whnf))
          (apply Exists.intro; apply And.intro; (focus ((conv => whnf); first | exact ⟨rfl, rfl, trivial⟩ | (refine ⟨by omega, ?_⟩; (conv => whnf); exact ⟨rfl, rfl, trivial⟩))); (conv => whnf))
          ((conv in (_[_]?) => tactic => exact hb); (conv => whnf))
          exact fin _ (hno (by unfold okR; rw [decide_eq_false (show ¬ 0 ≤ numR p by omega), Bool.false_and, Bool.and_false, Bool.and_false]))
        refine ⟨.bool false, ?_, ?_⟩
        · (conv => whnf)
          exact ⟨fun h => (n0 h).elim, fun _ => ⟨rfl, rfl, trivial⟩⟩
        (conv => whnf)
        (apply Exists.intro; apply And.intro; (focus ((conv => whnf); first | exact ⟨rfl, rfl, trivial⟩ | (refine ⟨by omega, ?_⟩; (conv => whnf); exact ⟨rfl, rfl, trivial⟩))); (conv => whnf))
        (apply Exists.intro; apply And.intro; (focus ((conv => whnf); first | exact ⟨rfl, rfl, trivial⟩ | (refine ⟨by omega, ?_⟩; (conv => whnf); exact ⟨rfl, rfl, trivial⟩))); (conv => whnf))
        by_cases n1 : numR p > 4611686018427387904
        · refine ⟨.bool true, ?_, ?_⟩
          · (conv => whnf)
            exact ⟨fun _ => ⟨rfl, rfl, trivial⟩, fun h => (h n1).elim⟩
          (conv => whnf)
          (apply Exists.intro; apply And.intro; (focus ((conv => whnf); first | exact ⟨rfl, rfl, trivial⟩ | (refine ⟨by omega, ?_⟩; (conv => whnf); exact ⟨rfl, rfl, trivial⟩))); (conv => whnf))
          (apply Exists.intro; apply And.intro; (focus ((conv => whnf); first | exact ⟨rfl, rfl, trivial⟩ | (refine ⟨by omega, ?_⟩; (conv => whnf); exact ⟨rfl, rfl, trivial⟩))); (conv => whnf))
          (apply Exists.intro; apply And.intro; (focus ((conv => whnf); first | exact ⟨rfl, rfl, trivial⟩ | (refine ⟨by omega, ?_⟩; (conv => whnf); exact ⟨rfl, rfl, trivial⟩))); (conv => whnf))
          (apply Exists.intro; apply And.intro; (focus ((conv => whnf); first | exact ⟨rfl, rfl, trivial⟩ | (refine ⟨by omega, ?_⟩; (conv => whnf); exact ⟨rfl, rfl, trivial⟩))); (conv => whnf))
          (apply Exists.intro; apply And.intro; (focus ((conv => whnf); first | exact ⟨rfl, rfl, trivial⟩ | (refine ⟨by omega, ?_⟩; (conv => whnf); exact ⟨rfl, rfl, trivial⟩))); (conv => whnf))
          (apply Exists.intro; apply And.intro; (focus ((conv => whnf); first | exact ⟨rfl, rfl, trivial⟩ | (refine ⟨by omega, ?_⟩; (conv => whnf); exact ⟨rfl, rfl, trivial⟩))); (conv => whnf))
          (apply Exists.intro; apply And.intro; (focus ((conv => whnf); first | exact ⟨rfl, rfl, trivial⟩ | (refine ⟨by omega, ?_⟩; (conv => whnf); exact ⟨rfl, rfl, trivial⟩))); (conv => whnf))
          (apply Exists.intro; apply And.intro; (focus ((conv => whnf); first | exact ⟨rfl, rfl, trivial⟩ | (refine ⟨by omega, ?_⟩; (conv => whnf); exact ⟨rfl, rfl, trivial⟩))); (conv => whnf))
          (apply Exists.intro; apply And.intro; (focus ((conv => whnf); first | exact ⟨rfl, rfl, trivial⟩ | (refine ⟨by omega, ?_⟩; (conv => whnf); exact ⟨rfl, rfl, trivial⟩))); (conv => whnf))
          (apply Exists.intro; apply And.intro; (focus ((conv => whnf); first | exact ⟨rfl, rfl, trivial⟩ | (refine ⟨by omega, ?_⟩; (conv => whnf); exact ⟨rfl, rfl, trivial⟩))); (conv => whnf))
          ((conv in (_[_]?) => tactic => exact hb); (conv => whnf))
          exact fin _ (hno (by unfold okR; rw [decide_eq_false (show ¬ numR p ≤ 4611686018427387904 by omega), Bool.false_and, Bool.and_false, Bool.and_false, Bool.and_false]))
        refine ⟨.bool false, ?_, ?_⟩
        · (conv => whnf)
          exact ⟨fun h => (n1 h).elim, fun _ => ⟨rfl, rfl, trivial⟩⟩
        (conv => whnf)
        (apply Exists.intro; apply And.intro; (focus ((conv => whnf); first | exact ⟨rfl, rfl, trivial⟩ | (refine ⟨by omega, ?_⟩; (conv => whnf); exact ⟨rfl, rfl, trivial⟩))); (conv => whnf))
        (apply Exists.intro; apply And.intro; (focus ((conv => whnf); first | exact ⟨rfl, rfl, trivial⟩ | (refine ⟨by omega, ?_⟩; (conv => whnf); exact ⟨rfl, rfl, trivial⟩))); (conv => whnf))
        (apply Exists.intro; apply And.intro; (focus ((conv => whnf); first | exact ⟨rfl, rfl, trivial⟩ | (refine ⟨by omega, ?_⟩; (conv => whnf); exact ⟨rfl, rfl, trivial⟩))); (conv => whnf))
        refine ⟨_, callK_pure (c74 (numR p)) ⟨rfl, rfl, trivial⟩, ?_⟩
        (conv => whnf)
        refine ⟨.str (intE (numR p)), ⟨intE (numR p), ⟨rfl, rfl⟩, rfl, rfl, trivial⟩, ?_⟩
        (conv => whnf)
        (apply Exists.intro; apply And.intro; (focus ((conv => whnf); first | exact ⟨rfl, rfl, trivial⟩ | (refine ⟨by omega, ?_⟩; (conv => whnf); exact ⟨rfl, rfl, trivial⟩))); (conv => whnf))
        refine ⟨_, callK_pure (c116 2 p none (by omega)) ⟨rfl, rfl, trivial⟩, ?_⟩
        (conv => whnf)
        refine ⟨.str (wrapB 2 p), ⟨wrapB 2 p, ⟨rfl, rfl⟩, rfl, rfl, trivial⟩, ?_⟩
        (conv => whnf)
        by_cases n2 : intE (numR p) = wrapB 2 p
        · refine ⟨.bool false, ?_, ?_⟩
          · (conv => whnf)
            exact ⟨fun _ => ⟨rfl, rfl, trivial⟩, fun h => (h n2).elim⟩
          (conv => whnf)
          (apply Exists.intro; apply And.intro; (focus ((conv => whnf); first | exact ⟨rfl, rfl, trivial⟩ | (refine ⟨by omega, ?_⟩; (conv => whnf); exact ⟨rfl, rfl, trivial⟩))); (conv => whnf))
          have hyes : rintR (some s') (some p) = (some s', numR p) := if_pos (by unfold okR; rw [decide_eq_true hne, decide_eq_true (show p.length ≤ 9 by omega), decide_eq_true (show 0 ≤ numR p by omega), decide_eq_true (show numR p ≤ 4611686018427387904 by omega), decide_eq_true n2]; rfl)
          show _ = PV.int .i64 (rintR (some s') (some p)).2 ∧ _ ∧ rcur _ c (rintR (some s') (some p)).1
          rw [hyes]
          exact ⟨rfl, h1, h2⟩
        · refine ⟨.bool true, ?_, ?_⟩
          · (conv => whnf)
            exact ⟨fun h => (n2 h).elim, fun _ => ⟨rfl, rfl, trivial⟩⟩
          (conv => whnf)
          (apply Exists.intro; apply And.intro; (focus ((conv => whnf); first | exact ⟨rfl, rfl, trivial⟩ | (refine ⟨by omega, ?_⟩; (conv => whnf); exact ⟨rfl, rfl, trivial⟩))); (conv => whnf))
          ((conv in (_[_]?) => tactic => exact hb); (conv => whnf))
          exact fin _ (hno (by unfold okR; rw [decide_eq_false n2, Bool.and_false, Bool.and_false, Bool.and_false, Bool.and_false]))
end Go.Proofs.Tryz

set_option maxRecDepth 100000
set_option maxHeartbeats 4000000
set_option linter.unusedVariables false
set_option linter.unusedSimpArgs false
namespace Go.Proofs.Tryz
open Go Ps
theorem c71 (r n : List UInt8) (hr : r.length ≤ 1000000) (hn : n.length ≤ 1000000) : Pure prog 71 [.agg [.str r, .str n]] (sl (princE r n)) := by
  intro H
  have h1 := wrapB_len 27 r
  have h2 := wrapB_len 27 n
  (refine callOk_of_pFun2 (tt := ttL) (imm := imm71) follows ttL_ok depth6 func71 (by kernel_rfl) ?_; (conv => whnf))
  refine drawK_pure2 (by kernel_rfl) ?_
  (conv => whnf)
  (apply Exists.intro; apply And.intro; (focus ((conv => whnf); first | exact ⟨rfl, rfl, trivial⟩ | (refine ⟨by omega, ?_⟩; (conv => whnf); exact ⟨rfl, rfl, trivial⟩))); (conv => whnf))
  (apply Exists.intro; apply And.intro; (focus ((conv => whnf); first | exact ⟨rfl, rfl, trivial⟩ | (refine ⟨by omega, ?_⟩; (conv => whnf); exact ⟨rfl, rfl, trivial⟩))); (conv => whnf))
  refine ⟨_, callK_pure (c73 r (by omega)) ⟨rfl, rfl, trivial⟩, ?_⟩
  (conv => whnf)
  (apply Exists.intro; apply And.intro; (focus ((conv => whnf); first | exact ⟨rfl, rfl, trivial⟩ | (refine ⟨by omega, ?_⟩; (conv => whnf); exact ⟨rfl, rfl, trivial⟩))); (conv => whnf))
  (apply Exists.intro; apply And.intro; (focus ((conv => whnf); first | exact ⟨rfl, rfl, trivial⟩ | (refine ⟨by omega, ?_⟩; (conv => whnf); exact ⟨rfl, rfl, trivial⟩))); (conv => whnf))
  refine ⟨_, callK_pure (c73 n (by omega)) ⟨rfl, rfl, trivial⟩, ?_⟩
  (conv => whnf)
  (apply Exists.intro; apply And.intro; (focus ((conv => whnf); first | exact ⟨rfl, rfl, trivial⟩ | (refine ⟨by omega, ?_⟩; (conv => whnf); exact ⟨rfl, rfl, trivial⟩))); (conv => whnf))
  refine ⟨_, callK_pure (c70 48 [wrapB 27 r, wrapB 27 n] (by simp) (by simp only [List.flatten_cons, List.flatten_nil, List.length_append, List.length_nil]; omega)) ⟨rfl, rfl, trivial⟩, ?_⟩
  (conv => whnf)
  (apply Exists.intro; apply And.intro; (focus ((conv => whnf); first | exact ⟨rfl, rfl, trivial⟩ | (refine ⟨by omega, ?_⟩; (conv => whnf); exact ⟨rfl, rfl, trivial⟩))); (conv => whnf))
  exact ⟨rfl, rfl⟩
theorem c102 (r n : List UInt8) (kv : Int) (b : List UInt8) (o : Option Nat) (hr : r.length ≤ 1000000) (hn : n.length ≤ 1000000) (hb : b.length ≤ 1000000) : Pure prog 102 [.agg [.str r, .str n, .int .i64 kv, slo b o]] (sl (ticketE r n kv b)) := by
  intro H
  have h1 := princE_len r n
  have h2 := intE_len kv
  have h3 := wrapB_len 4 b
  (refine callOk_of_pFun2 (tt := ttL) (imm := imm102) follows ttL_ok depth6 func102 (by kernel_rfl) ?_; (conv => whnf))
  refine drawK_pure2 (by kernel_rfl) ?_
  (conv => whnf)
  (apply Exists.intro; apply And.intro; (focus ((conv => whnf); first | exact ⟨rfl, rfl, trivial⟩ | (refine ⟨by omega, ?_⟩; (conv => whnf); exact ⟨rfl, rfl, trivial⟩))); (conv => whnf))
  (apply Exists.intro; apply And.intro; (focus ((conv => whnf); first | exact ⟨rfl, rfl, trivial⟩ | (refine ⟨by omega, ?_⟩; (conv => whnf); exact ⟨rfl, rfl, trivial⟩))); (conv => whnf))
  refine ⟨_, callK_pure (c71 r n hr hn) ⟨rfl, rfl, trivial⟩, ?_⟩
  (conv => whnf)
  (apply Exists.intro; apply And.intro; (focus ((conv => whnf); first | exact ⟨rfl, rfl, trivial⟩ | (refine ⟨by omega, ?_⟩; (conv => whnf); exact ⟨rfl, rfl, trivial⟩))); (conv => whnf))
  (apply Exists.intro; apply And.intro; (focus ((conv => whnf); first | exact ⟨rfl, rfl, trivial⟩ | (refine ⟨by omega, ?_⟩; (conv => whnf); exact ⟨rfl, rfl, trivial⟩))); (conv => whnf))
  refine ⟨_, callK_pure (c74 kv) ⟨rfl, rfl, trivial⟩, ?_⟩
  (conv => whnf)
  (apply Exists.intro; apply And.intro; (focus ((conv => whnf); first | exact ⟨rfl, rfl, trivial⟩ | (refine ⟨by omega, ?_⟩; (conv => whnf); exact ⟨rfl, rfl, trivial⟩))); (conv => whnf))
  (apply Exists.intro; apply And.intro; (focus ((conv => whnf); first | exact ⟨rfl, rfl, trivial⟩ | (refine ⟨by omega, ?_⟩; (conv => whnf); exact ⟨rfl, rfl, trivial⟩))); (conv => whnf))
  refine ⟨_, callK_pure (c72 b none (by omega)) ⟨rfl, rfl, trivial⟩, ?_⟩
  (conv => whnf)
  (apply Exists.intro; apply And.intro; (focus ((conv => whnf); first | exact ⟨rfl, rfl, trivial⟩ | (refine ⟨by omega, ?_⟩; (conv => whnf); exact ⟨rfl, rfl, trivial⟩))); (conv => whnf))
  refine ⟨_, callK_pure (c70 97 [princE r n, intE kv, wrapB 4 b] (by simp) (by simp only [List.flatten_cons, List.flatten_nil, List.length_append, List.length_nil]; omega)) ⟨rfl, rfl, trivial⟩, ?_⟩
  (conv => whnf)
  (apply Exists.intro; apply And.intro; (focus ((conv => whnf); first | exact ⟨rfl, rfl, trivial⟩ | (refine ⟨by omega, ?_⟩; (conv => whnf); exact ⟨rfl, rfl, trivial⟩))); (conv => whnf))
  exact ⟨rfl, rfl⟩
theorem c69 (b : List UInt8) (hb : b.length ≤ 2000) : Pure prog 69 [sl b] (.tup [sl b, .int .i64 0]) := by
  intro H
  (refine callOk_of_pFun2 (tt := ttL) (imm := imm69) follows ttL_ok depth6 func69 (by kernel_rfl) ?_; (conv => whnf))
  refine ⟨fun h => absurd (show (2000 : Int) < (b.length : Int) from h) (by omega), fun h => ?_⟩
  (conv => whnf)
  exact ⟨rfl, rfl⟩
theorem encV_is {m : Msg} (h : isB m = true) (hl : (laidB m).length ≤ 2000) : encV m = .tup [sl (laidB m), .int .i64 0] := if_pos ⟨h, hl⟩
theorem c42x (m : Msg) (hm : m.fits) (H : PH) : CallOk prog 42 [.agg m.cells] H fun r H' => r = encV m ∧ ∃ ext, H' = H ++ ext := by
  (refine callOk_of_pFun2 (tt := ttL) (imm := imm42) follows ttL_ok depth6 func42 (by kernel_rfl) ?_; (conv => whnf))
  refine callK_pure ((c101 m.d hm).of_eq (show PV.bool (isB m.d) = .bool (isB m) from rfl)) ?_
  cases hb : isB m
  · (conv => whnf)
    exact ⟨(encV_no (fun hh => by rw [hb] at hh; cases hh.1)).symm, Ext.refl _⟩
  have hm := (Bool.and_eq_true _ _ ▸ hb : _ ∧ _).1
  (conv => whnf)
  by_cases h1 : m.kind = 1
  · have hk := h1
    have n2 : ¬ m.kind = 2 := by omega
    have n3 : ¬ m.kind = 3 := by omega
    have n4 : ¬ m.kind = 4 := by omega
    have n5 : ¬ m.kind = 5 := by omega
    refine ⟨fun h => ?_, fun h => ?_⟩
    rotate_left
    · exact (h hk).elim
    (conv => whnf)
    rw [if_pos hk] at hm
    simp only [Bool.and_eq_true] at hm
    have g1 := princ_len hm.1.1.1
    have g2 := princ_len hm.1.1.2
    have e0 := princE_len m.a1 m.a2
    have e1 := princE_len m.a3 m.a4
    have e2 := intE_len m.aTill
    have e3 := intE_len m.aNonce
    have hw := wrapB_len 106 [princE m.a1 m.a2, princE m.a3 m.a4, intE m.aTill, intE m.aNonce].flatten
    simp only [List.flatten_cons, List.flatten_nil, List.length_append, List.length_nil] at hw
    have hlen : (wrapB 106 [princE m.a1 m.a2, princE m.a3 m.a4, intE m.aTill, intE m.aNonce].flatten).length ≤ 2000 := by simp only [List.flatten_cons, List.flatten_nil]; omega
    have hl : laidB m = wrapB 106 [princE m.a1 m.a2, princE m.a3 m.a4, intE m.aTill, intE m.aNonce].flatten := by unfold laidB; rw [if_pos hk]
    ((conv in (_[_]?) => tactic => exact get_last _ _); (conv => whnf))
    refine drawK_pure2 (by kernel_rfl) ?_
    (conv => whnf)
    (apply Exists.intro; apply And.intro; (focus ((conv => whnf); first | exact ⟨rfl, rfl, trivial⟩ | (refine ⟨by omega, ?_⟩; (conv => whnf); exact ⟨rfl, rfl, trivial⟩))); (conv => whnf))
    apply Exists.intro
    apply And.intro
    focus
      (conv => whnf)
      ((conv in (_[_]?) => tactic => exact get_set (get_last _ _)); (conv => whnf))
      exact ⟨rfl, rfl, trivial⟩
    (conv => whnf)
    refine ⟨_, callK_pure (c71 m.a1 m.a2 (by omega) (by omega)) ⟨rfl, rfl, trivial⟩, ?_⟩
    (conv => whnf)
    (apply Exists.intro; apply And.intro; (focus ((conv => whnf); first | exact ⟨rfl, rfl, trivial⟩ | (refine ⟨by omega, ?_⟩; (conv => whnf); exact ⟨rfl, rfl, trivial⟩))); (conv => whnf))
    apply Exists.intro
    apply And.intro
    focus
      (conv => whnf)
      ((conv in (_[_]?) => tactic => exact get_set (get_last _ _)); (conv => whnf))
      exact ⟨rfl, rfl, trivial⟩
    (conv => whnf)
    refine ⟨_, callK_pure (c71 m.a3 m.a4 (by omega) (by omega)) ⟨rfl, rfl, trivial⟩, ?_⟩
    (conv => whnf)
    (apply Exists.intro; apply And.intro; (focus ((conv => whnf); first | exact ⟨rfl, rfl, trivial⟩ | (refine ⟨by omega, ?_⟩; (conv => whnf); exact ⟨rfl, rfl, trivial⟩))); (conv => whnf))
    apply Exists.intro
    apply And.intro
    focus
      (conv => whnf)
      ((conv in (_[_]?) => tactic => exact get_set (get_last _ _)); (conv => whnf))
      exact ⟨rfl, rfl, trivial⟩
    (conv => whnf)
    refine ⟨_, callK_pure (c74 m.aTill) ⟨rfl, rfl, trivial⟩, ?_⟩
    (conv => whnf)
    (apply Exists.intro; apply And.intro; (focus ((conv => whnf); first | exact ⟨rfl, rfl, trivial⟩ | (refine ⟨by omega, ?_⟩; (conv => whnf); exact ⟨rfl, rfl, trivial⟩))); (conv => whnf))
    apply Exists.intro
    apply And.intro
    focus
      (conv => whnf)
      ((conv in (_[_]?) => tactic => exact get_set (get_last _ _)); (conv => whnf))
      exact ⟨rfl, rfl, trivial⟩
    (conv => whnf)
    refine ⟨_, callK_pure (c74 m.aNonce) ⟨rfl, rfl, trivial⟩, ?_⟩
    (conv => whnf)
    (apply Exists.intro; apply And.intro; (focus ((conv => whnf); first | exact ⟨rfl, rfl, trivial⟩ | (refine ⟨by omega, ?_⟩; (conv => whnf); exact ⟨rfl, rfl, trivial⟩))); (conv => whnf))
    refine ⟨_, callK_pure (c70 106 [princE m.a1 m.a2, princE m.a3 m.a4, intE m.aTill, intE m.aNonce] (by simp) (by simp only [List.flatten_cons, List.flatten_nil, List.length_append, List.length_nil]; omega)) ⟨rfl, rfl, trivial⟩, ?_⟩
    (conv => whnf)
    refine ⟨_, callK_pure (c69 _ hlen) ⟨rfl, rfl, trivial⟩, ?_⟩
    (conv => whnf)
    (apply Exists.intro; apply And.intro; (focus ((conv => whnf); first | exact ⟨rfl, rfl, trivial⟩ | (refine ⟨by omega, ?_⟩; (conv => whnf); exact ⟨rfl, rfl, trivial⟩))); (conv => whnf))
    (apply Exists.intro; apply And.intro; (focus ((conv => whnf); first | exact ⟨rfl, rfl, trivial⟩ | (refine ⟨by omega, ?_⟩; (conv => whnf); exact ⟨rfl, rfl, trivial⟩))); (conv => whnf))
    (apply Exists.intro; apply And.intro; (focus ((conv => whnf); first | exact ⟨rfl, rfl, trivial⟩ | (refine ⟨by omega, ?_⟩; (conv => whnf); exact ⟨rfl, rfl, trivial⟩))); (conv => whnf))
    (apply Exists.intro; apply And.intro; (focus ((conv => whnf); first | exact ⟨rfl, rfl, trivial⟩ | (refine ⟨by omega, ?_⟩; (conv => whnf); exact ⟨rfl, rfl, trivial⟩))); (conv => whnf))
    exact ⟨(by rw [encV_is hb (by rw [hl]; exact hlen), hl] <;> rfl), (Ext.refl _).push _ |>.set (Ext.refl _).len _⟩
  by_cases h2 : m.kind = 2
  · have hk := h2
    have n1 : ¬ m.kind = 1 := by omega
    have n3 : ¬ m.kind = 3 := by omega
    have n4 : ¬ m.kind = 4 := by omega
    have n5 : ¬ m.kind = 5 := by omega
    refine ⟨fun h => ?_, fun h => ?_⟩
    · exact (n1 h).elim
    (conv => whnf)
    refine ⟨fun h => ?_, fun h => ?_⟩
    rotate_left
    · exact (h hk).elim
    (conv => whnf)
    rw [if_neg n1] at hm
    rw [if_pos hk] at hm
    simp only [Bool.and_eq_true] at hm
    have g1 := tick_len hm.1.1.1.1
    have g2 := inZ_le hm.1.1.1.2
    have g3 := princ_len hm.1.1.2
    have e0 := ticketE_len m.t1 m.t2 m.tKv m.tB
    have e1 := wrapB_len 4 m.tAu
    have e2 := princE_len m.t3 m.t4
    have e3 := intE_len m.tTill
    have e4 := intE_len m.tNonce
    have hw := wrapB_len 108 [ticketE m.t1 m.t2 m.tKv m.tB, wrapB 4 m.tAu, princE m.t3 m.t4, intE m.tTill, intE m.tNonce].flatten
    simp only [List.flatten_cons, List.flatten_nil, List.length_append, List.length_nil] at hw
    have hlen : (wrapB 108 [ticketE m.t1 m.t2 m.tKv m.tB, wrapB 4 m.tAu, princE m.t3 m.t4, intE m.tTill, intE m.tNonce].flatten).length ≤ 2000 := by simp only [List.flatten_cons, List.flatten_nil]; omega
    have hl : laidB m = wrapB 108 [ticketE m.t1 m.t2 m.tKv m.tB, wrapB 4 m.tAu, princE m.t3 m.t4, intE m.tTill, intE m.tNonce].flatten := by unfold laidB; rw [if_neg n1]; rw [if_pos hk]
    ((conv in (_[_]?) => tactic => exact get_last _ _); (conv => whnf))
    refine drawK_pure2 (by kernel_rfl) ?_
    (conv => whnf)
    (apply Exists.intro; apply And.intro; (focus ((conv => whnf); first | exact ⟨rfl, rfl, trivial⟩ | (refine ⟨by omega, ?_⟩; (conv => whnf); exact ⟨rfl, rfl, trivial⟩))); (conv => whnf))
    apply Exists.intro
    apply And.intro
    focus
      (conv => whnf)
      ((conv in (_[_]?) => tactic => exact get_set (get_last _ _)); (conv => whnf))
      exact ⟨rfl, rfl, trivial⟩
    (conv => whnf)
    refine ⟨_, callK_pure (c102 m.t1 m.t2 m.tKv m.tB none (by omega) (by omega) (by omega)) ⟨rfl, rfl, trivial⟩, ?_⟩
    (conv => whnf)
    (apply Exists.intro; apply And.intro; (focus ((conv => whnf); first | exact ⟨rfl, rfl, trivial⟩ | (refine ⟨by omega, ?_⟩; (conv => whnf); exact ⟨rfl, rfl, trivial⟩))); (conv => whnf))
    apply Exists.intro
    apply And.intro
    focus
      (conv => whnf)
      ((conv in (_[_]?) => tactic => exact get_set (get_last _ _)); (conv => whnf))
      exact ⟨rfl, rfl, trivial⟩
    (conv => whnf)
    refine ⟨_, callK_pure (c72 m.tAu none (by omega)) ⟨rfl, rfl, trivial⟩, ?_⟩
    (conv => whnf)
    (apply Exists.intro; apply And.intro; (focus ((conv => whnf); first | exact ⟨rfl, rfl, trivial⟩ | (refine ⟨by omega, ?_⟩; (conv => whnf); exact ⟨rfl, rfl, trivial⟩))); (conv => whnf))
    apply Exists.intro
    apply And.intro
    focus
      (conv => whnf)
      ((conv in (_[_]?) => tactic => exact get_set (get_last _ _)); (conv => whnf))
      exact ⟨rfl, rfl, trivial⟩
    (conv => whnf)
    refine ⟨_, callK_pure (c71 m.t3 m.t4 (by omega) (by omega)) ⟨rfl, rfl, trivial⟩, ?_⟩
    (conv => whnf)
    (apply Exists.intro; apply And.intro; (focus ((conv => whnf); first | exact ⟨rfl, rfl, trivial⟩ | (refine ⟨by omega, ?_⟩; (conv => whnf); exact ⟨rfl, rfl, trivial⟩))); (conv => whnf))
    apply Exists.intro
    apply And.intro
    focus
      (conv => whnf)
      ((conv in (_[_]?) => tactic => exact get_set (get_last _ _)); (conv => whnf))
      exact ⟨rfl, rfl, trivial⟩
    (conv => whnf)
    refine ⟨_, callK_pure (c74 m.tTill) ⟨rfl, rfl, trivial⟩, ?_⟩
    (conv => whnf)
    (apply Exists.intro; apply And.intro; (focus ((conv => whnf); first | exact ⟨rfl, rfl, trivial⟩ | (refine ⟨by omega, ?_⟩; (conv => whnf); exact ⟨rfl, rfl, trivial⟩))); (conv => whnf))
    apply Exists.intro
    apply And.intro
    focus
      (conv => whnf)
      ((conv in (_[_]?) => tactic => exact get_set (get_last _ _)); (conv => whnf))
      exact ⟨rfl, rfl, trivial⟩
    (conv => whnf)
    refine ⟨_, callK_pure (c74 m.tNonce) ⟨rfl, rfl, trivial⟩, ?_⟩
    (conv => whnf)
    (apply Exists.intro; apply And.intro; (focus ((conv => whnf); first | exact ⟨rfl, rfl, trivial⟩ | (refine ⟨by omega, ?_⟩; (conv => whnf); exact ⟨rfl, rfl, trivial⟩))); (conv => whnf))
    refine ⟨_, callK_pure (c70 108 [ticketE m.t1 m.t2 m.tKv m.tB, wrapB 4 m.tAu, princE m.t3 m.t4, intE m.tTill, intE m.tNonce] (by simp) (by simp only [List.flatten_cons, List.flatten_nil, List.length_append, List.length_nil]; omega)) ⟨rfl, rfl, trivial⟩, ?_⟩
    (conv => whnf)
    refine ⟨_, callK_pure (c69 _ hlen) ⟨rfl, rfl, trivial⟩, ?_⟩
    (conv => whnf)
    (apply Exists.intro; apply And.intro; (focus ((conv => whnf); first | exact ⟨rfl, rfl, trivial⟩ | (refine ⟨by omega, ?_⟩; (conv => whnf); exact ⟨rfl, rfl, trivial⟩))); (conv => whnf))
    (apply Exists.intro; apply And.intro; (focus ((conv => whnf); first | exact ⟨rfl, rfl, trivial⟩ | (refine ⟨by omega, ?_⟩; (conv => whnf); exact ⟨rfl, rfl, trivial⟩))); (conv => whnf))
    (apply Exists.intro; apply And.intro; (focus ((conv => whnf); first | exact ⟨rfl, rfl, trivial⟩ | (refine ⟨by omega, ?_⟩; (conv => whnf); exact ⟨rfl, rfl, trivial⟩))); (conv => whnf))
    (apply Exists.intro; apply And.intro; (focus ((conv => whnf); first | exact ⟨rfl, rfl, trivial⟩ | (refine ⟨by omega, ?_⟩; (conv => whnf); exact ⟨rfl, rfl, trivial⟩))); (conv => whnf))
    exact ⟨(by rw [encV_is hb (by rw [hl]; exact hlen), hl] <;> rfl), (Ext.refl _).push _ |>.set (Ext.refl _).len _⟩
  by_cases h3 : m.kind = 3
  · have hk := h3
    have n1 : ¬ m.kind = 1 := by omega
    have n2 : ¬ m.kind = 2 := by omega
    have n4 : ¬ m.kind = 4 := by omega
    have n5 : ¬ m.kind = 5 := by omega
    refine ⟨fun h => ?_, fun h => ?_⟩
    · exact (n1 h).elim
    (conv => whnf)
    refine ⟨fun h => ?_, fun h => ?_⟩
    · exact (n2 h).elim
    (conv => whnf)
    refine ⟨fun h => ?_, fun h => ?_⟩
    rotate_left
    · exact (h hk).elim
    (conv => whnf)
    rw [if_neg n1] at hm
    rw [if_neg n2] at hm
    rw [if_pos hk] at hm
    simp only [Bool.and_eq_true] at hm
    have g1 := princ_len hm.1.1
    have g2 := tick_len hm.1.2
    have g3 := inZ_le hm.2
    have e0 := princE_len m.r1 m.r2
    have e1 := ticketE_len m.r3 m.r4 m.rKv m.rB
    have e2 := wrapB_len 4 m.rBl
    have hw := wrapB_len 107 [princE m.r1 m.r2, ticketE m.r3 m.r4 m.rKv m.rB, wrapB 4 m.rBl].flatten
    simp only [List.flatten_cons, List.flatten_nil, List.length_append, List.length_nil] at hw
    have hlen : (wrapB 107 [princE m.r1 m.r2, ticketE m.r3 m.r4 m.rKv m.rB, wrapB 4 m.rBl].flatten).length ≤ 2000 := by simp only [List.flatten_cons, List.flatten_nil]; omega
    have hl : laidB m = wrapB 107 [princE m.r1 m.r2, ticketE m.r3 m.r4 m.rKv m.rB, wrapB 4 m.rBl].flatten := by unfold laidB; rw [if_neg n1]; rw [if_neg n2]; rw [if_pos hk]
    refine drawK_pure2 (by kernel_rfl) ?_
    (conv => whnf)
    (apply Exists.intro; apply And.intro; (focus ((conv => whnf); first | exact ⟨rfl, rfl, trivial⟩ | (refine ⟨by omega, ?_⟩; (conv => whnf); exact ⟨rfl, rfl, trivial⟩))); (conv => whnf))
    (apply Exists.intro; apply And.intro; (focus ((conv => whnf); first | exact ⟨rfl, rfl, trivial⟩ | (refine ⟨by omega, ?_⟩; (conv => whnf); exact ⟨rfl, rfl, trivial⟩))); (conv => whnf))
    (apply Exists.intro; apply And.intro; (focus ((conv => whnf); first | exact ⟨rfl, rfl, trivial⟩ | (refine ⟨by omega, ?_⟩; (conv => whnf); exact ⟨rfl, rfl, trivial⟩))); (conv => whnf))
    refine ⟨_, callK_pure (c71 m.r1 m.r2 (by omega) (by omega)) ⟨rfl, rfl, trivial⟩, ?_⟩
    (conv => whnf)
    (apply Exists.intro; apply And.intro; (focus ((conv => whnf); first | exact ⟨rfl, rfl, trivial⟩ | (refine ⟨by omega, ?_⟩; (conv => whnf); exact ⟨rfl, rfl, trivial⟩))); (conv => whnf))
    (apply Exists.intro; apply And.intro; (focus ((conv => whnf); first | exact ⟨rfl, rfl, trivial⟩ | (refine ⟨by omega, ?_⟩; (conv => whnf); exact ⟨rfl, rfl, trivial⟩))); (conv => whnf))
    (apply Exists.intro; apply And.intro; (focus ((conv => whnf); first | exact ⟨rfl, rfl, trivial⟩ | (refine ⟨by omega, ?_⟩; (conv => whnf); exact ⟨rfl, rfl, trivial⟩))); (conv => whnf))
    refine ⟨_, callK_pure (c102 m.r3 m.r4 m.rKv m.rB none (by omega) (by omega) (by omega)) ⟨rfl, rfl, trivial⟩, ?_⟩
    (conv => whnf)
    (apply Exists.intro; apply And.intro; (focus ((conv => whnf); first | exact ⟨rfl, rfl, trivial⟩ | (refine ⟨by omega, ?_⟩; (conv => whnf); exact ⟨rfl, rfl, trivial⟩))); (conv => whnf))
    (apply Exists.intro; apply And.intro; (focus ((conv => whnf); first | exact ⟨rfl, rfl, trivial⟩ | (refine ⟨by omega, ?_⟩; (conv => whnf); exact ⟨rfl, rfl, trivial⟩))); (conv => whnf))
    (apply Exists.intro; apply And.intro; (focus ((conv => whnf); first | exact ⟨rfl, rfl, trivial⟩ | (refine ⟨by omega, ?_⟩; (conv => whnf); exact ⟨rfl, rfl, trivial⟩))); (conv => whnf))
    refine ⟨_, callK_pure (c72 m.rBl none (by omega)) ⟨rfl, rfl, trivial⟩, ?_⟩
    (conv => whnf)
    (apply Exists.intro; apply And.intro; (focus ((conv => whnf); first | exact ⟨rfl, rfl, trivial⟩ | (refine ⟨by omega, ?_⟩; (conv => whnf); exact ⟨rfl, rfl, trivial⟩))); (conv => whnf))
    refine ⟨_, callK_pure (c70 107 [princE m.r1 m.r2, ticketE m.r3 m.r4 m.rKv m.rB, wrapB 4 m.rBl] (by simp) (by simp only [List.flatten_cons, List.flatten_nil, List.length_append, List.length_nil]; omega)) ⟨rfl, rfl, trivial⟩, ?_⟩
    (conv => whnf)
    refine ⟨_, callK_pure (c69 _ hlen) ⟨rfl, rfl, trivial⟩, ?_⟩
    (conv => whnf)
    (apply Exists.intro; apply And.intro; (focus ((conv => whnf); first | exact ⟨rfl, rfl, trivial⟩ | (refine ⟨by omega, ?_⟩; (conv => whnf); exact ⟨rfl, rfl, trivial⟩))); (conv => whnf))
    (apply Exists.intro; apply And.intro; (focus ((conv => whnf); first | exact ⟨rfl, rfl, trivial⟩ | (refine ⟨by omega, ?_⟩; (conv => whnf); exact ⟨rfl, rfl, trivial⟩))); (conv => whnf))
    (apply Exists.intro; apply And.intro; (focus ((conv => whnf); first | exact ⟨rfl, rfl, trivial⟩ | (refine ⟨by omega, ?_⟩; (conv => whnf); exact ⟨rfl, rfl, trivial⟩))); (conv => whnf))
    (apply Exists.intro; apply And.intro; (focus ((conv => whnf); first | exact ⟨rfl, rfl, trivial⟩ | (refine ⟨by omega, ?_⟩; (conv => whnf); exact ⟨rfl, rfl, trivial⟩))); (conv => whnf))
    exact ⟨(by rw [encV_is hb (by rw [hl]; exact hlen), hl] <;> rfl), Ext.refl _⟩
  by_cases h4 : m.kind = 4
  · have hk := h4
    have n1 : ¬ m.kind = 1 := by omega
    have n2 : ¬ m.kind = 2 := by omega
    have n3 : ¬ m.kind = 3 := by omega
    have n5 : ¬ m.kind = 5 := by omega
    refine ⟨fun h => ?_, fun h => ?_⟩
    · exact (n1 h).elim
    (conv => whnf)
    refine ⟨fun h => ?_, fun h => ?_⟩
    · exact (n2 h).elim
    (conv => whnf)
    refine ⟨fun h => ?_, fun h => ?_⟩
    · exact (n3 h).elim
    (conv => whnf)
    refine ⟨fun h => ?_, fun h => ?_⟩
    rotate_left
    · exact (h hk).elim
    (conv => whnf)
    rw [if_neg n1] at hm
    rw [if_neg n2] at hm
    rw [if_neg n3] at hm
    rw [if_pos hk] at hm
    simp only [Bool.and_eq_true] at hm
    have g1 := tick_len hm.1
    have g2 := inZ_le hm.2
    have e0 := ticketE_len m.p1 m.p2 m.pKv m.pB
    have e1 := wrapB_len 4 m.pAu
    have hw := wrapB_len 110 [ticketE m.p1 m.p2 m.pKv m.pB, wrapB 4 m.pAu].flatten
    simp only [List.flatten_cons, List.flatten_nil, List.length_append, List.length_nil] at hw
    have hlen : (wrapB 110 [ticketE m.p1 m.p2 m.pKv m.pB, wrapB 4 m.pAu].flatten).length ≤ 2000 := by simp only [List.flatten_cons, List.flatten_nil]; omega
    have hl : laidB m = wrapB 110 [ticketE m.p1 m.p2 m.pKv m.pB, wrapB 4 m.pAu].flatten := by unfold laidB; rw [if_neg n1]; rw [if_neg n2]; rw [if_neg n3]; rw [if_pos hk]
    refine drawK_pure2 (by kernel_rfl) ?_
    (conv => whnf)
    (apply Exists.intro; apply And.intro; (focus ((conv => whnf); first | exact ⟨rfl, rfl, trivial⟩ | (refine ⟨by omega, ?_⟩; (conv => whnf); exact ⟨rfl, rfl, trivial⟩))); (conv => whnf))
    (apply Exists.intro; apply And.intro; (focus ((conv => whnf); first | exact ⟨rfl, rfl, trivial⟩ | (refine ⟨by omega, ?_⟩; (conv => whnf); exact ⟨rfl, rfl, trivial⟩))); (conv => whnf))
    (apply Exists.intro; apply And.intro; (focus ((conv => whnf); first | exact ⟨rfl, rfl, trivial⟩ | (refine ⟨by omega, ?_⟩; (conv => whnf); exact ⟨rfl, rfl, trivial⟩))); (conv => whnf))
    refine ⟨_, callK_pure (c102 m.p1 m.p2 m.pKv m.pB none (by omega) (by omega) (by omega)) ⟨rfl, rfl, trivial⟩, ?_⟩
    (conv => whnf)
    (apply Exists.intro; apply And.intro; (focus ((conv => whnf); first | exact ⟨rfl, rfl, trivial⟩ | (refine ⟨by omega, ?_⟩; (conv => whnf); exact ⟨rfl, rfl, trivial⟩))); (conv => whnf))
    (apply Exists.intro; apply And.intro; (focus ((conv => whnf); first | exact ⟨rfl, rfl, trivial⟩ | (refine ⟨by omega, ?_⟩; (conv => whnf); exact ⟨rfl, rfl, trivial⟩))); (conv => whnf))
    (apply Exists.intro; apply And.intro; (focus ((conv => whnf); first | exact ⟨rfl, rfl, trivial⟩ | (refine ⟨by omega, ?_⟩; (conv => whnf); exact ⟨rfl, rfl, trivial⟩))); (conv => whnf))
    refine ⟨_, callK_pure (c72 m.pAu none (by omega)) ⟨rfl, rfl, trivial⟩, ?_⟩
    (conv => whnf)
    (apply Exists.intro; apply And.intro; (focus ((conv => whnf); first | exact ⟨rfl, rfl, trivial⟩ | (refine ⟨by omega, ?_⟩; (conv => whnf); exact ⟨rfl, rfl, trivial⟩))); (conv => whnf))
    refine ⟨_, callK_pure (c70 110 [ticketE m.p1 m.p2 m.pKv m.pB, wrapB 4 m.pAu] (by simp) (by simp only [List.flatten_cons, List.flatten_nil, List.length_append, List.length_nil]; omega)) ⟨rfl, rfl, trivial⟩, ?_⟩
    (conv => whnf)
    refine ⟨_, callK_pure (c69 _ hlen) ⟨rfl, rfl, trivial⟩, ?_⟩
    (conv => whnf)
    (apply Exists.intro; apply And.intro; (focus ((conv => whnf); first | exact ⟨rfl, rfl, trivial⟩ | (refine ⟨by omega, ?_⟩; (conv => whnf); exact ⟨rfl, rfl, trivial⟩))); (conv => whnf))
    (apply Exists.intro; apply And.intro; (focus ((conv => whnf); first | exact ⟨rfl, rfl, trivial⟩ | (refine ⟨by omega, ?_⟩; (conv => whnf); exact ⟨rfl, rfl, trivial⟩))); (conv => whnf))
    (apply Exists.intro; apply And.intro; (focus ((conv => whnf); first | exact ⟨rfl, rfl, trivial⟩ | (refine ⟨by omega, ?_⟩; (conv => whnf); exact ⟨rfl, rfl, trivial⟩))); (conv => whnf))
    (apply Exists.intro; apply And.intro; (focus ((conv => whnf); first | exact ⟨rfl, rfl, trivial⟩ | (refine ⟨by omega, ?_⟩; (conv => whnf); exact ⟨rfl, rfl, trivial⟩))); (conv => whnf))
    exact ⟨(by rw [encV_is hb (by rw [hl]; exact hlen), hl] <;> rfl), Ext.refl _⟩
  have n1 : ¬ m.kind = 1 := h1
  have n2 : ¬ m.kind = 2 := h2
  have n3 : ¬ m.kind = 3 := h3
  have n4 : ¬ m.kind = 4 := h4
  refine ⟨fun h => ?_, fun h => ?_⟩
  · exact (n1 h).elim
  (conv => whnf)
  refine ⟨fun h => ?_, fun h => ?_⟩
  · exact (n2 h).elim
  (conv => whnf)
  refine ⟨fun h => ?_, fun h => ?_⟩
  · exact (n3 h).elim
  (conv => whnf)
  refine ⟨fun h => ?_, fun h => ?_⟩
  · exact (n4 h).elim
  (conv => whnf)
  by_cases hk : m.kind = 5
  · skip
    rw [if_neg n1] at hm
    rw [if_neg n2] at hm
    rw [if_neg n3] at hm
    rw [if_neg n4] at hm
    rw [if_pos hk] at hm
    simp only [Bool.and_eq_true] at hm
    have e0 := intE_len m.fErr
    have e1 := intE_len m.fNonce
    have hw := wrapB_len 126 [intE m.fErr, intE m.fNonce].flatten
    simp only [List.flatten_cons, List.flatten_nil, List.length_append, List.length_nil] at hw
    have hlen : (wrapB 126 [intE m.fErr, intE m.fNonce].flatten).length ≤ 2000 := by simp only [List.flatten_cons, List.flatten_nil]; omega
    have hl : laidB m = wrapB 126 [intE m.fErr, intE m.fNonce].flatten := by unfold laidB; rw [if_neg n1]; rw [if_neg n2]; rw [if_neg n3]; rw [if_neg n4]; skip
    refine drawK_pure2 (by kernel_rfl) ?_
    (conv => whnf)
    (apply Exists.intro; apply And.intro; (focus ((conv => whnf); first | exact ⟨rfl, rfl, trivial⟩ | (refine ⟨by omega, ?_⟩; (conv => whnf); exact ⟨rfl, rfl, trivial⟩))); (conv => whnf))
    (apply Exists.intro; apply And.intro; (focus ((conv => whnf); first | exact ⟨rfl, rfl, trivial⟩ | (refine ⟨by omega, ?_⟩; (conv => whnf); exact ⟨rfl, rfl, trivial⟩))); (conv => whnf))
    (apply Exists.intro; apply And.intro; (focus ((conv => whnf); first | exact ⟨rfl, rfl, trivial⟩ | (refine ⟨by omega, ?_⟩; (conv => whnf); exact ⟨rfl, rfl, trivial⟩))); (conv => whnf))
    refine ⟨_, callK_pure (c74 m.fErr) ⟨rfl, rfl, trivial⟩, ?_⟩
    (conv => whnf)
    (apply Exists.intro; apply And.intro; (focus ((conv => whnf); first | exact ⟨rfl, rfl, trivial⟩ | (refine ⟨by omega, ?_⟩; (conv => whnf); exact ⟨rfl, rfl, trivial⟩))); (conv => whnf))
    (apply Exists.intro; apply And.intro; (focus ((conv => whnf); first | exact ⟨rfl, rfl, trivial⟩ | (refine ⟨by omega, ?_⟩; (conv => whnf); exact ⟨rfl, rfl, trivial⟩))); (conv => whnf))
    (apply Exists.intro; apply And.intro; (focus ((conv => whnf); first | exact ⟨rfl, rfl, trivial⟩ | (refine ⟨by omega, ?_⟩; (conv => whnf); exact ⟨rfl, rfl, trivial⟩))); (conv => whnf))
    refine ⟨_, callK_pure (c74 m.fNonce) ⟨rfl, rfl, trivial⟩, ?_⟩
    (conv => whnf)
    (apply Exists.intro; apply And.intro; (focus ((conv => whnf); first | exact ⟨rfl, rfl, trivial⟩ | (refine ⟨by omega, ?_⟩; (conv => whnf); exact ⟨rfl, rfl, trivial⟩))); (conv => whnf))
    refine ⟨_, callK_pure (c70 126 [intE m.fErr, intE m.fNonce] (by simp) (by simp only [List.flatten_cons, List.flatten_nil, List.length_append, List.length_nil]; omega)) ⟨rfl, rfl, trivial⟩, ?_⟩
    (conv => whnf)
    refine ⟨_, callK_pure (c69 _ hlen) ⟨rfl, rfl, trivial⟩, ?_⟩
    (conv => whnf)
    (apply Exists.intro; apply And.intro; (focus ((conv => whnf); first | exact ⟨rfl, rfl, trivial⟩ | (refine ⟨by omega, ?_⟩; (conv => whnf); exact ⟨rfl, rfl, trivial⟩))); (conv => whnf))
    (apply Exists.intro; apply And.intro; (focus ((conv => whnf); first | exact ⟨rfl, rfl, trivial⟩ | (refine ⟨by omega, ?_⟩; (conv => whnf); exact ⟨rfl, rfl, trivial⟩))); (conv => whnf))
    (apply Exists.intro; apply And.intro; (focus ((conv => whnf); first | exact ⟨rfl, rfl, trivial⟩ | (refine ⟨by omega, ?_⟩; (conv => whnf); exact ⟨rfl, rfl, trivial⟩))); (conv => whnf))
    (apply Exists.intro; apply And.intro; (focus ((conv => whnf); first | exact ⟨rfl, rfl, trivial⟩ | (refine ⟨by omega, ?_⟩; (conv => whnf); exact ⟨rfl, rfl, trivial⟩))); (conv => whnf))
    exact ⟨(by rw [encV_is hb (by rw [hl]; exact hlen), hl] <;> rfl), Ext.refl _⟩
  · rw [if_neg n1, if_neg n2, if_neg n3, if_neg n4, if_neg hk] at hm
    cases hm
theorem encV_old (m : Msg) : oldR (encV m) = true := by
  unfold encV limV
  split
  · simp [oldR, oldPs, oldP, sl, oldPs_bytes]
  · rfl
theorem c42 (m : Msg) (hm : m.fits) : Pure prog 42 [.agg m.cells] (encV m) := Pure.of_gc (encV_old m) (c42x m hm)
end Go.Proofs.Tryz

set_option maxRecDepth 100000
set_option maxHeartbeats 4000000
set_option linter.unusedVariables false
set_option linter.unusedSimpArgs false
namespace Go.Proofs.Tryz
open Go Ps
structure RakS (T : Nat) (zc : List PV) (B K : PH) (r e q : Nat) (s : Option (List UInt8)) (cells : List PV) (ver : Nat) : Prop where
  z : K[r]? = some ⟨T, zc, 0⟩
  p : K[q]? = some ⟨T, cells, ver⟩
  cur : rcur K e s
  up : Upd (· = e) B K
  lb : B.length ≤ q
  n1 : r ≠ e
  n3 : q ≠ e
  n5 : q ≠ r
theorem RakS.call {T : Nat} {zc : List PV} {B K K' : PH} {r e q : Nat} {s s' : Option (List UInt8)} {cells : List PV} {ver : Nat} (h : RakS T zc B K r e q s cells ver) (u : Upd (· = e) K K') (c : rcur K' e s') :
    RakS T zc B K' r e q s' cells ver := by
  have lt : ∀ {i : Nat} {o : PObj}, K[i]? = some o → i < K.length := fun h => (List.getElem?_eq_some_iff.1 h).1
  exact ⟨(u.2 _ (lt h.z) h.n1).trans h.z, (u.2 _ (lt h.p) h.n3).trans h.p, c, h.up.trans u, h.lb, h.n1, h.n3, h.n5⟩
theorem RakS.store {T : Nat} {zc : List PV} {B K : PH} {r e q : Nat} {s : Option (List UInt8)} {cells : List PV} {ver : Nat} (h : RakS T zc B K r e q s cells ver) (cells' : List PV) (ver' : Nat) :
    RakS T zc B (K.set q ⟨T, cells', ver'⟩) r e q s cells' ver' := by
  refine ⟨?_, get_set h.p, h.cur.set_ne h.n3 _, h.up.set (.inr h.lb) _, h.lb, h.n1, h.n3, h.n5⟩
  rw [List.getElem?_set_ne h.n5]; exact h.z
/-- The place of what is made is new. -/
theorem RakS.new {T : Nat} {zc : List PV} {B K : PH} {r e : Nat} {s : Option (List UInt8)} (hz : B[r]? = some ⟨T, zc, 0⟩) (hr : r ≠ e) (u : Upd (· = e) B K) (c : rcur K e s) (cells : List PV) (ver : Nat) :
    RakS T zc B ((K ++ [PObj.mk T zc 0]).set K.length ⟨T, cells, ver⟩) r e K.length s cells ver := by
  have lt : ∀ {i : Nat} {o : PObj}, B[i]? = some o → i < B.length := fun h => (List.getElem?_eq_some_iff.1 h).1
  have l1 := lt hz
  have l2 := u.1
  have l3 := c.lt
  rw [set_last]
  refine ⟨?_, get_last _ _, c.keep (X := fun _ => False) ((Upd.refl K).push _) (fun f => f), u.push _, l2, hr, by omega, by omega⟩
  rw [List.getElem?_append_left (by omega), u.2 _ l1 hr]; exact hz
def outR (s t : Option (List UInt8)) : Option (List UInt8) := if wholeB t = true then s else none
theorem outR_no {s t : Option (List UInt8)} (h : wholeB t = false) : outR s t = none := if_neg (by rw [h]; decide)
theorem outR_yes {s t : Option (List UInt8)} (h : wholeB t = true) : outR s t = s := if_pos h
theorem outR_none {t : Option (List UInt8)} : outR none t = none := ite_self _
theorem outR_len {s t : Option (List UInt8)} {B : Nat} (h : ∀ l, s = some l → l.length ≤ B) : ∀ l, outR s t = some l → l.length ≤ B := by
  intro l hl
  unfold outR at hl
  split at hl
  · exact h l hl
  · cases hl
theorem rintC_len {s : Option (List UInt8)} {B : Nat} (h : ∀ l, s = some l → l.length ≤ B) : ∀ l, (rintC s).1 = some l → l.length ≤ B := by
  have hl := (elemC_len (tag := 2) h).1
  unfold rintC
  revert hl
  generalize elemC 2 s = q
  obtain ⟨s', o⟩ := q
  intro hl l
  cases o with
  | none => intro e; cases e
  | some b =>
    show (if okR b = true then (s', numR b) else (none, 0)).1 = some l → _
    split
    · exact hl l
    · intro e; cases e
def princR (s : Option (List UInt8)) : Option (List UInt8) × (List UInt8 × List UInt8) :=
  (outR (elemC 48 s).1 (txtC (txtC (elemC 48 s).2).1).1, ((txtC (elemC 48 s).2).2, (txtC (txtC (elemC 48 s).2).1).2))
def tickRD (s : Option (List UInt8)) : Tk := ⟨(princR s).2.1, (princR s).2.2, (rintC (princR s).1).2, (octC (rintC (princR s).1).1).2⟩
def tickR (s : Option (List UInt8)) : Option (List UInt8) × Tk :=
  (outR (elemC 97 s).1 (octC (rintC (princR (elemC 97 s).2).1).1).1, tickRD (elemC 97 s).2)
theorem c54 (c : Nat) (s : Option (List UInt8)) (H : PH) (hc : rcur H c s) (hl : ∀ l, s = some l → l.length ≤ 140737488355328) :
    CallOk prog 54 [.ptr (some (c, 0))] H fun r H' => r = .agg [.str (princR s).2.1, .str (princR s).2.2] ∧ Upd (· = c) H H' ∧ rcur H' c (princR s).1 := by
  have hd := hc.lt
  have g0 := elemC_len (tag := 48) hl
  have hs0 : ∀ l, (elemC 48 s).2 = some l → l.length ≤ 140737488355328 := fun l h => (g0.2 l h).1
  have hs1 := (elemC_len (tag := 27) hs0).1
  (refine callOk_of_pFun2 (tt := ttL) (imm := imm54) follows ttL_ok depth6 func54 (by kernel_rfl) ?_; (conv => whnf))
  obtain ⟨H1, hH1⟩ : ∃ H1, H1 = H ++ [PObj.mk 24 [.str [], .str []] 0] := ⟨_, rfl⟩
  have hl1 : H1.length = H.length + 1 := by rw [hH1]; simp
  have h0 : H1[H.length]? = some ⟨24, [.str [], .str []], 0⟩ := by rw [hH1]; exact get_last _ _
  have u1 : Upd (· = c) H H1 := by rw [hH1]; exact (Upd.refl H).push _
  have hc1 : rcur H1 c s := hc.keep (X := fun _ => False) (by rw [hH1]; exact (Upd.refl H).push _) (fun f => f)
  rw [← hH1]
  refine callK_of (c53 c 48 s H1 hc1 hl) ?_
  rintro _ H2 ⟨e, rfl, k1, k2, k3, k4⟩
  have hle := k4.lt
  have uB : Upd (· = c) H H2 := u1.trans k2
  have h2z : H2[H.length]? = some ⟨24, [.str [], .str []], 0⟩ := by rw [k2.2 _ (by omega) (by omega)]; exact h0
  (conv => whnf)
  refine callK_of (c83 e _ H2 k4 hs0) ?_
  rintro _ K1 ⟨rfl, u4, g4⟩
  have D1 := RakS.new h2z (by omega) u4 g4 [.str (txtC (elemC 48 s).2).2, .str []] 1
  (conv => whnf)
  ((conv in (_[_]?) => tactic => exact get_last _ _); (conv => whnf))
  refine callK_of (c83 e _ _ D1.cur hs1) ?_
  rintro _ K2 ⟨rfl, u5, g5⟩
  have D2 := D1.call u5 g5
  (conv => whnf)
  ((conv in (_[_]?) => tactic => exact D2.p); (conv => whnf))
  have D3 := D2.store [.str (txtC (elemC 48 s).2).2, .str (txtC (txtC (elemC 48 s).2).1).2] 2
  have o3 : rcur _ c (elemC 48 s).1 := k3.keep D3.up (by omega)
  have hq := D3.lb
  have fin : ∀ (s' : Option (List UInt8)) (bc : List UInt8) (vc : Nat), (∀ l, s' = some l → bc = l) → ∀ (hcc : (K2.set K1.length (PObj.mk 24 [.str (txtC (elemC 48 s).2).2, .str (txtC (txtC (elemC 48 s).2).1).2] 2))[c]? = some ⟨126, [sl bc, .bool (elemC 48 s).1.isNone], vc⟩) (o : PObj),
      Upd (· = c) H (((K2.set K1.length (PObj.mk 24 [.str (txtC (elemC 48 s).2).2, .str (txtC (txtC (elemC 48 s).2).1).2] 2)).set c ⟨126, [sl bc, .bool s'.isNone], vc + 1⟩).set H.length o) ∧
      rcur (((K2.set K1.length (PObj.mk 24 [.str (txtC (elemC 48 s).2).2, .str (txtC (txtC (elemC 48 s).2).1).2] 2)).set c ⟨126, [sl bc, .bool s'.isNone], vc + 1⟩).set H.length o) c s' := fun s' bc vc hb hcc o => by
    have uF := uB.over D3.up (fun i hi h => by omega)
    refine ⟨(uF.set (.inl rfl) _).set (.inr (Nat.le_refl _)) _, ?_⟩
    exact rcur.set_ne ⟨bc, vc + 1, get_set hcc, hb⟩ (by omega) _
  have hpz : ∀ (o : PObj), ((K2.set K1.length (PObj.mk 24 [.str (txtC (elemC 48 s).2).2, .str (txtC (txtC (elemC 48 s).2).1).2] 2)).set c o)[K1.length]? = some ⟨24, [.str (txtC (elemC 48 s).2).2, .str (txtC (txtC (elemC 48 s).2).1).2], 2⟩ := fun o => by
    rw [List.getElem?_set_ne (by omega)]; exact D3.p
  have hzz : ∀ (o : PObj), ((K2.set K1.length (PObj.mk 24 [.str (txtC (elemC 48 s).2).2, .str (txtC (txtC (elemC 48 s).2).1).2] 2)).set c o)[H.length]? = some ⟨24, [.str [], .str []], 0⟩ := fun o => by
    rw [List.getElem?_set_ne (by omega)]; exact D3.z
  unfold princR
  obtain ⟨bc, vc, hcc, hxc⟩ := o3
  ((conv in (_[_]?) => tactic => exact hcc); (conv => whnf))
  revert hcc hxc fin
  generalize (elemC 48 s).1 = s1
  intro fin hcc hxc
  cases s1 with
  | none =>
    rw [outR_none]
    (conv => whnf)
    ((conv in (_[_]?) => tactic => exact hcc); (conv => whnf))
    ((conv in (_[_]?) => tactic => exact hpz _); (conv => whnf))
    ((conv in (_[_]?) => tactic => exact hzz _); (conv => whnf))
    ((conv in (_[_]?) => tactic => exact get_set (hzz _)); (conv => whnf))
    exact ⟨rfl, fin none bc vc (fun l h => by cases h) hcc _⟩
  | some l =>
    (conv => whnf)
    refine callK_of (c115 e _ _ D3.cur) ?_
    rintro _ _ ⟨rfl, rfl⟩
    have hbl := hxc l rfl
    subst hbl
    show _
    cases hw : wholeB (txtC (txtC (elemC 48 s).2).1).1
    · have e1 : outR (some bc) (txtC (txtC (elemC 48 s).2).1).1 = none := outR_no hw
      rw [e1]
      (conv => whnf)
      ((conv in (_[_]?) => tactic => exact hcc); (conv => whnf))
      ((conv in (_[_]?) => tactic => exact hpz _); (conv => whnf))
      ((conv in (_[_]?) => tactic => exact hzz _); (conv => whnf))
      ((conv in (_[_]?) => tactic => exact get_set (hzz _)); (conv => whnf))
      exact ⟨rfl, fin none bc vc (fun l h => by cases h) hcc _⟩
    · have e1 : outR (some bc) (txtC (txtC (elemC 48 s).2).1).1 = some bc := outR_yes hw
      rw [e1]
      (conv => whnf)
      ((conv in (_[_]?) => tactic => exact hcc); (conv => whnf))
      ((conv in (_[_]?) => tactic => exact hpz _); (conv => whnf))
      ((conv in (_[_]?) => tactic => exact hzz _); (conv => whnf))
      ((conv in (_[_]?) => tactic => exact get_set (hzz _)); (conv => whnf))
      exact ⟨rfl, fin (some bc) bc vc (fun l h => Option.some.inj h) hcc _⟩
end Go.Proofs.Tryz

set_option maxRecDepth 100000
set_option maxHeartbeats 4000000
set_option linter.unusedVariables false
set_option linter.unusedSimpArgs false
namespace Go.Proofs.Tryz
open Go Ps
theorem c56 (c : Nat) (s : Option (List UInt8)) (H : PH) (hc : rcur H c s) (hl : ∀ l, s = some l → l.length ≤ 140737488355328) :
    CallOk prog 56 [.ptr (some (c, 0))] H fun r H' => r = .agg [.str (tickR s).2.r, .str (tickR s).2.n, .int .i64 (tickR s).2.kv, sl (tickR s).2.b] ∧ Upd (· = c) H H' ∧ rcur H' c (tickR s).1 := by
  have hd := hc.lt
  have g0 := elemC_len (tag := 97) hl
  have hs0 : ∀ l, (elemC 97 s).2 = some l → l.length ≤ 140737488355328 := fun l h => (g0.2 l h).1
  have hs1 : ∀ l, (princR (elemC 97 s).2).1 = some l → l.length ≤ 140737488355328 := outR_len (elemC_len (tag := 48) hs0).1
  have hs2 := rintC_len hs1
  (refine callOk_of_pFun2 (tt := ttL) (imm := imm56) follows ttL_ok depth6 func56 (by kernel_rfl) ?_; (conv => whnf))
  obtain ⟨H1, hH1⟩ : ∃ H1, H1 = H ++ [PObj.mk 28 [.str [], .str [], .int .i64 0, .slice 0 [] (some 5)] 0] := ⟨_, rfl⟩
  have hl1 : H1.length = H.length + 1 := by rw [hH1]; simp
  have h0 : H1[H.length]? = some ⟨28, [.str [], .str [], .int .i64 0, .slice 0 [] (some 5)], 0⟩ := by rw [hH1]; exact get_last _ _
  have u1 : Upd (· = c) H H1 := by rw [hH1]; exact (Upd.refl H).push _
  have hc1 : rcur H1 c s := hc.keep (X := fun _ => False) (by rw [hH1]; exact (Upd.refl H).push _) (fun f => f)
  rw [← hH1]
  refine callK_of (c53 c 97 s H1 hc1 hl) ?_
  rintro _ H2 ⟨e, rfl, k1, k2, k3, k4⟩
  have hle := k4.lt
  have uB : Upd (· = c) H H2 := u1.trans k2
  have h2z : H2[H.length]? = some ⟨28, [.str [], .str [], .int .i64 0, .slice 0 [] (some 5)], 0⟩ := by rw [k2.2 _ (by omega) (by omega)]; exact h0
  (conv => whnf)
  refine callK_of (c54 e _ H2 k4 hs0) ?_
  rintro _ K1 ⟨rfl, u4, g4⟩
  have D1 := RakS.new h2z (by omega) u4 g4 [.str (princR (elemC 97 s).2).2.1, .str (princR (elemC 97 s).2).2.2, .int .i64 0, .slice 0 [] (some 5)] 1
  (conv => whnf)
  ((conv in (_[_]?) => tactic => exact get_last _ _); (conv => whnf))
  refine callK_of (c55 e _ _ D1.cur hs1) ?_
  rintro _ K2 ⟨rfl, u5, g5⟩
  have D2 := D1.call u5 g5
  (conv => whnf)
  ((conv in (_[_]?) => tactic => exact D2.p); (conv => whnf))
  have D3 := D2.store [.str (princR (elemC 97 s).2).2.1, .str (princR (elemC 97 s).2).2.2, .int .i64 (rintC (princR (elemC 97 s).2).1).2, .slice 0 [] (some 5)] 2
  refine callK_of (c57 e _ _ D3.cur hs2) ?_
  rintro _ K3 ⟨rfl, u6, g6⟩
  have D4 := D3.call u6 g6
  (conv => whnf)
  ((conv in (_[_]?) => tactic => exact D4.p); (conv => whnf))
  obtain ⟨F, hF⟩ : ∃ F : List PV, F = [.str (princR (elemC 97 s).2).2.1, .str (princR (elemC 97 s).2).2.2, .int .i64 (rintC (princR (elemC 97 s).2).1).2, sl (octC (rintC (princR (elemC 97 s).2).1).1).2] := ⟨_, rfl⟩
  have D5 := D4.store [.str (princR (elemC 97 s).2).2.1, .str (princR (elemC 97 s).2).2.2, .int .i64 (rintC (princR (elemC 97 s).2).1).2, sl (octC (rintC (princR (elemC 97 s).2).1).1).2] 3
  have o3 : rcur _ c (elemC 97 s).1 := k3.keep D5.up (by omega)
  have hq := D5.lb
  have fin : ∀ (s' : Option (List UInt8)) (bc : List UInt8) (vc : Nat), (∀ l, s' = some l → bc = l) → ∀ (hcc : (K3.set K1.length (PObj.mk 28 [.str (princR (elemC 97 s).2).2.1, .str (princR (elemC 97 s).2).2.2, .int .i64 (rintC (princR (elemC 97 s).2).1).2, sl (octC (rintC (princR (elemC 97 s).2).1).1).2] 3))[c]? = some ⟨126, [sl bc, .bool (elemC 97 s).1.isNone], vc⟩) (o : PObj),
      Upd (· = c) H (((K3.set K1.length (PObj.mk 28 [.str (princR (elemC 97 s).2).2.1, .str (princR (elemC 97 s).2).2.2, .int .i64 (rintC (princR (elemC 97 s).2).1).2, sl (octC (rintC (princR (elemC 97 s).2).1).1).2] 3)).set c ⟨126, [sl bc, .bool s'.isNone], vc + 1⟩).set H.length o) ∧
      rcur (((K3.set K1.length (PObj.mk 28 [.str (princR (elemC 97 s).2).2.1, .str (princR (elemC 97 s).2).2.2, .int .i64 (rintC (princR (elemC 97 s).2).1).2, sl (octC (rintC (princR (elemC 97 s).2).1).1).2] 3)).set c ⟨126, [sl bc, .bool s'.isNone], vc + 1⟩).set H.length o) c s' := fun s' bc vc hb hcc o => by
    have uF := uB.over D5.up (fun i hi h => by omega)
    refine ⟨(uF.set (.inl rfl) _).set (.inr (Nat.le_refl _)) _, ?_⟩
    exact rcur.set_ne ⟨bc, vc + 1, get_set hcc, hb⟩ (by omega) _
  have hpz : ∀ (o : PObj), ((K3.set K1.length (PObj.mk 28 [.str (princR (elemC 97 s).2).2.1, .str (princR (elemC 97 s).2).2.2, .int .i64 (rintC (princR (elemC 97 s).2).1).2, sl (octC (rintC (princR (elemC 97 s).2).1).1).2] 3)).set c o)[K1.length]? = some ⟨28, [.str (princR (elemC 97 s).2).2.1, .str (princR (elemC 97 s).2).2.2, .int .i64 (rintC (princR (elemC 97 s).2).1).2, sl (octC (rintC (princR (elemC 97 s).2).1).1).2], 3⟩ := fun o => by
    rw [List.getElem?_set_ne (by omega)]; exact D5.p
  have hzz : ∀ (o : PObj), ((K3.set K1.length (PObj.mk 28 [.str (princR (elemC 97 s).2).2.1, .str (princR (elemC 97 s).2).2.2, .int .i64 (rintC (princR (elemC 97 s).2).1).2, sl (octC (rintC (princR (elemC 97 s).2).1).1).2] 3)).set c o)[H.length]? = some ⟨28, [.str [], .str [], .int .i64 0, .slice 0 [] (some 5)], 0⟩ := fun o => by
    rw [List.getElem?_set_ne (by omega)]; exact D5.z
  unfold tickR
  obtain ⟨bc, vc, hcc, hxc⟩ := o3
  ((conv in (_[_]?) => tactic => exact hcc); (conv => whnf))
  revert hcc hxc fin
  generalize (elemC 97 s).1 = s1
  intro fin hcc hxc
  cases s1 with
  | none =>
    rw [outR_none]
    (conv => whnf)
    ((conv in (_[_]?) => tactic => exact hcc); (conv => whnf))
    ((conv in (_[_]?) => tactic => exact hpz _); (conv => whnf))
    ((conv in (_[_]?) => tactic => exact hzz _); (conv => whnf))
    ((conv in (_[_]?) => tactic => exact get_set (hzz _)); (conv => whnf))
    exact ⟨rfl, fin none bc vc (fun l h => by cases h) hcc _⟩
  | some l =>
    (conv => whnf)
    refine callK_of (c115 e _ _ D5.cur) ?_
    rintro _ _ ⟨rfl, rfl⟩
    have hbl := hxc l rfl
    subst hbl
    show _
    cases hw : wholeB (octC (rintC (princR (elemC 97 s).2).1).1).1
    · have e1 : outR (some bc) (octC (rintC (princR (elemC 97 s).2).1).1).1 = none := outR_no hw
      rw [e1]
      (conv => whnf)
      ((conv in (_[_]?) => tactic => exact hcc); (conv => whnf))
      ((conv in (_[_]?) => tactic => exact hpz _); (conv => whnf))
      ((conv in (_[_]?) => tactic => exact hzz _); (conv => whnf))
      ((conv in (_[_]?) => tactic => exact get_set (hzz _)); (conv => whnf))
      exact ⟨rfl, fin none bc vc (fun l h => by cases h) hcc _⟩
    · have e1 : outR (some bc) (octC (rintC (princR (elemC 97 s).2).1).1).1 = some bc := outR_yes hw
      rw [e1]
      (conv => whnf)
      ((conv in (_[_]?) => tactic => exact hcc); (conv => whnf))
      ((conv in (_[_]?) => tactic => exact hpz _); (conv => whnf))
      ((conv in (_[_]?) => tactic => exact hzz _); (conv => whnf))
      ((conv in (_[_]?) => tactic => exact get_set (hzz _)); (conv => whnf))
      exact ⟨rfl, fin (some bc) bc vc (fun l h => Option.some.inj h) hcc _⟩
def rkAs (s : Option (List UInt8)) : Msg := { mZ with kind := 1, a1 := (princR s).2.1, a2 := (princR s).2.2, a3 := (princR (princR s).1).2.1, a4 := (princR (princR s).1).2.2, aTill := (rintC (princR (princR s).1).1).2, aNonce := (rintC (rintC (princR (princR s).1).1).1).2 }
def rkTgs (s : Option (List UInt8)) : Msg := { mZ with kind := 2, t1 := (tickR s).2.r, t2 := (tickR s).2.n, tKv := (tickR s).2.kv, tB := (tickR s).2.b, tBo := none, tAu := (octC (tickR s).1).2, tAuo := none, t3 := (princR (octC (tickR s).1).1).2.1, t4 := (princR (octC (tickR s).1).1).2.2, tTill := (rintC (princR (octC (tickR s).1).1).1).2, tNonce := (rintC (rintC (princR (octC (tickR s).1).1).1).1).2 }
def rkRep (s : Option (List UInt8)) : Msg := { mZ with kind := 3, r1 := (princR s).2.1, r2 := (princR s).2.2, r3 := (tickR (princR s).1).2.r, r4 := (tickR (princR s).1).2.n, rKv := (tickR (princR s).1).2.kv, rB := (tickR (princR s).1).2.b, rBo := none, rBl := (octC (tickR (princR s).1).1).2, rBlo := none }
def rkAp (s : Option (List UInt8)) : Msg := { mZ with kind := 4, p1 := (tickR s).2.r, p2 := (tickR s).2.n, pKv := (tickR s).2.kv, pB := (tickR s).2.b, pBo := none, pAu := (octC (tickR s).1).2, pAuo := none }
def rkFail (s : Option (List UInt8)) : Msg := { mZ with kind := 5, fErr := (rintC s).2, fNonce := (rintC (rintC s).1).2 }
def takenRT (t : UInt8) (s : Option (List UInt8)) : Msg :=
  if t.toNat = 106 then rkAs s else if t.toNat = 108 then rkTgs s else if t.toNat = 107 then rkRep s else if t.toNat = 110 then rkAp s else if t.toNat = 126 then rkFail s else mZ
def takenR : List UInt8 → Msg
  | [] => mZ
  | t :: r => takenRT t (elemC t (some (t :: r))).2
theorem takenR_fits (t : UInt8) (s : Option (List UInt8)) : (takenRT t s).fits := by
  unfold takenRT
  have z : ∀ n : Nat, ([] : List UInt8).length ≤ n := fun n => Nat.zero_le _
  split
  · refine ⟨?_, ?_, ?_, ?_, ?_, ?_, ?_, ?_, ?_, ?_, ?_, ?_, ?_, ?_⟩ <;> first | exact z _ | exact small2 _ _
  · split
    · refine ⟨?_, ?_, ?_, ?_, ?_, ?_, ?_, ?_, ?_, ?_, ?_, ?_, ?_, ?_⟩ <;> first | exact z _ | exact small2 _ _
    · split
      · refine ⟨?_, ?_, ?_, ?_, ?_, ?_, ?_, ?_, ?_, ?_, ?_, ?_, ?_, ?_⟩ <;> first | exact z _ | exact small2 _ _
      · split
        · refine ⟨?_, ?_, ?_, ?_, ?_, ?_, ?_, ?_, ?_, ?_, ?_, ?_, ?_, ?_⟩ <;> first | exact z _ | exact small2 _ _
        · split
          · refine ⟨?_, ?_, ?_, ?_, ?_, ?_, ?_, ?_, ?_, ?_, ?_, ?_, ?_, ?_⟩ <;> first | exact z _ | exact small2 _ _
          · refine ⟨?_, ?_, ?_, ?_, ?_, ?_, ?_, ?_, ?_, ?_, ?_, ?_, ?_, ?_⟩ <;> first | exact z _ | exact small2 _ _
theorem okM_mZ (b : List UInt8) : okM mZ b = false := rfl
def refDecV (b : List UInt8) : PV := agM (takenR b) b
theorem c12x (b : List UInt8) (hb : b.length ≤ 140737488355328) (H : PH) : CallOk prog 12 [sl b] H fun r H' => r = refDecV b ∧ ∃ ext, H' = H ++ ext := by
  (refine callOk_of_pFun2 (tt := ttL) (imm := imm12) follows ttL_ok depth6 func12 (by kernel_rfl) ?_; (conv => whnf))
  ((conv in (_[_]?) => tactic => exact get_last _ _); (conv => whnf))
  cases b with
  | nil =>
    have e0 : refDecV [] = .tup [.agg mZ.d.cells, .int .i64 2] := agM_no (okM_mZ [])
    rw [e0]
    refine ⟨fun _ => ?_, fun h => absurd rfl h⟩
    (conv => whnf)
    ((conv in (_[_]?) => tactic => exact get_set (get_last _ _)); (conv => whnf))
    ((conv in (_[_]?) => tactic => exact get_mid_set _ _ _ _); (conv => whnf))
    ((conv in (_[_]?) => tactic => exact get_set (get_mid_set _ _ _ _)); (conv => whnf))
    exact ⟨rfl, ((((Ext.refl H).push _).push _).set (by simp) _).set (Nat.le_refl _) _⟩
  | cons t b =>
    refine ⟨fun h => absurd h (by simp <;> omega), fun _ => ?_⟩
    (conv => whnf)
    refine ⟨⟨by decide, by first | (simp; done) | (simp; omega)⟩, [byteC t], sl_get0 t b, ?_⟩
    (conv => whnf)
    obtain ⟨HC, hHC⟩ : ∃ HC, HC = (H ++ [PObj.mk 39 mZ.cells 0] ++ [PObj.mk 39 mZ.cells 0]).set (H ++ [PObj.mk 39 mZ.cells 0]).length (PObj.mk 39 mZ.cells 1) := ⟨_, rfl⟩
    have hHC' : HC = H ++ [PObj.mk 39 mZ.cells 0] ++ [PObj.mk 39 mZ.cells 1] := by rw [hHC, set_last]
    have hlC : HC.length = H.length + 2 := by rw [hHC']; simp
    have hCr : HC[H.length]? = some ⟨39, mZ.cells, 0⟩ := by rw [hHC']; exact get_mid _ _ _
    have hCq : HC[(H ++ [PObj.mk 39 mZ.cells 0]).length]? = some ⟨39, mZ.cells, 1⟩ := by rw [hHC']; exact get_last _ _
    have u1 : Upd (fun _ => False) H (HC ++ [PObj.mk 126 [sl (t :: b), .bool false] 0]) := by rw [hHC']; exact (((Upd.refl H).push _).push _).push _
    have hcur : rcur (HC ++ [PObj.mk 126 [sl (t :: b), .bool false] 0]) HC.length (some (t :: b)) := ⟨t :: b, 0, get_last _ _, fun l h => Option.some.inj h⟩
    have hqn : (H ++ [PObj.mk 39 mZ.cells 0]).length = H.length + 1 := by simp
    have hlD : (HC ++ [PObj.mk 126 [sl (t :: b), .bool false] 0]).length = H.length + 3 := by simp [hlC]
    have hDr : (HC ++ [PObj.mk 126 [sl (t :: b), .bool false] 0])[H.length]? = some ⟨39, mZ.cells, 0⟩ := by rw [List.getElem?_append_left (by omega)]; exact hCr
    have hDq : (HC ++ [PObj.mk 126 [sl (t :: b), .bool false] 0])[(H ++ [PObj.mk 39 mZ.cells 0]).length]? = some ⟨39, mZ.cells, 1⟩ := by rw [List.getElem?_append_left (by omega)]; exact hCq
    have k0 : HC.length ≠ H.length := by omega
    have k9 : HC.length ≠ (H ++ [PObj.mk 39 mZ.cells 0]).length := by omega
    subst hHC
    refine callK_of (c53 _ t _ _ hcur (fun l h => by cases h; exact hb)) ?_
    rintro _ H2 ⟨e, rfl, k1, k2, k3, k4⟩
    have k1 : H.length + 3 ≤ e := Nat.le_trans (Nat.le_of_eq hlD.symm) k1
    have hle := k4.lt
    have hs0 : ∀ l, (elemC t (some (t :: b))).2 = some l → l.length ≤ 140737488355328 := fun l h => ((elemC_len (tag := t) (fun l h => by cases h; exact hb)).2 l h).1
    have e0 : refDecV (t :: b) = agM (takenRT t (elemC t (some (t :: b))).2) (t :: b) := rfl
    rw [e0]
    generalize (elemC t (some (t :: b))).2 = s at hs0 k4
    have D0 : RakS 39 mZ.cells H H2 H.length e (H ++ [PObj.mk 39 mZ.cells 0]).length s mZ.cells 1 := by
      refine ⟨?_, ?_, k4, ((u1.over k2 (fun i hi h => ?_))).mono (fun i _ h => h.elim), by omega, by omega, by omega, by omega⟩
      · exact (k2.2 _ (Nat.lt_of_lt_of_le (show H.length < H.length + 3 by omega) (Nat.le_of_eq hlD.symm)) (fun h => k0 h.symm)).trans hDr
      · exact (k2.2 _ (Nat.lt_of_lt_of_le (show (H ++ [PObj.mk 39 mZ.cells 0]).length < H.length + 3 by omega) (Nat.le_of_eq hlD.symm)) (fun h => k9 h.symm)).trans hDq
      · have h2 : i = H.length + 2 := h.trans hlC
        omega
    have fin : ∀ {K : PH} {s' : Option (List UInt8)} {cells : List PV} {ver : Nat} (D : RakS 39 mZ.cells H K H.length e (H ++ [PObj.mk 39 mZ.cells 0]).length s' cells ver) (o : PObj), ∃ ext, K.set H.length o = H ++ ext := fun D o =>
      Upd.ext ((D.up.mono (Y := fun _ => False) (fun i hi h => by have h : i = e := h; omega)).set (.inr (Nat.le_refl _)) o)
    have hf := takenR_fits t s
    (conv => whnf)
    refine ⟨⟨by decide, by first | (simp; done) | (simp; omega)⟩, [byteC t], sl_get0 t b, ?_⟩
    (conv => whnf)
    refine ⟨fun h1 => ?_, fun h1 => ?_⟩
    · have h1 : (t.toNat : Int) = 106 := h1
      have et : takenRT t s = rkAs s := by unfold takenRT; rw [if_pos (by omega)]
      rw [et] at hf ⊢
      (conv => whnf)
      ((conv in (_[_]?) => tactic => exact D0.p); (conv => whnf))
      have E0 := D0.store ({ mZ with kind := 1 } : Msg).cells 2
      have l0 : ∀ l, s = some l → l.length ≤ 140737488355328 := hs0
      refine callK_of (c54 e _ _ E0.cur l0) ?_
      rintro _ K0 ⟨rfl, u0, g0⟩
      have F0 := E0.call u0 g0
      (conv => whnf)
      ((conv in (_[_]?) => tactic => exact F0.p); (conv => whnf))
      have E1 := F0.store ({ mZ with kind := 1, a1 := (princR s).2.1, a2 := (princR s).2.2 } : Msg).cells 3
      have l1 : ∀ l, (princR s).1 = some l → l.length ≤ 140737488355328 := outR_len (elemC_len (tag := 48) l0).1
      refine callK_of (c54 e _ _ E1.cur l1) ?_
      rintro _ K1 ⟨rfl, u1, g1⟩
      have F1 := E1.call u1 g1
      (conv => whnf)
      ((conv in (_[_]?) => tactic => exact F1.p); (conv => whnf))
      have E2 := F1.store ({ mZ with kind := 1, a1 := (princR s).2.1, a2 := (princR s).2.2, a3 := (princR (princR s).1).2.1, a4 := (princR (princR s).1).2.2 } : Msg).cells 4
      have l2 : ∀ l, (princR (princR s).1).1 = some l → l.length ≤ 140737488355328 := outR_len (elemC_len (tag := 48) l1).1
      refine callK_of (c55 e _ _ E2.cur l2) ?_
      rintro _ K2 ⟨rfl, u2, g2⟩
      have F2 := E2.call u2 g2
      (conv => whnf)
      ((conv in (_[_]?) => tactic => exact F2.p); (conv => whnf))
      have E3 := F2.store ({ mZ with kind := 1, a1 := (princR s).2.1, a2 := (princR s).2.2, a3 := (princR (princR s).1).2.1, a4 := (princR (princR s).1).2.2, aTill := (rintC (princR (princR s).1).1).2 } : Msg).cells 5
      have l3 : ∀ l, (rintC (princR (princR s).1).1).1 = some l → l.length ≤ 140737488355328 := rintC_len l2
      refine callK_of (c55 e _ _ E3.cur l3) ?_
      rintro _ K3 ⟨rfl, u3, g3⟩
      have F3 := E3.call u3 g3
      (conv => whnf)
      ((conv in (_[_]?) => tactic => exact F3.p); (conv => whnf))
      have E4 := F3.store ({ mZ with kind := 1, a1 := (princR s).2.1, a2 := (princR s).2.2, a3 := (princR (princR s).1).2.1, a4 := (princR (princR s).1).2.2, aTill := (rintC (princR (princR s).1).1).2, aNonce := (rintC (rintC (princR (princR s).1).1).1).2 } : Msg).cells 6
      ((conv in (_[_]?) => tactic => exact E4.p); (conv => whnf))
      have hd : encV (rkAs s).d = encV (rkAs s) := rfl
      by_cases hq : isB (rkAs s) = true ∧ (laidB (rkAs s)).length ≤ 2000
      · refine callK_pure ((c42 (rkAs s).d hf).of_eq (hd.trans (encV_yes hq))) ?_
        (conv => whnf)
        refine ⟨fun _ => ?_, fun h => absurd rfl h⟩
        (conv => whnf)
        refine ⟨laidB (rkAs s), ⟨rfl, rfl⟩, ?_⟩
        (conv => whnf)
        refine ⟨t :: b, ⟨rfl, rfl⟩, ?_⟩
        (conv => whnf)
        refine ⟨fun h => ?_, fun h => ?_⟩
        · have hk : okM (rkAs s) (t :: b) = true := by unfold okM; rw [hq.1, decide_eq_true hq.2, decide_eq_true (show laidB (rkAs s) = t :: b from h)]; rfl
          rw [agM_yes hk]
          (conv => whnf)
          ((conv in (_[_]?) => tactic => exact E4.p); (conv => whnf))
          ((conv in (_[_]?) => tactic => exact E4.z); (conv => whnf))
          ((conv in (_[_]?) => tactic => exact get_set E4.z); (conv => whnf))
          exact ⟨rfl, fin E4 _⟩
        · have hk : okM (rkAs s) (t :: b) = false := by unfold okM; rw [decide_eq_false (show ¬ laidB (rkAs s) = t :: b from h), Bool.and_false, Bool.and_false]
          rw [agM_no hk]
          (conv => whnf)
          ((conv in (_[_]?) => tactic => exact E4.z); (conv => whnf))
          ((conv in (_[_]?) => tactic => exact get_set E4.z); (conv => whnf))
          exact ⟨rfl, fin E4 _⟩
      · have hk : okM (rkAs s) (t :: b) = false := by
          unfold okM
          cases h1 : isB (rkAs s)
          · rfl
          · rw [decide_eq_false (fun h2 => hq ⟨h1, h2⟩)]; rfl
        refine callK_pure ((c42 (rkAs s).d hf).of_eq (hd.trans (encV_no hq))) ?_
        rw [agM_no hk]
        (conv => whnf)
        refine ⟨fun h => absurd h (by decide), fun _ => ?_⟩
        (conv => whnf)
        ((conv in (_[_]?) => tactic => exact E4.z); (conv => whnf))
        ((conv in (_[_]?) => tactic => exact get_set E4.z); (conv => whnf))
        exact ⟨rfl, fin E4 _⟩
    (conv => whnf)
    have h1 : ¬ (t.toNat : Int) = 106 := h1
    refine ⟨fun h2 => ?_, fun h2 => ?_⟩
    · have h2 : (t.toNat : Int) = 108 := h2
      have et : takenRT t s = rkTgs s := by unfold takenRT; rw [if_neg (by omega)]; rw [if_pos (by omega)]
      rw [et] at hf ⊢
      (conv => whnf)
      ((conv in (_[_]?) => tactic => exact D0.p); (conv => whnf))
      have E0 := D0.store ({ mZ with kind := 2 } : Msg).cells 2
      have l0 : ∀ l, s = some l → l.length ≤ 140737488355328 := hs0
      refine callK_of (c56 e _ _ E0.cur l0) ?_
      rintro _ K0 ⟨rfl, u0, g0⟩
      have F0 := E0.call u0 g0
      (conv => whnf)
      ((conv in (_[_]?) => tactic => exact F0.p); (conv => whnf))
      have E1 := F0.store ({ mZ with kind := 2, t1 := (tickR s).2.r, t2 := (tickR s).2.n, tKv := (tickR s).2.kv, tB := (tickR s).2.b, tBo := none } : Msg).cells 3
      have l1 : ∀ l, (tickR s).1 = some l → l.length ≤ 140737488355328 := outR_len (elemC_len (tag := 97) l0).1
      refine callK_of (c57 e _ _ E1.cur l1) ?_
      rintro _ K1 ⟨rfl, u1, g1⟩
      have F1 := E1.call u1 g1
      (conv => whnf)
      ((conv in (_[_]?) => tactic => exact F1.p); (conv => whnf))
      have E2 := F1.store ({ mZ with kind := 2, t1 := (tickR s).2.r, t2 := (tickR s).2.n, tKv := (tickR s).2.kv, tB := (tickR s).2.b, tBo := none, tAu := (octC (tickR s).1).2, tAuo := none } : Msg).cells 4
      have l2 : ∀ l, (octC (tickR s).1).1 = some l → l.length ≤ 140737488355328 := (elemC_len (tag := 4) l1).1
      refine callK_of (c54 e _ _ E2.cur l2) ?_
      rintro _ K2 ⟨rfl, u2, g2⟩
      have F2 := E2.call u2 g2
      (conv => whnf)
      ((conv in (_[_]?) => tactic => exact F2.p); (conv => whnf))
      have E3 := F2.store ({ mZ with kind := 2, t1 := (tickR s).2.r, t2 := (tickR s).2.n, tKv := (tickR s).2.kv, tB := (tickR s).2.b, tBo := none, tAu := (octC (tickR s).1).2, tAuo := none, t3 := (princR (octC (tickR s).1).1).2.1, t4 := (princR (octC (tickR s).1).1).2.2 } : Msg).cells 5
      have l3 : ∀ l, (princR (octC (tickR s).1).1).1 = some l → l.length ≤ 140737488355328 := outR_len (elemC_len (tag := 48) l2).1
      refine callK_of (c55 e _ _ E3.cur l3) ?_
      rintro _ K3 ⟨rfl, u3, g3⟩
      have F3 := E3.call u3 g3
      (conv => whnf)
      ((conv in (_[_]?) => tactic => exact F3.p); (conv => whnf))
      have E4 := F3.store ({ mZ with kind := 2, t1 := (tickR s).2.r, t2 := (tickR s).2.n, tKv := (tickR s).2.kv, tB := (tickR s).2.b, tBo := none, tAu := (octC (tickR s).1).2, tAuo := none, t3 := (princR (octC (tickR s).1).1).2.1, t4 := (princR (octC (tickR s).1).1).2.2, tTill := (rintC (princR (octC (tickR s).1).1).1).2 } : Msg).cells 6
      have l4 : ∀ l, (rintC (princR (octC (tickR s).1).1).1).1 = some l → l.length ≤ 140737488355328 := rintC_len l3
      refine callK_of (c55 e _ _ E4.cur l4) ?_
      rintro _ K4 ⟨rfl, u4, g4⟩
      have F4 := E4.call u4 g4
      (conv => whnf)
      ((conv in (_[_]?) => tactic => exact F4.p); (conv => whnf))
      have E5 := F4.store ({ mZ with kind := 2, t1 := (tickR s).2.r, t2 := (tickR s).2.n, tKv := (tickR s).2.kv, tB := (tickR s).2.b, tBo := none, tAu := (octC (tickR s).1).2, tAuo := none, t3 := (princR (octC (tickR s).1).1).2.1, t4 := (princR (octC (tickR s).1).1).2.2, tTill := (rintC (princR (octC (tickR s).1).1).1).2, tNonce := (rintC (rintC (princR (octC (tickR s).1).1).1).1).2 } : Msg).cells 7
      ((conv in (_[_]?) => tactic => exact E5.p); (conv => whnf))
      have hd : encV (rkTgs s).d = encV (rkTgs s) := rfl
      by_cases hq : isB (rkTgs s) = true ∧ (laidB (rkTgs s)).length ≤ 2000
      · refine callK_pure ((c42 (rkTgs s).d hf).of_eq (hd.trans (encV_yes hq))) ?_
        (conv => whnf)
        refine ⟨fun _ => ?_, fun h => absurd rfl h⟩
        (conv => whnf)
        refine ⟨laidB (rkTgs s), ⟨rfl, rfl⟩, ?_⟩
        (conv => whnf)
        refine ⟨t :: b, ⟨rfl, rfl⟩, ?_⟩
        (conv => whnf)
        refine ⟨fun h => ?_, fun h => ?_⟩
        · have hk : okM (rkTgs s) (t :: b) = true := by unfold okM; rw [hq.1, decide_eq_true hq.2, decide_eq_true (show laidB (rkTgs s) = t :: b from h)]; rfl
          rw [agM_yes hk]
          (conv => whnf)
          ((conv in (_[_]?) => tactic => exact E5.p); (conv => whnf))
          ((conv in (_[_]?) => tactic => exact E5.z); (conv => whnf))
          ((conv in (_[_]?) => tactic => exact get_set E5.z); (conv => whnf))
          exact ⟨rfl, fin E5 _⟩
        · have hk : okM (rkTgs s) (t :: b) = false := by unfold okM; rw [decide_eq_false (show ¬ laidB (rkTgs s) = t :: b from h), Bool.and_false, Bool.and_false]
          rw [agM_no hk]
          (conv => whnf)
          ((conv in (_[_]?) => tactic => exact E5.z); (conv => whnf))
          ((conv in (_[_]?) => tactic => exact get_set E5.z); (conv => whnf))
          exact ⟨rfl, fin E5 _⟩
      · have hk : okM (rkTgs s) (t :: b) = false := by
          unfold okM
          cases h1 : isB (rkTgs s)
          · rfl
          · rw [decide_eq_false (fun h2 => hq ⟨h1, h2⟩)]; rfl
        refine callK_pure ((c42 (rkTgs s).d hf).of_eq (hd.trans (encV_no hq))) ?_
        rw [agM_no hk]
        (conv => whnf)
        refine ⟨fun h => absurd h (by decide), fun _ => ?_⟩
        (conv => whnf)
        ((conv in (_[_]?) => tactic => exact E5.z); (conv => whnf))
        ((conv in (_[_]?) => tactic => exact get_set E5.z); (conv => whnf))
        exact ⟨rfl, fin E5 _⟩
    (conv => whnf)
    have h2 : ¬ (t.toNat : Int) = 108 := h2
    refine ⟨fun h3 => ?_, fun h3 => ?_⟩
    · have h3 : (t.toNat : Int) = 107 := h3
      have et : takenRT t s = rkRep s := by unfold takenRT; rw [if_neg (by omega)]; rw [if_neg (by omega)]; rw [if_pos (by omega)]
      rw [et] at hf ⊢
      (conv => whnf)
      ((conv in (_[_]?) => tactic => exact D0.p); (conv => whnf))
      have E0 := D0.store ({ mZ with kind := 3 } : Msg).cells 2
      have l0 : ∀ l, s = some l → l.length ≤ 140737488355328 := hs0
      refine callK_of (c54 e _ _ E0.cur l0) ?_
      rintro _ K0 ⟨rfl, u0, g0⟩
      have F0 := E0.call u0 g0
      (conv => whnf)
      ((conv in (_[_]?) => tactic => exact F0.p); (conv => whnf))
      have E1 := F0.store ({ mZ with kind := 3, r1 := (princR s).2.1, r2 := (princR s).2.2 } : Msg).cells 3
      have l1 : ∀ l, (princR s).1 = some l → l.length ≤ 140737488355328 := outR_len (elemC_len (tag := 48) l0).1
      refine callK_of (c56 e _ _ E1.cur l1) ?_
      rintro _ K1 ⟨rfl, u1, g1⟩
      have F1 := E1.call u1 g1
      (conv => whnf)
      ((conv in (_[_]?) => tactic => exact F1.p); (conv => whnf))
      have E2 := F1.store ({ mZ with kind := 3, r1 := (princR s).2.1, r2 := (princR s).2.2, r3 := (tickR (princR s).1).2.r, r4 := (tickR (princR s).1).2.n, rKv := (tickR (princR s).1).2.kv, rB := (tickR (princR s).1).2.b, rBo := none } : Msg).cells 4
      have l2 : ∀ l, (tickR (princR s).1).1 = some l → l.length ≤ 140737488355328 := outR_len (elemC_len (tag := 97) l1).1
      refine callK_of (c57 e _ _ E2.cur l2) ?_
      rintro _ K2 ⟨rfl, u2, g2⟩
      have F2 := E2.call u2 g2
      (conv => whnf)
      ((conv in (_[_]?) => tactic => exact F2.p); (conv => whnf))
      have E3 := F2.store ({ mZ with kind := 3, r1 := (princR s).2.1, r2 := (princR s).2.2, r3 := (tickR (princR s).1).2.r, r4 := (tickR (princR s).1).2.n, rKv := (tickR (princR s).1).2.kv, rB := (tickR (princR s).1).2.b, rBo := none, rBl := (octC (tickR (princR s).1).1).2, rBlo := none } : Msg).cells 5
      ((conv in (_[_]?) => tactic => exact E3.p); (conv => whnf))
      have hd : encV (rkRep s).d = encV (rkRep s) := rfl
      by_cases hq : isB (rkRep s) = true ∧ (laidB (rkRep s)).length ≤ 2000
      · refine callK_pure ((c42 (rkRep s).d hf).of_eq (hd.trans (encV_yes hq))) ?_
        (conv => whnf)
        refine ⟨fun _ => ?_, fun h => absurd rfl h⟩
        (conv => whnf)
        refine ⟨laidB (rkRep s), ⟨rfl, rfl⟩, ?_⟩
        (conv => whnf)
        refine ⟨t :: b, ⟨rfl, rfl⟩, ?_⟩
        (conv => whnf)
        refine ⟨fun h => ?_, fun h => ?_⟩
        · have hk : okM (rkRep s) (t :: b) = true := by unfold okM; rw [hq.1, decide_eq_true hq.2, decide_eq_true (show laidB (rkRep s) = t :: b from h)]; rfl
          rw [agM_yes hk]
          (conv => whnf)
          ((conv in (_[_]?) => tactic => exact E3.p); (conv => whnf))
          ((conv in (_[_]?) => tactic => exact E3.z); (conv => whnf))
          ((conv in (_[_]?) => tactic => exact get_set E3.z); (conv => whnf))
          exact ⟨rfl, fin E3 _⟩
        · have hk : okM (rkRep s) (t :: b) = false := by unfold okM; rw [decide_eq_false (show ¬ laidB (rkRep s) = t :: b from h), Bool.and_false, Bool.and_false]
          rw [agM_no hk]
          (conv => whnf)
          ((conv in (_[_]?) => tactic => exact E3.z); (conv => whnf))
          ((conv in (_[_]?) => tactic => exact get_set E3.z); (conv => whnf))
          exact ⟨rfl, fin E3 _⟩
      · have hk : okM (rkRep s) (t :: b) = false := by
          unfold okM
          cases h1 : isB (rkRep s)
          · rfl
          · rw [decide_eq_false (fun h2 => hq ⟨h1, h2⟩)]; rfl
        refine callK_pure ((c42 (rkRep s).d hf).of_eq (hd.trans (encV_no hq))) ?_
        rw [agM_no hk]
        (conv => whnf)
        refine ⟨fun h => absurd h (by decide), fun _ => ?_⟩
        (conv => whnf)
        ((conv in (_[_]?) => tactic => exact E3.z); (conv => whnf))
        ((conv in (_[_]?) => tactic => exact get_set E3.z); (conv => whnf))
        exact ⟨rfl, fin E3 _⟩
    (conv => whnf)
    have h3 : ¬ (t.toNat : Int) = 107 := h3
    refine ⟨fun h4 => ?_, fun h4 => ?_⟩
    · have h4 : (t.toNat : Int) = 110 := h4
      have et : takenRT t s = rkAp s := by unfold takenRT; rw [if_neg (by omega)]; rw [if_neg (by omega)]; rw [if_neg (by omega)]; rw [if_pos (by omega)]
      rw [et] at hf ⊢
      (conv => whnf)
      ((conv in (_[_]?) => tactic => exact D0.p); (conv => whnf))
      have E0 := D0.store ({ mZ with kind := 4 } : Msg).cells 2
      have l0 : ∀ l, s = some l → l.length ≤ 140737488355328 := hs0
      refine callK_of (c56 e _ _ E0.cur l0) ?_
      rintro _ K0 ⟨rfl, u0, g0⟩
      have F0 := E0.call u0 g0
      (conv => whnf)
      ((conv in (_[_]?) => tactic => exact F0.p); (conv => whnf))
      have E1 := F0.store ({ mZ with kind := 4, p1 := (tickR s).2.r, p2 := (tickR s).2.n, pKv := (tickR s).2.kv, pB := (tickR s).2.b, pBo := none } : Msg).cells 3
      have l1 : ∀ l, (tickR s).1 = some l → l.length ≤ 140737488355328 := outR_len (elemC_len (tag := 97) l0).1
      refine callK_of (c57 e _ _ E1.cur l1) ?_
      rintro _ K1 ⟨rfl, u1, g1⟩
      have F1 := E1.call u1 g1
      (conv => whnf)
      ((conv in (_[_]?) => tactic => exact F1.p); (conv => whnf))
      have E2 := F1.store ({ mZ with kind := 4, p1 := (tickR s).2.r, p2 := (tickR s).2.n, pKv := (tickR s).2.kv, pB := (tickR s).2.b, pBo := none, pAu := (octC (tickR s).1).2, pAuo := none } : Msg).cells 4
      ((conv in (_[_]?) => tactic => exact E2.p); (conv => whnf))
      have hd : encV (rkAp s).d = encV (rkAp s) := rfl
      by_cases hq : isB (rkAp s) = true ∧ (laidB (rkAp s)).length ≤ 2000
      · refine callK_pure ((c42 (rkAp s).d hf).of_eq (hd.trans (encV_yes hq))) ?_
        (conv => whnf)
        refine ⟨fun _ => ?_, fun h => absurd rfl h⟩
        (conv => whnf)
        refine ⟨laidB (rkAp s), ⟨rfl, rfl⟩, ?_⟩
        (conv => whnf)
        refine ⟨t :: b, ⟨rfl, rfl⟩, ?_⟩
        (conv => whnf)
        refine ⟨fun h => ?_, fun h => ?_⟩
        · have hk : okM (rkAp s) (t :: b) = true := by unfold okM; rw [hq.1, decide_eq_true hq.2, decide_eq_true (show laidB (rkAp s) = t :: b from h)]; rfl
          rw [agM_yes hk]
          (conv => whnf)
          ((conv in (_[_]?) => tactic => exact E2.p); (conv => whnf))
          ((conv in (_[_]?) => tactic => exact E2.z); (conv => whnf))
          ((conv in (_[_]?) => tactic => exact get_set E2.z); (conv => whnf))
          exact ⟨rfl, fin E2 _⟩
        · have hk : okM (rkAp s) (t :: b) = false := by unfold okM; rw [decide_eq_false (show ¬ laidB (rkAp s) = t :: b from h), Bool.and_false, Bool.and_false]
          rw [agM_no hk]
          (conv => whnf)
          ((conv in (_[_]?) => tactic => exact E2.z); (conv => whnf))
          ((conv in (_[_]?) => tactic => exact get_set E2.z); (conv => whnf))
          exact ⟨rfl, fin E2 _⟩
      · have hk : okM (rkAp s) (t :: b) = false := by
          unfold okM
          cases h1 : isB (rkAp s)
          · rfl
          · rw [decide_eq_false (fun h2 => hq ⟨h1, h2⟩)]; rfl
        refine callK_pure ((c42 (rkAp s).d hf).of_eq (hd.trans (encV_no hq))) ?_
        rw [agM_no hk]
        (conv => whnf)
        refine ⟨fun h => absurd h (by decide), fun _ => ?_⟩
        (conv => whnf)
        ((conv in (_[_]?) => tactic => exact E2.z); (conv => whnf))
        ((conv in (_[_]?) => tactic => exact get_set E2.z); (conv => whnf))
        exact ⟨rfl, fin E2 _⟩
    (conv => whnf)
    have h4 : ¬ (t.toNat : Int) = 110 := h4
    refine ⟨fun h5 => ?_, fun h5 => ?_⟩
    · have h5 : (t.toNat : Int) = 126 := h5
      have et : takenRT t s = rkFail s := by unfold takenRT; rw [if_neg (by omega)]; rw [if_neg (by omega)]; rw [if_neg (by omega)]; rw [if_neg (by omega)]; rw [if_pos (by omega)]
      rw [et] at hf ⊢
      (conv => whnf)
      ((conv in (_[_]?) => tactic => exact D0.p); (conv => whnf))
      have E0 := D0.store ({ mZ with kind := 5 } : Msg).cells 2
      have l0 : ∀ l, s = some l → l.length ≤ 140737488355328 := hs0
      refine callK_of (c55 e _ _ E0.cur l0) ?_
      rintro _ K0 ⟨rfl, u0, g0⟩
      have F0 := E0.call u0 g0
      (conv => whnf)
      ((conv in (_[_]?) => tactic => exact F0.p); (conv => whnf))
      have E1 := F0.store ({ mZ with kind := 5, fErr := (rintC s).2 } : Msg).cells 3
      have l1 : ∀ l, (rintC s).1 = some l → l.length ≤ 140737488355328 := rintC_len l0
      refine callK_of (c55 e _ _ E1.cur l1) ?_
      rintro _ K1 ⟨rfl, u1, g1⟩
      have F1 := E1.call u1 g1
      (conv => whnf)
      ((conv in (_[_]?) => tactic => exact F1.p); (conv => whnf))
      have E2 := F1.store ({ mZ with kind := 5, fErr := (rintC s).2, fNonce := (rintC (rintC s).1).2 } : Msg).cells 4
      ((conv in (_[_]?) => tactic => exact E2.p); (conv => whnf))
      have hd : encV (rkFail s).d = encV (rkFail s) := rfl
      by_cases hq : isB (rkFail s) = true ∧ (laidB (rkFail s)).length ≤ 2000
      · refine callK_pure ((c42 (rkFail s).d hf).of_eq (hd.trans (encV_yes hq))) ?_
        (conv => whnf)
        refine ⟨fun _ => ?_, fun h => absurd rfl h⟩
        (conv => whnf)
        refine ⟨laidB (rkFail s), ⟨rfl, rfl⟩, ?_⟩
        (conv => whnf)
        refine ⟨t :: b, ⟨rfl, rfl⟩, ?_⟩
        (conv => whnf)
        refine ⟨fun h => ?_, fun h => ?_⟩
        · have hk : okM (rkFail s) (t :: b) = true := by unfold okM; rw [hq.1, decide_eq_true hq.2, decide_eq_true (show laidB (rkFail s) = t :: b from h)]; rfl
          rw [agM_yes hk]
          (conv => whnf)
          ((conv in (_[_]?) => tactic => exact E2.p); (conv => whnf))
          ((conv in (_[_]?) => tactic => exact E2.z); (conv => whnf))
          ((conv in (_[_]?) => tactic => exact get_set E2.z); (conv => whnf))
          exact ⟨rfl, fin E2 _⟩
        · have hk : okM (rkFail s) (t :: b) = false := by unfold okM; rw [decide_eq_false (show ¬ laidB (rkFail s) = t :: b from h), Bool.and_false, Bool.and_false]
          rw [agM_no hk]
          (conv => whnf)
          ((conv in (_[_]?) => tactic => exact E2.z); (conv => whnf))
          ((conv in (_[_]?) => tactic => exact get_set E2.z); (conv => whnf))
          exact ⟨rfl, fin E2 _⟩
      · have hk : okM (rkFail s) (t :: b) = false := by
          unfold okM
          cases h1 : isB (rkFail s)
          · rfl
          · rw [decide_eq_false (fun h2 => hq ⟨h1, h2⟩)]; rfl
        refine callK_pure ((c42 (rkFail s).d hf).of_eq (hd.trans (encV_no hq))) ?_
        rw [agM_no hk]
        (conv => whnf)
        refine ⟨fun h => absurd h (by decide), fun _ => ?_⟩
        (conv => whnf)
        ((conv in (_[_]?) => tactic => exact E2.z); (conv => whnf))
        ((conv in (_[_]?) => tactic => exact get_set E2.z); (conv => whnf))
        exact ⟨rfl, fin E2 _⟩
    (conv => whnf)
    have h5 : ¬ (t.toNat : Int) = 126 := h5
    have et : takenRT t s = mZ := by unfold takenRT; rw [if_neg (by omega), if_neg (by omega), if_neg (by omega), if_neg (by omega), if_neg (by omega)]
    rw [et, agM_no (okM_mZ _)]
    ((conv in (_[_]?) => tactic => exact D0.p); (conv => whnf))
    ((conv in (_[_]?) => tactic => exact D0.z); (conv => whnf))
    ((conv in (_[_]?) => tactic => exact get_set D0.z); (conv => whnf))
    exact ⟨rfl, fin D0 _⟩
theorem c12 (b : List UInt8) (hb : b.length ≤ 140737488355328) : Pure prog 12 [sl b] (refDecV b) := Pure.of_gc (agM_old _ b) (c12x b hb)
end Go.Proofs.Tryz
