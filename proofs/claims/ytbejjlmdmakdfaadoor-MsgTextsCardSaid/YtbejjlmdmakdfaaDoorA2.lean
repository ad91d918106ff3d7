import Derived.Test.YtbejjlmdmakdfaaDoorA1
set_option linter.all false
set_option maxRecDepth 100000
set_option maxHeartbeats 2000000
set_option linter.unusedVariables false
set_option linter.unusedSimpArgs false
namespace Go.Proofs.Tryd
open Go Ps
theorem limV_yes {ok : Bool} {b : List UInt8} (h : ok = true ∧ b.length ≤ 2000) : limV ok b = .tup [sl b, .int .i64 0] := if_pos h
theorem limV_no {ok : Bool} {b : List UInt8} (h : ¬ (ok = true ∧ b.length ≤ 2000)) : limV ok b = .tup [.slice 0 [] (some 5), .int .i64 1] := if_neg h
theorem c22 (p : Prt) (hr : p.r.length ≤ 1000000) (hn : p.n.length ≤ 1000000) (ht : p.tr.length ≤ 1000000) : Pure prog 22 [.agg p.cells] (encPV p) := by
  intro H
  have h1 := princE_len p.r p.n
  have h2 := wrapB_len 4 (keyB p.k)
  have h3 := wrapB_len 27 p.tr
  have h4 := intE_len p.st
  have h5 := intE_len p.en
  have h6 := keyB_len p.k
  (refine callOk_of_pFun2 (tt := ttC) (imm := imm22) follows ttC_ok depth6 func22 (by kernel_rfl) ?_; (conv => whnf))
  refine drawK_pure2 (by kernel_rfl) ?_
  (conv => whnf)
  (apply Exists.intro; apply And.intro; (focus ((conv => whnf); first | exact ⟨rfl, rfl, trivial⟩ | (refine ⟨by omega, ?_⟩; (conv => whnf); exact ⟨rfl, rfl, trivial⟩))); (conv => whnf))
  (apply Exists.intro; apply And.intro; (focus ((conv => whnf); first | exact ⟨rfl, rfl, trivial⟩ | (refine ⟨by omega, ?_⟩; (conv => whnf); exact ⟨rfl, rfl, trivial⟩))); (conv => whnf))
  refine ⟨_, callK_pure (c24 p.r p.n (by omega) (by omega)) ⟨rfl, rfl, trivial⟩, ?_⟩
  (conv => whnf)
  cases f1 : isPrincB p.r p.n
  · (apply Exists.intro; apply And.intro; (focus ((conv => whnf); first | exact ⟨rfl, rfl, trivial⟩ | (refine ⟨by omega, ?_⟩; (conv => whnf); exact ⟨rfl, rfl, trivial⟩))); (conv => whnf))
    (apply Exists.intro; apply And.intro; (focus ((conv => whnf); first | exact ⟨rfl, rfl, trivial⟩ | (refine ⟨by omega, ?_⟩; (conv => whnf); exact ⟨rfl, rfl, trivial⟩))); (conv => whnf))
    (apply Exists.intro; apply And.intro; (focus ((conv => whnf); first | exact ⟨rfl, rfl, trivial⟩ | (refine ⟨by omega, ?_⟩; (conv => whnf); exact ⟨rfl, rfl, trivial⟩))); (conv => whnf))
    (apply Exists.intro; apply And.intro; (focus ((conv => whnf); first | exact ⟨rfl, rfl, trivial⟩ | (refine ⟨by omega, ?_⟩; (conv => whnf); exact ⟨rfl, rfl, trivial⟩))); (conv => whnf))
    (apply Exists.intro; apply And.intro; (focus ((conv => whnf); first | exact ⟨rfl, rfl, trivial⟩ | (refine ⟨by omega, ?_⟩; (conv => whnf); exact ⟨rfl, rfl, trivial⟩))); (conv => whnf))
    (apply Exists.intro; apply And.intro; (focus ((conv => whnf); first | exact ⟨rfl, rfl, trivial⟩ | (refine ⟨by omega, ?_⟩; (conv => whnf); exact ⟨rfl, rfl, trivial⟩))); (conv => whnf))
    (apply Exists.intro; apply And.intro; (focus ((conv => whnf); first | exact ⟨rfl, rfl, trivial⟩ | (refine ⟨by omega, ?_⟩; (conv => whnf); exact ⟨rfl, rfl, trivial⟩))); (conv => whnf))
    (apply Exists.intro; apply And.intro; (focus ((conv => whnf); first | exact ⟨rfl, rfl, trivial⟩ | (refine ⟨by omega, ?_⟩; (conv => whnf); exact ⟨rfl, rfl, trivial⟩))); (conv => whnf))
    (apply Exists.intro; apply And.intro; (focus ((conv => whnf); first | exact ⟨rfl, rfl, trivial⟩ | (refine ⟨by omega, ?_⟩; (conv => whnf); exact ⟨rfl, rfl, trivial⟩))); (conv => whnf))
    (apply Exists.intro; apply And.intro; (focus ((conv => whnf); first | exact ⟨rfl, rfl, trivial⟩ | (refine ⟨by omega, ?_⟩; (conv => whnf); exact ⟨rfl, rfl, trivial⟩))); (conv => whnf))
    (apply Exists.intro; apply And.intro; (focus ((conv => whnf); first | exact ⟨rfl, rfl, trivial⟩ | (refine ⟨by omega, ?_⟩; (conv => whnf); exact ⟨rfl, rfl, trivial⟩))); (conv => whnf))
    (apply Exists.intro; apply And.intro; (focus ((conv => whnf); first | exact ⟨rfl, rfl, trivial⟩ | (refine ⟨by omega, ?_⟩; (conv => whnf); exact ⟨rfl, rfl, trivial⟩))); (conv => whnf))
    (apply Exists.intro; apply And.intro; (focus ((conv => whnf); first | exact ⟨rfl, rfl, trivial⟩ | (refine ⟨by omega, ?_⟩; (conv => whnf); exact ⟨rfl, rfl, trivial⟩))); (conv => whnf))
    (apply Exists.intro; apply And.intro; (focus ((conv => whnf); first | exact ⟨rfl, rfl, trivial⟩ | (refine ⟨by omega, ?_⟩; (conv => whnf); exact ⟨rfl, rfl, trivial⟩))); (conv => whnf))
    (apply Exists.intro; apply And.intro; (focus ((conv => whnf); first | exact ⟨rfl, rfl, trivial⟩ | (refine ⟨by omega, ?_⟩; (conv => whnf); exact ⟨rfl, rfl, trivial⟩))); (conv => whnf))
    refine ⟨_, callK_pure (c45 p.r p.n hr hn) ⟨rfl, rfl, trivial⟩, ?_⟩
    (conv => whnf)
    (apply Exists.intro; apply And.intro; (focus ((conv => whnf); first | exact ⟨rfl, rfl, trivial⟩ | (refine ⟨by omega, ?_⟩; (conv => whnf); exact ⟨rfl, rfl, trivial⟩))); (conv => whnf))
    (apply Exists.intro; apply And.intro; (focus ((conv => whnf); first | exact ⟨rfl, rfl, trivial⟩ | (refine ⟨by omega, ?_⟩; (conv => whnf); exact ⟨rfl, rfl, trivial⟩))); (conv => whnf))
    refine ⟨_, callK_pure (c46p (keyB p.k) (by omega)) ⟨rfl, rfl, trivial⟩, ?_⟩
    (conv => whnf)
    (apply Exists.intro; apply And.intro; (focus ((conv => whnf); first | exact ⟨rfl, rfl, trivial⟩ | (refine ⟨by omega, ?_⟩; (conv => whnf); exact ⟨rfl, rfl, trivial⟩))); (conv => whnf))
    (apply Exists.intro; apply And.intro; (focus ((conv => whnf); first | exact ⟨rfl, rfl, trivial⟩ | (refine ⟨by omega, ?_⟩; (conv => whnf); exact ⟨rfl, rfl, trivial⟩))); (conv => whnf))
    refine ⟨_, callK_pure (c47p p.tr (by omega)) ⟨rfl, rfl, trivial⟩, ?_⟩
    (conv => whnf)
    (apply Exists.intro; apply And.intro; (focus ((conv => whnf); first | exact ⟨rfl, rfl, trivial⟩ | (refine ⟨by omega, ?_⟩; (conv => whnf); exact ⟨rfl, rfl, trivial⟩))); (conv => whnf))
    (apply Exists.intro; apply And.intro; (focus ((conv => whnf); first | exact ⟨rfl, rfl, trivial⟩ | (refine ⟨by omega, ?_⟩; (conv => whnf); exact ⟨rfl, rfl, trivial⟩))); (conv => whnf))
    refine ⟨_, callK_pure (c48 p.st) ⟨rfl, rfl, trivial⟩, ?_⟩
    (conv => whnf)
    (apply Exists.intro; apply And.intro; (focus ((conv => whnf); first | exact ⟨rfl, rfl, trivial⟩ | (refine ⟨by omega, ?_⟩; (conv => whnf); exact ⟨rfl, rfl, trivial⟩))); (conv => whnf))
    (apply Exists.intro; apply And.intro; (focus ((conv => whnf); first | exact ⟨rfl, rfl, trivial⟩ | (refine ⟨by omega, ?_⟩; (conv => whnf); exact ⟨rfl, rfl, trivial⟩))); (conv => whnf))
    refine ⟨_, callK_pure (c48 p.en) ⟨rfl, rfl, trivial⟩, ?_⟩
    (conv => whnf)
    (apply Exists.intro; apply And.intro; (focus ((conv => whnf); first | exact ⟨rfl, rfl, trivial⟩ | (refine ⟨by omega, ?_⟩; (conv => whnf); exact ⟨rfl, rfl, trivial⟩))); (conv => whnf))
    refine ⟨_, callK_pure (c44p 99 [princE p.r p.n, wrapB 4 (keyB p.k), wrapB 27 p.tr, intE p.st, intE p.en] (by simp) (by simp only [List.flatten_cons, List.flatten_nil, List.length_append, List.length_nil]; omega)) ⟨rfl, rfl, trivial⟩, ?_⟩
    (conv => whnf)
    have hb : isPartB p = false := by unfold isPartB; simp only [f1, Bool.and_true, Bool.true_and, Bool.and_false, Bool.false_and]
    refine ⟨_, callK_pure ((c40 false (partL p)).of_eq (limV_no (fun h => by cases h.1))) ⟨rfl, rfl, trivial⟩, ?_⟩
    (conv => whnf)
    (apply Exists.intro; apply And.intro; (focus ((conv => whnf); first | exact ⟨rfl, rfl, trivial⟩ | (refine ⟨by omega, ?_⟩; (conv => whnf); exact ⟨rfl, rfl, trivial⟩))); (conv => whnf))
    (apply Exists.intro; apply And.intro; (focus ((conv => whnf); first | exact ⟨rfl, rfl, trivial⟩ | (refine ⟨by omega, ?_⟩; (conv => whnf); exact ⟨rfl, rfl, trivial⟩))); (conv => whnf))
    (apply Exists.intro; apply And.intro; (focus ((conv => whnf); first | exact ⟨rfl, rfl, trivial⟩ | (refine ⟨by omega, ?_⟩; (conv => whnf); exact ⟨rfl, rfl, trivial⟩))); (conv => whnf))
    (apply Exists.intro; apply And.intro; (focus ((conv => whnf); first | exact ⟨rfl, rfl, trivial⟩ | (refine ⟨by omega, ?_⟩; (conv => whnf); exact ⟨rfl, rfl, trivial⟩))); (conv => whnf))
    exact ⟨(encPV_no (fun h => by rw [hb] at h; cases h.1)).symm, rfl⟩
  (apply Exists.intro; apply And.intro; (focus ((conv => whnf); first | exact ⟨rfl, rfl, trivial⟩ | (refine ⟨by omega, ?_⟩; (conv => whnf); exact ⟨rfl, rfl, trivial⟩))); (conv => whnf))
  (apply Exists.intro; apply And.intro; (focus ((conv => whnf); first | exact ⟨rfl, rfl, trivial⟩ | (refine ⟨by omega, ?_⟩; (conv => whnf); exact ⟨rfl, rfl, trivial⟩))); (conv => whnf))
  (apply Exists.intro; apply And.intro; (focus ((conv => whnf); first | exact ⟨rfl, rfl, trivial⟩ | (refine ⟨by omega, ?_⟩; (conv => whnf); exact ⟨rfl, rfl, trivial⟩))); (conv => whnf))
  refine ⟨_, callK_pure (c42 p.tr) ⟨rfl, rfl, trivial⟩, ?_⟩
  (conv => whnf)
  cases f2 : isTextB p.tr
  · (apply Exists.intro; apply And.intro; (focus ((conv => whnf); first | exact ⟨rfl, rfl, trivial⟩ | (refine ⟨by omega, ?_⟩; (conv => whnf); exact ⟨rfl, rfl, trivial⟩))); (conv => whnf))
    (apply Exists.intro; apply And.intro; (focus ((conv => whnf); first | exact ⟨rfl, rfl, trivial⟩ | (refine ⟨by omega, ?_⟩; (conv => whnf); exact ⟨rfl, rfl, trivial⟩))); (conv => whnf))
    (apply Exists.intro; apply And.intro; (focus ((conv => whnf); first | exact ⟨rfl, rfl, trivial⟩ | (refine ⟨by omega, ?_⟩; (conv => whnf); exact ⟨rfl, rfl, trivial⟩))); (conv => whnf))
    (apply Exists.intro; apply And.intro; (focus ((conv => whnf); first | exact ⟨rfl, rfl, trivial⟩ | (refine ⟨by omega, ?_⟩; (conv => whnf); exact ⟨rfl, rfl, trivial⟩))); (conv => whnf))
    (apply Exists.intro; apply And.intro; (focus ((conv => whnf); first | exact ⟨rfl, rfl, trivial⟩ | (refine ⟨by omega, ?_⟩; (conv => whnf); exact ⟨rfl, rfl, trivial⟩))); (conv => whnf))
    (apply Exists.intro; apply And.intro; (focus ((conv => whnf); first | exact ⟨rfl, rfl, trivial⟩ | (refine ⟨by omega, ?_⟩; (conv => whnf); exact ⟨rfl, rfl, trivial⟩))); (conv => whnf))
    (apply Exists.intro; apply And.intro; (focus ((conv => whnf); first | exact ⟨rfl, rfl, trivial⟩ | (refine ⟨by omega, ?_⟩; (conv => whnf); exact ⟨rfl, rfl, trivial⟩))); (conv => whnf))
    (apply Exists.intro; apply And.intro; (focus ((conv => whnf); first | exact ⟨rfl, rfl, trivial⟩ | (refine ⟨by omega, ?_⟩; (conv => whnf); exact ⟨rfl, rfl, trivial⟩))); (conv => whnf))
    (apply Exists.intro; apply And.intro; (focus ((conv => whnf); first | exact ⟨rfl, rfl, trivial⟩ | (refine ⟨by omega, ?_⟩; (conv => whnf); exact ⟨rfl, rfl, trivial⟩))); (conv => whnf))
    (apply Exists.intro; apply And.intro; (focus ((conv => whnf); first | exact ⟨rfl, rfl, trivial⟩ | (refine ⟨by omega, ?_⟩; (conv => whnf); exact ⟨rfl, rfl, trivial⟩))); (conv => whnf))
    (apply Exists.intro; apply And.intro; (focus ((conv => whnf); first | exact ⟨rfl, rfl, trivial⟩ | (refine ⟨by omega, ?_⟩; (conv => whnf); exact ⟨rfl, rfl, trivial⟩))); (conv => whnf))
    refine ⟨_, callK_pure (c45 p.r p.n hr hn) ⟨rfl, rfl, trivial⟩, ?_⟩
    (conv => whnf)
    (apply Exists.intro; apply And.intro; (focus ((conv => whnf); first | exact ⟨rfl, rfl, trivial⟩ | (refine ⟨by omega, ?_⟩; (conv => whnf); exact ⟨rfl, rfl, trivial⟩))); (conv => whnf))
    (apply Exists.intro; apply And.intro; (focus ((conv => whnf); first | exact ⟨rfl, rfl, trivial⟩ | (refine ⟨by omega, ?_⟩; (conv => whnf); exact ⟨rfl, rfl, trivial⟩))); (conv => whnf))
    refine ⟨_, callK_pure (c46p (keyB p.k) (by omega)) ⟨rfl, rfl, trivial⟩, ?_⟩
    (conv => whnf)
    (apply Exists.intro; apply And.intro; (focus ((conv => whnf); first | exact ⟨rfl, rfl, trivial⟩ | (refine ⟨by omega, ?_⟩; (conv => whnf); exact ⟨rfl, rfl, trivial⟩))); (conv => whnf))
    (apply Exists.intro; apply And.intro; (focus ((conv => whnf); first | exact ⟨rfl, rfl, trivial⟩ | (refine ⟨by omega, ?_⟩; (conv => whnf); exact ⟨rfl, rfl, trivial⟩))); (conv => whnf))
    refine ⟨_, callK_pure (c47p p.tr (by omega)) ⟨rfl, rfl, trivial⟩, ?_⟩
    (conv => whnf)
    (apply Exists.intro; apply And.intro; (focus ((conv => whnf); first | exact ⟨rfl, rfl, trivial⟩ | (refine ⟨by omega, ?_⟩; (conv => whnf); exact ⟨rfl, rfl, trivial⟩))); (conv => whnf))
    (apply Exists.intro; apply And.intro; (focus ((conv => whnf); first | exact ⟨rfl, rfl, trivial⟩ | (refine ⟨by omega, ?_⟩; (conv => whnf); exact ⟨rfl, rfl, trivial⟩))); (conv => whnf))
    refine ⟨_, callK_pure (c48 p.st) ⟨rfl, rfl, trivial⟩, ?_⟩
    (conv => whnf)
    (apply Exists.intro; apply And.intro; (focus ((conv => whnf); first | exact ⟨rfl, rfl, trivial⟩ | (refine ⟨by omega, ?_⟩; (conv => whnf); exact ⟨rfl, rfl, trivial⟩))); (conv => whnf))
    (apply Exists.intro; apply And.intro; (focus ((conv => whnf); first | exact ⟨rfl, rfl, trivial⟩ | (refine ⟨by omega, ?_⟩; (conv => whnf); exact ⟨rfl, rfl, trivial⟩))); (conv => whnf))
    refine ⟨_, callK_pure (c48 p.en) ⟨rfl, rfl, trivial⟩, ?_⟩
    (conv => whnf)
    (apply Exists.intro; apply And.intro; (focus ((conv => whnf); first | exact ⟨rfl, rfl, trivial⟩ | (refine ⟨by omega, ?_⟩; (conv => whnf); exact ⟨rfl, rfl, trivial⟩))); (conv => whnf))
    refine ⟨_, callK_pure (c44p 99 [princE p.r p.n, wrapB 4 (keyB p.k), wrapB 27 p.tr, intE p.st, intE p.en] (by simp) (by simp only [List.flatten_cons, List.flatten_nil, List.length_append, List.length_nil]; omega)) ⟨rfl, rfl, trivial⟩, ?_⟩
    (conv => whnf)
    have hb : isPartB p = false := by unfold isPartB; simp only [f1, f2, Bool.and_true, Bool.true_and, Bool.and_false, Bool.false_and]
    refine ⟨_, callK_pure ((c40 false (partL p)).of_eq (limV_no (fun h => by cases h.1))) ⟨rfl, rfl, trivial⟩, ?_⟩
    (conv => whnf)
    (apply Exists.intro; apply And.intro; (focus ((conv => whnf); first | exact ⟨rfl, rfl, trivial⟩ | (refine ⟨by omega, ?_⟩; (conv => whnf); exact ⟨rfl, rfl, trivial⟩))); (conv => whnf))
    (apply Exists.intro; apply And.intro; (focus ((conv => whnf); first | exact ⟨rfl, rfl, trivial⟩ | (refine ⟨by omega, ?_⟩; (conv => whnf); exact ⟨rfl, rfl, trivial⟩))); (conv => whnf))
    (apply Exists.intro; apply And.intro; (focus ((conv => whnf); first | exact ⟨rfl, rfl, trivial⟩ | (refine ⟨by omega, ?_⟩; (conv => whnf); exact ⟨rfl, rfl, trivial⟩))); (conv => whnf))
    (apply Exists.intro; apply And.intro; (focus ((conv => whnf); first | exact ⟨rfl, rfl, trivial⟩ | (refine ⟨by omega, ?_⟩; (conv => whnf); exact ⟨rfl, rfl, trivial⟩))); (conv => whnf))
    exact ⟨(encPV_no (fun h => by rw [hb] at h; cases h.1)).symm, rfl⟩
  (apply Exists.intro; apply And.intro; (focus ((conv => whnf); first | exact ⟨rfl, rfl, trivial⟩ | (refine ⟨by omega, ?_⟩; (conv => whnf); exact ⟨rfl, rfl, trivial⟩))); (conv => whnf))
  (apply Exists.intro; apply And.intro; (focus ((conv => whnf); first | exact ⟨rfl, rfl, trivial⟩ | (refine ⟨by omega, ?_⟩; (conv => whnf); exact ⟨rfl, rfl, trivial⟩))); (conv => whnf))
  (apply Exists.intro; apply And.intro; (focus ((conv => whnf); first | exact ⟨rfl, rfl, trivial⟩ | (refine ⟨by omega, ?_⟩; (conv => whnf); exact ⟨rfl, rfl, trivial⟩))); (conv => whnf))
  (apply Exists.intro; apply And.intro; (focus ((conv => whnf); first | exact ⟨rfl, rfl, trivial⟩ | (refine ⟨by omega, ?_⟩; (conv => whnf); exact ⟨rfl, rfl, trivial⟩))); (conv => whnf))
  (apply Exists.intro; apply And.intro; (focus ((conv => whnf); first | exact ⟨rfl, rfl, trivial⟩ | (refine ⟨by omega, ?_⟩; (conv => whnf); exact ⟨rfl, rfl, trivial⟩))); (conv => whnf))
  (apply Exists.intro; apply And.intro; (focus ((conv => whnf); first | exact ⟨rfl, rfl, trivial⟩ | (refine ⟨by omega, ?_⟩; (conv => whnf); exact ⟨rfl, rfl, trivial⟩))); (conv => whnf))
  (apply Exists.intro; apply And.intro; (focus ((conv => whnf); first | exact ⟨rfl, rfl, trivial⟩ | (refine ⟨by omega, ?_⟩; (conv => whnf); exact ⟨rfl, rfl, trivial⟩))); (conv => whnf))
  refine ⟨_, callK_pure ((c43 [p.st, p.en] (by simp)).of_eq (show PV.bool (inZ p.st 0 1073741824 && (inZ p.en 0 1073741824 && true)) = .bool (inZ p.st 0 1073741824 && inZ p.en 0 1073741824) by rw [Bool.and_true])) ⟨rfl, rfl, trivial⟩, ?_⟩
  (conv => whnf)
  cases f3 : (inZ p.st 0 1073741824 && inZ p.en 0 1073741824)
  · (apply Exists.intro; apply And.intro; (focus ((conv => whnf); first | exact ⟨rfl, rfl, trivial⟩ | (refine ⟨by omega, ?_⟩; (conv => whnf); exact ⟨rfl, rfl, trivial⟩))); (conv => whnf))
    (apply Exists.intro; apply And.intro; (focus ((conv => whnf); first | exact ⟨rfl, rfl, trivial⟩ | (refine ⟨by omega, ?_⟩; (conv => whnf); exact ⟨rfl, rfl, trivial⟩))); (conv => whnf))
    (apply Exists.intro; apply And.intro; (focus ((conv => whnf); first | exact ⟨rfl, rfl, trivial⟩ | (refine ⟨by omega, ?_⟩; (conv => whnf); exact ⟨rfl, rfl, trivial⟩))); (conv => whnf))
    refine ⟨_, callK_pure (c45 p.r p.n hr hn) ⟨rfl, rfl, trivial⟩, ?_⟩
    (conv => whnf)
    (apply Exists.intro; apply And.intro; (focus ((conv => whnf); first | exact ⟨rfl, rfl, trivial⟩ | (refine ⟨by omega, ?_⟩; (conv => whnf); exact ⟨rfl, rfl, trivial⟩))); (conv => whnf))
    (apply Exists.intro; apply And.intro; (focus ((conv => whnf); first | exact ⟨rfl, rfl, trivial⟩ | (refine ⟨by omega, ?_⟩; (conv => whnf); exact ⟨rfl, rfl, trivial⟩))); (conv => whnf))
    refine ⟨_, callK_pure (c46p (keyB p.k) (by omega)) ⟨rfl, rfl, trivial⟩, ?_⟩
    (conv => whnf)
    (apply Exists.intro; apply And.intro; (focus ((conv => whnf); first | exact ⟨rfl, rfl, trivial⟩ | (refine ⟨by omega, ?_⟩; (conv => whnf); exact ⟨rfl, rfl, trivial⟩))); (conv => whnf))
    (apply Exists.intro; apply And.intro; (focus ((conv => whnf); first | exact ⟨rfl, rfl, trivial⟩ | (refine ⟨by omega, ?_⟩; (conv => whnf); exact ⟨rfl, rfl, trivial⟩))); (conv => whnf))
    refine ⟨_, callK_pure (c47p p.tr (by omega)) ⟨rfl, rfl, trivial⟩, ?_⟩
    (conv => whnf)
    (apply Exists.intro; apply And.intro; (focus ((conv => whnf); first | exact ⟨rfl, rfl, trivial⟩ | (refine ⟨by omega, ?_⟩; (conv => whnf); exact ⟨rfl, rfl, trivial⟩))); (conv => whnf))
    (apply Exists.intro; apply And.intro; (focus ((conv => whnf); first | exact ⟨rfl, rfl, trivial⟩ | (refine ⟨by omega, ?_⟩; (conv => whnf); exact ⟨rfl, rfl, trivial⟩))); (conv => whnf))
    refine ⟨_, callK_pure (c48 p.st) ⟨rfl, rfl, trivial⟩, ?_⟩
    (conv => whnf)
    (apply Exists.intro; apply And.intro; (focus ((conv => whnf); first | exact ⟨rfl, rfl, trivial⟩ | (refine ⟨by omega, ?_⟩; (conv => whnf); exact ⟨rfl, rfl, trivial⟩))); (conv => whnf))
    (apply Exists.intro; apply And.intro; (focus ((conv => whnf); first | exact ⟨rfl, rfl, trivial⟩ | (refine ⟨by omega, ?_⟩; (conv => whnf); exact ⟨rfl, rfl, trivial⟩))); (conv => whnf))
    refine ⟨_, callK_pure (c48 p.en) ⟨rfl, rfl, trivial⟩, ?_⟩
    (conv => whnf)
    (apply Exists.intro; apply And.intro; (focus ((conv => whnf); first | exact ⟨rfl, rfl, trivial⟩ | (refine ⟨by omega, ?_⟩; (conv => whnf); exact ⟨rfl, rfl, trivial⟩))); (conv => whnf))
    refine ⟨_, callK_pure (c44p 99 [princE p.r p.n, wrapB 4 (keyB p.k), wrapB 27 p.tr, intE p.st, intE p.en] (by simp) (by simp only [List.flatten_cons, List.flatten_nil, List.length_append, List.length_nil]; omega)) ⟨rfl, rfl, trivial⟩, ?_⟩
    (conv => whnf)
    have hb : isPartB p = false := by unfold isPartB; simp only [f1, f2, f3, Bool.and_true, Bool.true_and, Bool.and_false, Bool.false_and]
    refine ⟨_, callK_pure ((c40 false (partL p)).of_eq (limV_no (fun h => by cases h.1))) ⟨rfl, rfl, trivial⟩, ?_⟩
    (conv => whnf)
    (apply Exists.intro; apply And.intro; (focus ((conv => whnf); first | exact ⟨rfl, rfl, trivial⟩ | (refine ⟨by omega, ?_⟩; (conv => whnf); exact ⟨rfl, rfl, trivial⟩))); (conv => whnf))
    (apply Exists.intro; apply And.intro; (focus ((conv => whnf); first | exact ⟨rfl, rfl, trivial⟩ | (refine ⟨by omega, ?_⟩; (conv => whnf); exact ⟨rfl, rfl, trivial⟩))); (conv => whnf))
    (apply Exists.intro; apply And.intro; (focus ((conv => whnf); first | exact ⟨rfl, rfl, trivial⟩ | (refine ⟨by omega, ?_⟩; (conv => whnf); exact ⟨rfl, rfl, trivial⟩))); (conv => whnf))
    (apply Exists.intro; apply And.intro; (focus ((conv => whnf); first | exact ⟨rfl, rfl, trivial⟩ | (refine ⟨by omega, ?_⟩; (conv => whnf); exact ⟨rfl, rfl, trivial⟩))); (conv => whnf))
    exact ⟨(encPV_no (fun h => by rw [hb] at h; cases h.1)).symm, rfl⟩
  (apply Exists.intro; apply And.intro; (focus ((conv => whnf); first | exact ⟨rfl, rfl, trivial⟩ | (refine ⟨by omega, ?_⟩; (conv => whnf); exact ⟨rfl, rfl, trivial⟩))); (conv => whnf))
  (apply Exists.intro; apply And.intro; (focus ((conv => whnf); first | exact ⟨rfl, rfl, trivial⟩ | (refine ⟨by omega, ?_⟩; (conv => whnf); exact ⟨rfl, rfl, trivial⟩))); (conv => whnf))
  (apply Exists.intro; apply And.intro; (focus ((conv => whnf); first | exact ⟨rfl, rfl, trivial⟩ | (refine ⟨by omega, ?_⟩; (conv => whnf); exact ⟨rfl, rfl, trivial⟩))); (conv => whnf))
  refine ⟨_, callK_pure (c45 p.r p.n hr hn) ⟨rfl, rfl, trivial⟩, ?_⟩
  (conv => whnf)
  (apply Exists.intro; apply And.intro; (focus ((conv => whnf); first | exact ⟨rfl, rfl, trivial⟩ | (refine ⟨by omega, ?_⟩; (conv => whnf); exact ⟨rfl, rfl, trivial⟩))); (conv => whnf))
  (apply Exists.intro; apply And.intro; (focus ((conv => whnf); first | exact ⟨rfl, rfl, trivial⟩ | (refine ⟨by omega, ?_⟩; (conv => whnf); exact ⟨rfl, rfl, trivial⟩))); (conv => whnf))
  refine ⟨_, callK_pure (c46p (keyB p.k) (by omega)) ⟨rfl, rfl, trivial⟩, ?_⟩
  (conv => whnf)
  (apply Exists.intro; apply And.intro; (focus ((conv => whnf); first | exact ⟨rfl, rfl, trivial⟩ | (refine ⟨by omega, ?_⟩; (conv => whnf); exact ⟨rfl, rfl, trivial⟩))); (conv => whnf))
  (apply Exists.intro; apply And.intro; (focus ((conv => whnf); first | exact ⟨rfl, rfl, trivial⟩ | (refine ⟨by omega, ?_⟩; (conv => whnf); exact ⟨rfl, rfl, trivial⟩))); (conv => whnf))
  refine ⟨_, callK_pure (c47p p.tr (by omega)) ⟨rfl, rfl, trivial⟩, ?_⟩
  (conv => whnf)
  (apply Exists.intro; apply And.intro; (focus ((conv => whnf); first | exact ⟨rfl, rfl, trivial⟩ | (refine ⟨by omega, ?_⟩; (conv => whnf); exact ⟨rfl, rfl, trivial⟩))); (conv => whnf))
  (apply Exists.intro; apply And.intro; (focus ((conv => whnf); first | exact ⟨rfl, rfl, trivial⟩ | (refine ⟨by omega, ?_⟩; (conv => whnf); exact ⟨rfl, rfl, trivial⟩))); (conv => whnf))
  refine ⟨_, callK_pure (c48 p.st) ⟨rfl, rfl, trivial⟩, ?_⟩
  (conv => whnf)
  (apply Exists.intro; apply And.intro; (focus ((conv => whnf); first | exact ⟨rfl, rfl, trivial⟩ | (refine ⟨by omega, ?_⟩; (conv => whnf); exact ⟨rfl, rfl, trivial⟩))); (conv => whnf))
  (apply Exists.intro; apply And.intro; (focus ((conv => whnf); first | exact ⟨rfl, rfl, trivial⟩ | (refine ⟨by omega, ?_⟩; (conv => whnf); exact ⟨rfl, rfl, trivial⟩))); (conv => whnf))
  refine ⟨_, callK_pure (c48 p.en) ⟨rfl, rfl, trivial⟩, ?_⟩
  (conv => whnf)
  (apply Exists.intro; apply And.intro; (focus ((conv => whnf); first | exact ⟨rfl, rfl, trivial⟩ | (refine ⟨by omega, ?_⟩; (conv => whnf); exact ⟨rfl, rfl, trivial⟩))); (conv => whnf))
  refine ⟨_, callK_pure (c44p 99 [princE p.r p.n, wrapB 4 (keyB p.k), wrapB 27 p.tr, intE p.st, intE p.en] (by simp) (by simp only [List.flatten_cons, List.flatten_nil, List.length_append, List.length_nil]; omega)) ⟨rfl, rfl, trivial⟩, ?_⟩
  (conv => whnf)
  have hb : isPartB p = true := by unfold isPartB; simp only [f1, f2, f3, Bool.and_true, Bool.true_and, Bool.and_false, Bool.false_and]
  by_cases hlen : (partL p).length ≤ 2000
  · have hlim := limV_yes (ok := true) (b := partL p) ⟨rfl, hlen⟩
    refine ⟨_, callK_pure ((c40 true (partL p)).of_eq hlim) ⟨rfl, rfl, trivial⟩, ?_⟩
    (conv => whnf)
    (apply Exists.intro; apply And.intro; (focus ((conv => whnf); first | exact ⟨rfl, rfl, trivial⟩ | (refine ⟨by omega, ?_⟩; (conv => whnf); exact ⟨rfl, rfl, trivial⟩))); (conv => whnf))
    (apply Exists.intro; apply And.intro; (focus ((conv => whnf); first | exact ⟨rfl, rfl, trivial⟩ | (refine ⟨by omega, ?_⟩; (conv => whnf); exact ⟨rfl, rfl, trivial⟩))); (conv => whnf))
    (apply Exists.intro; apply And.intro; (focus ((conv => whnf); first | exact ⟨rfl, rfl, trivial⟩ | (refine ⟨by omega, ?_⟩; (conv => whnf); exact ⟨rfl, rfl, trivial⟩))); (conv => whnf))
    (apply Exists.intro; apply And.intro; (focus ((conv => whnf); first | exact ⟨rfl, rfl, trivial⟩ | (refine ⟨by omega, ?_⟩; (conv => whnf); exact ⟨rfl, rfl, trivial⟩))); (conv => whnf))
    exact ⟨(encPV_yes ⟨hb, hlen⟩).symm, rfl⟩
  · have hlim := limV_no (ok := true) (b := partL p) (fun h => hlen h.2)
    refine ⟨_, callK_pure ((c40 true (partL p)).of_eq hlim) ⟨rfl, rfl, trivial⟩, ?_⟩
    (conv => whnf)
    (apply Exists.intro; apply And.intro; (focus ((conv => whnf); first | exact ⟨rfl, rfl, trivial⟩ | (refine ⟨by omega, ?_⟩; (conv => whnf); exact ⟨rfl, rfl, trivial⟩))); (conv => whnf))
    (apply Exists.intro; apply And.intro; (focus ((conv => whnf); first | exact ⟨rfl, rfl, trivial⟩ | (refine ⟨by omega, ?_⟩; (conv => whnf); exact ⟨rfl, rfl, trivial⟩))); (conv => whnf))
    (apply Exists.intro; apply And.intro; (focus ((conv => whnf); first | exact ⟨rfl, rfl, trivial⟩ | (refine ⟨by omega, ?_⟩; (conv => whnf); exact ⟨rfl, rfl, trivial⟩))); (conv => whnf))
    (apply Exists.intro; apply And.intro; (focus ((conv => whnf); first | exact ⟨rfl, rfl, trivial⟩ | (refine ⟨by omega, ?_⟩; (conv => whnf); exact ⟨rfl, rfl, trivial⟩))); (conv => whnf))
    exact ⟨(encPV_no (fun h => hlen h.2)).symm, rfl⟩
end Go.Proofs.Tryd

set_option maxRecDepth 100000
set_option maxHeartbeats 2000000
set_option linter.unusedVariables false
set_option linter.unusedSimpArgs false
namespace Go.Proofs.Tryd
open Go Ps
def zPrt : Prt := ⟨[], [], fun _ => 0, [], 0, 0⟩
/-- Is a part laid just so? -/
def okPrt (p : Prt) (b : List UInt8) : Bool := isPartB p && (decide ((partL p).length ≤ 2000) && decide (partL p = b))
theorem get_mid (H : PH) (o o' : PObj) : (H ++ [o] ++ [o'])[H.length]? = some o := by
  rw [List.getElem?_append_left (by simp)]; exact get_last _ _
def agPV (p : Prt) (b : List UInt8) : PV := match okPrt p b with
  | true => .tup [.agg p.cells, .int .i64 0]
  | false => .tup [.agg zPrt.cells, .int .i64 2]
theorem agPV_yes {p : Prt} {b : List UInt8} (h : okPrt p b = true) : agPV p b = .tup [.agg p.cells, .int .i64 0] := by unfold agPV; rw [h]
theorem agPV_no {p : Prt} {b : List UInt8} (h : okPrt p b = false) : agPV p b = .tup [.agg zPrt.cells, .int .i64 2] := by unfold agPV; rw [h]
theorem c54x (p : Prt) (b : List UInt8) (hr : p.r.length ≤ 1000000) (hn : p.n.length ≤ 1000000) (ht : p.tr.length ≤ 1000000) (H : PH) :
    CallOk prog 54 [sl b, .agg p.cells, .func 22 [] []] H fun r H' => r = agPV p b ∧ ∃ ext, H' = H ++ ext := by
  (refine callOk_of_pFun2 (tt := ttC) (imm := imm54) follows ttC_ok depth6 func54 (by kernel_rfl) ?_; (conv => whnf))
  have e : ∀ {x : Bool}, okPrt p b = x → agPV p b = match x with
    | true => .tup [.agg p.cells, .int .i64 0]
    | false => .tup [.agg zPrt.cells, .int .i64 2] := fun h => by unfold agPV; rw [h]
  by_cases hb : isPartB p = true ∧ (partL p).length ≤ 2000
  · refine callK_pure ((c22 p hr hn ht).of_eq (encPV_yes hb)) ?_
    (conv => whnf)
    refine ⟨fun _ => ?_, fun h => absurd rfl h⟩
    (conv => whnf)
    refine callK_pure (c78 (partL p) b) ?_
    cases hq : decide (partL p = b)
    · have hk : okPrt p b = false := by unfold okPrt; rw [hq, Bool.and_false, Bool.and_false]
      rw [e hk]
      (conv => whnf)
      ((conv in (_[_]?) => tactic => exact get_last _ _); (conv => whnf))
      ((conv in (_[_]?) => tactic => exact get_mid _ _ _); (conv => whnf))
      ((conv in (_[_]?) => tactic => exact get_set (get_mid _ _ _)); (conv => whnf))
      exact ⟨rfl, (((Ext.refl H).push _).push _).set (Nat.le_refl _) _⟩
    · have hk : okPrt p b = true := by unfold okPrt; rw [hq, hb.1, decide_eq_true hb.2]; rfl
      rw [e hk]
      (conv => whnf)
      ((conv in (_[_]?) => tactic => exact get_mid _ _ _); (conv => whnf))
      ((conv in (_[_]?) => tactic => exact get_set (get_mid _ _ _)); (conv => whnf))
      exact ⟨rfl, (((Ext.refl H).push _).push _).set (Nat.le_refl _) _⟩
  · refine callK_pure ((c22 p hr hn ht).of_eq (encPV_no hb)) ?_
    have hk : okPrt p b = false := by
      unfold okPrt
      cases h1 : isPartB p
      · rfl
      · rw [decide_eq_false (fun h2 => hb ⟨h1, h2⟩)]; rfl
    rw [e hk]
    (conv => whnf)
    refine ⟨fun h => absurd h (by decide), fun _ => ?_⟩
    (conv => whnf)
    ((conv in (_[_]?) => tactic => exact get_last _ _); (conv => whnf))
    ((conv in (_[_]?) => tactic => exact get_mid _ _ _); (conv => whnf))
    ((conv in (_[_]?) => tactic => exact get_set (get_mid _ _ _)); (conv => whnf))
    exact ⟨rfl, (((Ext.refl H).push _).push _).set (Nat.le_refl _) _⟩
theorem c54 (p : Prt) (b : List UInt8) (hr : p.r.length ≤ 1000000) (hn : p.n.length ≤ 1000000) (ht : p.tr.length ≤ 1000000) : Pure prog 54 [sl b, .agg p.cells, .func 22 [] []] (agPV p b) :=
  Pure.of_gc (by unfold agPV; cases okPrt p b <;> rfl) (c54x p b hr hn ht)
/-- Where a part is taken: the result's place, the taker's, the cursor, the part's. -/
structure DecS (T : Nat) (zc : List PV) (H K : PH) (a d q : Nat) (s : Option (List UInt8)) (cells : List PV) (ver : Nat) : Prop where
  z : K[H.length]? = some ⟨T, zc, 0⟩
  c : K[a]? = some ⟨104, [.ptr (some (d, 0))], 1⟩
  p : K[q]? = some ⟨T, cells, ver⟩
  cur : curAt K d s
  up : Upd (fun _ => False) H K
  o1 : H.length < d
  o2 : d < a
  o3 : a < q
theorem DecS.call {T : Nat} {zc : List PV} {H K K' : PH} {a d q : Nat} {s s' : Option (List UInt8)} {cells : List PV} {ver : Nat} (h : DecS T zc H K a d q s cells ver) (u : Upd (· = d) K K') (c : curAt K' d s') :
    DecS T zc H K' a d q s' cells ver := by
  have o1 := h.o1
  have o2 := h.o2
  have o3 := h.o3
  have lt : ∀ {i : Nat} {o : PObj}, K[i]? = some o → i < K.length := fun h => (List.getElem?_eq_some_iff.1 h).1
  refine ⟨(u.2 _ (lt h.z) (by omega)).trans h.z, (u.2 _ (lt h.c) (by omega)).trans h.c, (u.2 _ (lt h.p) (by omega)).trans h.p, c, h.up.over u (fun i hi e => by omega), o1, o2, o3⟩
theorem DecS.store {T : Nat} {zc : List PV} {H K : PH} {a d q : Nat} {s : Option (List UInt8)} {cells : List PV} {ver : Nat} (h : DecS T zc H K a d q s cells ver) (cells' : List PV) (ver' : Nat) :
    DecS T zc H (K.set q ⟨T, cells', ver'⟩) a d q s cells' ver' := by
  have o1 := h.o1
  have o2 := h.o2
  have o3 := h.o3
  refine ⟨?_, ?_, get_set h.p, h.cur.set_ne (by omega) _, h.up.set (.inr (by omega)) _, o1, o2, o3⟩
  · rw [List.getElem?_set_ne (by omega)]; exact h.z
  · rw [List.getElem?_set_ne (by omega)]; exact h.c
theorem getD_len {o : Option (List UInt8)} {B : Nat} (h : ∀ l, o = some l → l.length ≤ B ∧ l.length ≤ 65535) : (o.getD []).length ≤ 65535 := by
  cases o with
  | none => exact Nat.zero_le _
  | some l => exact (h l rfl).2
/-- The beginning of taking: the result's place, a taker, the cursor. -/
theorem dec_begin {T : Nat} {zc : List PV} {H H2 : PH} {d : Nat} {s : Option (List UInt8)} (h1 : (H ++ [PObj.mk T zc 0]).length ≤ d) (u : Upd (fun _ => False) (H ++ [PObj.mk T zc 0]) H2) (c : curAt H2 d s) :
    H.length < d ∧ d < H2.length ∧ ((H2 ++ [PObj.mk 104 [.ptr none] 0]).set H2.length (PObj.mk 104 [.ptr (some (d, 0))] 1))[H.length]? = some ⟨T, zc, 0⟩ ∧ ((H2 ++ [PObj.mk 104 [.ptr none] 0]).set H2.length (PObj.mk 104 [.ptr (some (d, 0))] 1))[H2.length]? = some ⟨104, [.ptr (some (d, 0))], 1⟩ ∧
      curAt ((H2 ++ [PObj.mk 104 [.ptr none] 0]).set H2.length (PObj.mk 104 [.ptr (some (d, 0))] 1)) d s ∧ Upd (fun _ => False) H ((H2 ++ [PObj.mk 104 [.ptr none] 0]).set H2.length (PObj.mk 104 [.ptr (some (d, 0))] 1)) := by
  have hl := c.lt
  have h1 : H.length + 1 ≤ d := by simpa using h1
  rw [set_last]
  refine ⟨h1, hl, ?_, get_last _ _, c.keep (X := fun _ => False) ((Upd.refl H2).push _) (fun f => f), ?_⟩
  · rw [List.getElem?_append_left (by omega), u.2 _ (by simp) (fun f => f)]; exact get_last _ _
  · exact (((Upd.refl H).push _).over u (fun i hi f => f)).push _
theorem dec_part {T : Nat} {zc : List PV} {H K0 K : PH} {a d : Nat} {s : Option (List UInt8)} (o1 : H.length < d) (o2 : d < a) (hz : K0[H.length]? = some ⟨T, zc, 0⟩) (hc : K0[a]? = some ⟨104, [.ptr (some (d, 0))], 1⟩)
    (up : Upd (fun _ => False) H K0) (u : Upd (· = d) K0 K) (c : curAt K d s) (cells : List PV) (ver : Nat) : DecS T zc H ((K ++ [PObj.mk T zc 0]).set K.length ⟨T, cells, ver⟩) a d K.length s cells ver := by
  rw [set_last]
  have lt : ∀ {i : Nat} {o : PObj}, K0[i]? = some o → i < K0.length := fun h => (List.getElem?_eq_some_iff.1 h).1
  have l1 := lt hz
  have l2 := lt hc
  have l3 := u.1
  refine ⟨?_, ?_, get_last _ _, c.keep (X := fun _ => False) ((Upd.refl K).push _) (fun f => f), (up.over u (fun i hi e => by omega)).push _, o1, o2, by omega⟩
  · rw [List.getElem?_append_left (by omega), u.2 _ l1 (by omega)]; exact hz
  · rw [List.getElem?_append_left (by omega), u.2 _ l2 (by omega)]; exact hc
end Go.Proofs.Tryd

set_option maxRecDepth 100000
set_option maxHeartbeats 2000000
set_option linter.unusedVariables false
set_option linter.unusedSimpArgs false
namespace Go.Proofs.Tryd
open Go Ps
theorem c23x (b : List UInt8) (hb : b.length ≤ 140737488355328) (H : PH) : CallOk prog 23 [sl b] H fun r H' => r = agPV (partC b) b ∧ ∃ ext, H' = H ++ ext := by
  (refine callOk_of_pFun2 (tt := ttC) (imm := imm23) follows ttC_ok depth6 func23 (by kernel_rfl) ?_; (conv => whnf))
  refine callK_of (c49 b 99 hb (H ++ [PObj.mk 71 zPrt.cells 0])) ?_
  rintro _ H2 ⟨d, rfl, k1, k2, k3⟩
  obtain ⟨o1, o2, e1, e2, e3, e4⟩ := dec_begin k1 k2 k3
  have hs0 : ∀ l, (elemC 99 (some b)).2 = some l → l.length ≤ 140737488355328 := fun l h => ((elemC_len (tag := 99) (fun l h => by cases h; exact hb)).2 l h).1
  show _
  unfold partC
  generalize (elemC 99 (some b)).2 = s at hs0 k3 e3
  unfold partD
  have hs1 := (elemC_len (tag := 48) hs0).1
  have hq := (elemC_len (tag := 48) hs0).2
  have hr := getD_len (elemC_len (tag := 27) (fun l h => (hq l h).1)).2
  have hn := getD_len (elemC_len (tag := 27) (elemC_len (tag := 27) (fun l h => (hq l h).1)).1).2
  have hs2 := (elemC_len (tag := 4) hs1).1
  have hs3 := (elemC_len (tag := 27) hs2).1
  have ht := getD_len (elemC_len (tag := 27) hs2).2
  have hs4 := intC_len hs3
  (conv => whnf)
  ((conv in (_[_]?) => tactic => exact get_last _ _); (conv => whnf))
  ((conv in (_[_]?) => tactic => exact e2); (conv => whnf))
  refine callK_of (c50 d s _ e3 hs0) ?_
  rintro _ K1 ⟨rfl, u1, g1⟩
  have D1 := dec_part o1 o2 e1 e2 e4 u1 g1 (Prt.mk (princC s).2.1 (princC s).2.2 (fun _ => 0) [] 0 0).cells 1
  (conv => whnf)
  ((conv in (_[_]?) => tactic => exact get_last _ _); (conv => whnf))
  ((conv in (_[_]?) => tactic => exact D1.c); (conv => whnf))
  refine callK_of (c51 d _ _ D1.cur hs1) ?_
  rintro _ K2 ⟨rfl, u2, g2⟩
  have D2 := D1.call u2 g2
  (conv => whnf)
  ((conv in (_[_]?) => tactic => exact D2.p); (conv => whnf))
  have D3 := D2.store (Prt.mk (princC s).2.1 (princC s).2.2 (keyOf (octC (princC s).1).2) [] 0 0).cells 2
  ((conv in (_[_]?) => tactic => exact D3.c); (conv => whnf))
  refine callK_of (c52 d _ _ D3.cur hs2) ?_
  rintro _ K4 ⟨rfl, u4, g4⟩
  have D4 := D3.call u4 g4
  (conv => whnf)
  ((conv in (_[_]?) => tactic => exact D4.p); (conv => whnf))
  have D5 := D4.store (Prt.mk (princC s).2.1 (princC s).2.2 (keyOf (octC (princC s).1).2) (txtC (octC (princC s).1).1).2 0 0).cells 3
  ((conv in (_[_]?) => tactic => exact D5.c); (conv => whnf))
  refine callK_of (c53 d _ _ D5.cur hs3) ?_
  rintro _ K6 ⟨rfl, u6, g6⟩
  have D6 := D5.call u6 g6
  (conv => whnf)
  ((conv in (_[_]?) => tactic => exact D6.p); (conv => whnf))
  have D7 := D6.store (Prt.mk (princC s).2.1 (princC s).2.2 (keyOf (octC (princC s).1).2) (txtC (octC (princC s).1).1).2 (intC (txtC (octC (princC s).1).1).1).2 0).cells 4
  ((conv in (_[_]?) => tactic => exact D7.c); (conv => whnf))
  refine callK_of (c53 d _ _ D7.cur hs4) ?_
  rintro _ K8 ⟨rfl, u8, g8⟩
  have D8 := D7.call u8 g8
  (conv => whnf)
  ((conv in (_[_]?) => tactic => exact D8.p); (conv => whnf))
  have D9 := D8.store (partD s).cells 5
  ((conv in (_[_]?) => tactic => exact D9.p); (conv => whnf))
  refine callK_pure (c54 (partD s) b (by unfold partD; exact Nat.le_trans hr (by decide)) (by unfold partD; exact Nat.le_trans hn (by decide)) (by unfold partD; exact Nat.le_trans ht (by decide))) ?_
  have hw : K8.length ≥ H.length := by have := D8.up.1; omega
  cases hk : okPrt (partD s) b
  · rw [agPV_no hk]
    (conv => whnf)
    ((conv in (_[_]?) => tactic => exact D9.z); (conv => whnf))
    ((conv in (_[_]?) => tactic => exact get_set D9.z); (conv => whnf))
    refine ⟨(agPV_no hk).symm, ?_⟩
    exact Upd.ext (D9.up.set (.inr (Nat.le_refl _)) _)
  · rw [agPV_yes hk]
    (conv => whnf)
    ((conv in (_[_]?) => tactic => exact D9.z); (conv => whnf))
    ((conv in (_[_]?) => tactic => exact get_set D9.z); (conv => whnf))
    refine ⟨(agPV_yes hk).symm, ?_⟩
    exact Upd.ext (D9.up.set (.inr (Nat.le_refl _)) _)
theorem c23 (b : List UInt8) (hb : b.length ≤ 140737488355328) : Pure prog 23 [sl b] (agPV (partC b) b) := Pure.of_gc (by unfold agPV; cases okPrt (partC b) b <;> rfl) (c23x b hb)
end Go.Proofs.Tryd

set_option maxRecDepth 100000
set_option maxHeartbeats 2000000
set_option linter.unusedVariables false
set_option linter.unusedSimpArgs false
namespace Go.Proofs.Tryd
open Go Ps
structure TxS where
  i : Nat
def txB (s : List UInt8) (i : Nat) : Bool := decide (s.length ≤ 300) && (s.take i).all okT8
theorem txB_all (s : List UInt8) : txB s s.length = isTextB s := by unfold txB isTextB; rw [List.take_length]
theorem txB_next (s : List UInt8) (i : Nat) (h : i < s.length) : txB s (i + 1) = (txB s i && okT8 s[i]) := by
  unfold txB
  rw [List.take_succ_eq_append_getElem h, List.all_append, Bool.and_assoc]
  simp
def pTx (s : List UInt8) : Prt := ⟨[65], [120], fun _ => 0, s, 0, 0⟩
theorem pTx_is (s : List UInt8) : isPartB (pTx s) = isTextB s := by
  unfold isPartB pTx
  rw [show isPrincB [65] [120] = true by decide]
  show (true && isTextB s && (true && true)) = _
  rw [Bool.true_and, Bool.and_true, Bool.and_true]
theorem fitBytes (d : Nat) : ∀ (l : List UInt8), FitAs (FitP ttC (d + 1) 5) 1 l.length (l.map byteC)
  | [] => rfl
  | x :: l => ⟨⟨by simp, (x.toNat : Int), rfl⟩, fitBytes d l⟩
theorem fitPrt (p : Prt) : FitP ttC 6 71 p.cells :=
  ⟨rfl, ⟨by show 2 ≤ 37; omega, ⟨rfl, ⟨by show 1 ≤ 2; omega, p.r, rfl⟩, rfl, ⟨by show 1 ≤ 1; omega, p.n, rfl⟩, rfl⟩⟩, rfl, ⟨by show 32 ≤ 35; omega, by show 0 < 32; omega, fitBytes 3 (keyB p.k)⟩, rfl, ⟨by show 1 ≤ 3; omega, p.tr, rfl⟩, rfl, ⟨by show 1 ≤ 2; omega, p.st, rfl⟩, rfl, ⟨by show 1 ≤ 1; omega, p.en, rfl⟩, rfl⟩
def imm9' : List Nat := [1000003]
theorem tx0 (s : List UInt8) : txB s 0 = decide (s.length ≤ 300) := by unfold txB; rw [List.take_zero]; exact Bool.and_true _
theorem c9 (s : List UInt8) : CallOk prog 9 [slo s none] [] fun r _ => r = .bool true := by
  (refine callOk_of_pFun2 (tt := ttC) (imm := imm9') follows ttC_ok depth6 func9 (by kernel_rfl) ?_; (conv => whnf))
  refine ⟨fun h => ?_, fun h => ?_⟩
  · (conv => whnf)
    rfl
  have h : ¬ (400 : Int) < (s.length : Int) := h
  (conv => whnf)
  refine cutK_of [(0, sl s), (3, .bool (txB s 0))] [] ?_ ?_
  rotate_left
  · (conv => whnf)
    refine ⟨fun h3 => ?_, fun h3 => ?_⟩
    · (conv => whnf)
      have h3 : (s.length : Int) ≤ 300 := h3
      exact ⟨(), trivial, ⟨rfl, by rw [tx0, decide_eq_true (by omega)]; rfl, trivial⟩, rfl⟩
    · (conv => whnf)
      have h3 : ¬ (s.length : Int) ≤ 300 := h3
      exact ⟨(), trivial, ⟨rfl, by rw [tx0, decide_eq_false (by omega)]; rfl, trivial⟩, rfl⟩
  (conv => whnf)
  refine loopK_of TxS (fun x => [(0, sl s), (4, .int .i64 x.i), (3, .bool (txB s x.i))]) (fun _ => []) (fun x => x.i ≤ s.length) (fun x => s.length - x.i)
    ⟨⟨0⟩, Nat.zero_le _, ⟨rfl, rfl, rfl, trivial⟩, rfl⟩ ?_
  rintro ⟨i⟩ hi
  have hi : i ≤ s.length := hi
  (conv => whnf)
  refine ⟨fun h5 => ?_, fun h5 => ?_⟩
  · (conv => whnf)
    have h5 : (i : Int) < (s.length : Int) := h5
    have hlt : i < s.length := by omega
    have hnx := txB_next s i hlt
    have hw : PV.int .i64 (IntKind.i64.wrap ((i : Int) + 1)) = PV.int .i64 ((i + 1 : Nat) : Int) := by rw [wrap64 (by omega) (by omega)]; rfl
    have hi1 : i + 1 ≤ s.length := hlt
    have hm1 : s.length - (i + 1) < s.length - i := by omega
    cases hq : txB s i
    · rw [hq, Bool.false_and] at hnx
      (conv => whnf)
      exact ⟨⟨i + 1⟩, hi1, ⟨rfl, hw, by rw [hnx]; rfl, trivial⟩, rfl, hm1⟩
    · rw [hq, Bool.true_and] at hnx
      have hat : (s.map byteC)[(i : Int).toNat * 1]? = some (byteC s[i]) := by
        rw [Int.toNat_natCast, Nat.mul_one, List.getElem?_map, List.getElem?_eq_getElem hlt]; rfl
      (conv => whnf)
      refine ⟨⟨by show (0 : Int) ≤ (i : Int); omega, h5⟩, [byteC s[i]], at1 hat, ?_⟩
      (conv => whnf)
      refine ⟨fun b1 => ?_, fun b1 => ?_⟩
      · (conv => whnf)
        have b1 : (32 : Int) ≤ (s[i].toNat : Int) := b1
        refine ⟨⟨by show (0 : Int) ≤ (i : Int); omega, h5⟩, [byteC s[i]], at1 hat, ?_⟩
        (conv => whnf)
        refine ⟨fun b2 => ?_, fun b2 => ?_⟩
        · (conv => whnf)
          have b2 : (s[i].toNat : Int) ≤ 126 := b2
          have hk : okT8 s[i] = true := by unfold okT8; rw [decide_eq_true (by omega), decide_eq_true (by omega)]; rfl
          exact ⟨⟨i + 1⟩, hi1, ⟨rfl, hw, by rw [hnx, hk]; rfl, trivial⟩, rfl, hm1⟩
        · (conv => whnf)
          have b2 : ¬ (s[i].toNat : Int) ≤ 126 := b2
          have hk : okT8 s[i] = false := by unfold okT8; rw [decide_eq_false (show ¬ s[i].toNat ≤ 126 by omega), Bool.and_false]
          exact ⟨⟨i + 1⟩, hi1, ⟨rfl, hw, by rw [hnx, hk]; rfl, trivial⟩, rfl, hm1⟩
      · (conv => whnf)
        have b1 : ¬ (32 : Int) ≤ (s[i].toNat : Int) := b1
        have hk : okT8 s[i] = false := by unfold okT8; rw [decide_eq_false (show ¬ 32 ≤ s[i].toNat by omega), Bool.false_and]
        exact ⟨⟨i + 1⟩, hi1, ⟨rfl, hw, by rw [hnx, hk]; rfl, trivial⟩, rfl, hm1⟩
  · (conv => whnf)
    have h5 : ¬ (i : Int) < (s.length : Int) := h5
    have hi2 : i = s.length := by omega
    subst hi2
    rw [txB_all]
    refine ⟨s, ⟨rfl, rfl⟩, ?_⟩
    (conv => whnf)
    have hp := c22 (pTx s) (by show 1 ≤ _; omega) (by show 1 ≤ _; omega) (by show s.length ≤ _; omega)
    cases ht : isTextB s
    · have hno : ¬ (isPartB (pTx s) = true ∧ (partL (pTx s)).length ≤ 2000) := fun hh => by rw [pTx_is, ht] at hh; cases hh.1
      refine callK_pure (hp.of_eq (encPV_no hno)) ?_
      (conv => whnf)
      refine ⟨fun _ => ?_, fun h => absurd rfl h⟩
      (conv => whnf)
      refine ⟨fun _ => ?_, fun h => absurd rfl h⟩
      (conv => whnf)
      refine callK_pure c21 ?_
      (conv => whnf)
      rfl
    · have hl := part_len (pTx s)
      have h300 := isText_len ht
      have hl : (partL (pTx s)).length ≤ 2000 := by
        refine Nat.le_trans hl ?_
        show 1 + 1 + s.length + 88 ≤ 2000
        omega
      have hyes : isPartB (pTx s) = true ∧ (partL (pTx s)).length ≤ 2000 := ⟨by rw [pTx_is, ht], hl⟩
      have hsame := partC_laid (pTx s) hyes.1
      have hsm := part_same hsame
      have hok : okPrt (partC (partL (pTx s))) (partL (pTx s)) = true := by
        unfold okPrt
        rw [hsm.1, hsm.2, hyes.1, decide_eq_true hl, decide_eq_true rfl]; rfl
      have hcells : (partC (partL (pTx s))).cells = (pTx s).cells := by
        obtain ⟨g1, g2, g3, g4, g5, g6⟩ := hsame
        unfold Prt.cells
        rw [keyC_map, keyC_map, g1, g2, g3, g4, g5, g6]
      refine callK_pure (hp.of_eq (encPV_yes hyes)) ?_
      (conv => whnf)
      refine callK_pure ((c23 (partL (pTx s)) (by omega)).of_eq ((agPV_yes hok).trans (by rw [hcells]))) ?_
      (conv => whnf)
      refine ⟨fun _ => ?_, fun h => absurd rfl h⟩
      (conv => whnf)
      refine ⟨fun _ => ?_, fun h => absurd rfl h⟩
      (conv => whnf)
      refine ⟨⟨fitPrt (pTx s), fitPrt (pTx s)⟩, ?_⟩
      (conv => whnf)
      refine ⟨fun _ => ?_, fun h => absurd rfl h⟩
      (conv => whnf)
      refine callK_pure c21 ?_
      (conv => whnf)
      rfl
end Go.Proofs.Tryd
