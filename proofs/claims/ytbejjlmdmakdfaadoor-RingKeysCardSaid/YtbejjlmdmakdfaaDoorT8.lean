import Derived.Test.YtbejjlmdmakdfaaDoorT7
set_option linter.all false
set_option linter.unusedVariables false
set_option linter.unusedSimpArgs false
set_option linter.unnecessarySimpa false
set_option maxRecDepth 100000
set_option linter.unusedVariables false
namespace Go.Proofs.Tryd
open Go Ps
def krbB : List UInt8 := [107, 114, 98, 116, 103, 116, 47]
def smallB : List UInt8 := [97, 98, 99, 100, 101, 102, 103, 104, 105, 106, 107, 108, 109, 110, 111, 112, 113, 114, 115, 116, 117, 118, 119, 120, 121, 122, 48, 49, 50, 51, 52, 53, 54, 55, 56, 57]
def isRealmB (r : List UInt8) : Bool := decide ((labelsB r).1 ≠ 0)
def targetB (n : List UInt8) : List UInt8 × Bool := if krbB.isPrefixOf n && isRealmB (n.drop 7) then (n.drop 7, true) else ([], false)
def isPrincB (realm name : List UInt8) : Bool := isRealmB realm && ((targetB name).2 || isWordB name smallB)
theorem c55 (n : List UInt8) (hs : n.length ≤ 1099511627775) : Pure prog 55 [.str n] (.tup [.str (targetB n).1, .bool (targetB n).2]) := by
  intro H
  (refine callOk_of_pFun2 (tt := tt55) (imm := imm55) follows tt55_ok depth6 func55 (by kernel_rfl) ?_; (conv => whnf))
  refine callK_pure (c79 n krbB) ?_
  unfold cutP targetB
  cases hb : krbB.isPrefixOf n
  · (conv => whnf)
    exact ⟨rfl, rfl⟩
  · (conv => whnf)
    refine callK_pure (c56 (n.drop 7) (by rw [List.length_drop]; omega)) ?_
    show _
    unfold isRealmB
    cases hr : decide ((labelsB (n.drop 7)).1 ≠ 0)
    · (conv => whnf)
      exact ⟨rfl, rfl⟩
    · (conv => whnf)
      exact ⟨rfl, rfl⟩
theorem c24 (realm name : List UInt8) (h1 : realm.length ≤ 1099511627775) (h2 : name.length ≤ 1099511627775) : Pure prog 24 [.agg [.str realm, .str name]] (.bool (isPrincB realm name)) := by
  intro H
  (refine callOk_of_pFun2 (tt := tt24) (imm := imm24) follows tt24_ok depth6 func24 (by kernel_rfl) ?_; (conv => whnf))
  refine callK_pure (c55 name h2) ?_
  (conv => whnf)
  refine callK_pure (c56 realm h1) ?_
  unfold isPrincB isRealmB
  cases hr : decide ((labelsB realm).1 ≠ 0)
  · (conv => whnf)
    exact ⟨rfl, rfl⟩
  · cases ht : (targetB name).2
    · (conv => whnf)
      refine callK_pure (c57 name smallB (by decide) (by decide) (by decide)) ?_
      cases isWordB name smallB
      · (conv => whnf)
        exact ⟨rfl, rfl⟩
      · (conv => whnf)
        exact ⟨rfl, rfl⟩
    · (conv => whnf)
      exact ⟨rfl, rfl⟩
end Go.Proofs.Tryd
