import Derived.Test.YtbejjlmdmakdfaaDoorProg
import Derived.Test.YtbejjlmdmakdfaaDoorPs24
set_option linter.all false
set_option linter.unusedVariables false
set_option linter.unusedSimpArgs false
set_option linter.unnecessarySimpa false
set_option maxRecDepth 100000
namespace Go.Proofs.Tryd
open Go Ps
theorem follows : prog.follows .mixedOrders = true := by kernel_rfl
theorem depth6 : 6 ≤ prog.depth := by
  have h : Nat.ble 6 prog.depth = true := by kernel_rfl
  exact Nat.le_of_ble_eq_true h
def tt99 : TT := [(3, ⟨.int .i64, 1, 8, [.int .i64 0]⟩), (9, ⟨.str, 1, 16, [.str []]⟩)]
theorem tt99_ok : ttOk prog tt99 = true := by kernel_rfl
def imm99 : List Nat := []
def tt101 : TT := [(9, ⟨.str, 1, 16, [.str []]⟩)]
theorem tt101_ok : ttOk prog tt101 = true := by kernel_rfl
def imm101 : List Nat := []
def tt90 : TT := [(4, ⟨.bool, 1, 1, [.bool false]⟩), (9, ⟨.str, 1, 16, [.str []]⟩)]
theorem tt90_ok : ttOk prog tt90 = true := by kernel_rfl
def imm90 : List Nat := []
def tt79 : TT := [(9, ⟨.str, 1, 16, [.str []]⟩)]
theorem tt79_ok : ttOk prog tt79 = true := by kernel_rfl
def imm79 : List Nat := []

theorem take_of_prefix {p s : List UInt8} (h : p.length ≤ s.length) : (s.take p.length = p) ↔ p.isPrefixOf s = true := by
  rw [List.isPrefixOf_iff_prefix, List.prefix_iff_eq_take]; exact eq_comm
theorem c99 (s p : List UInt8) : Pure prog 99 [.str s, .str p] (.bool (p.isPrefixOf s)) := by
  intro H
  (refine callOk_of_pFun2 (tt := tt99) (imm := imm99) follows tt99_ok depth6 func99 (by kernel_rfl) ?_; (conv => whnf))
  refine ⟨fun h => ?_, fun h => ?_⟩
  · (conv => whnf)
    have h : p.length ≤ s.length := by omega
    refine ⟨⟨by omega, by omega, by omega⟩, ?_⟩
    (conv => whnf)
    simp only [Int.toNat_natCast, Int.toNat_zero, List.drop_zero]
    refine ⟨fun h2 => ?_, fun h2 => ?_⟩
    · (conv => whnf)
      exact ⟨by rw [(take_of_prefix h).1 h2]; rfl, rfl⟩
    · (conv => whnf)
      have : p.isPrefixOf s = false := by
        cases hb : p.isPrefixOf s with
        | false => rfl
        | true => exact absurd ((take_of_prefix h).2 hb) h2
      exact ⟨by rw [this]; rfl, rfl⟩
  · (conv => whnf)
    have : p.isPrefixOf s = false := by
      cases hb : p.isPrefixOf s with
      | false => rfl
      | true =>
        have := (List.isPrefixOf_iff_prefix.1 hb).length_le
        omega
    exact ⟨by rw [this]; rfl, rfl⟩
theorem c101 (s p : List UInt8) : Pure prog 101 [.str s, .str p] (.bool (p.isPrefixOf s)) := by
  intro H
  (refine callOk_of_pFun2 (tt := tt101) (imm := imm101) follows tt101_ok depth6 func101 (by kernel_rfl) ?_; (conv => whnf))
  (refine callK_pure ((c99 s p)) ?_; try (conv => whnf))
  exact ⟨rfl, rfl⟩
def cutP (s p : List UInt8) : PV := if p.isPrefixOf s then .tup [.str (s.drop p.length), .bool true] else .tup [.str s, .bool false]
theorem c90 (s p : List UInt8) : Pure prog 90 [.str s, .str p] (cutP s p) := by
  intro H
  (refine callOk_of_pFun2 (tt := tt90) (imm := imm90) follows tt90_ok depth6 func90 (by kernel_rfl) ?_; (conv => whnf))
  refine callK_pure (c99 s p) ?_
  unfold cutP
  cases hb : p.isPrefixOf s
  · (conv => whnf)
    exact ⟨rfl, rfl⟩
  · (conv => whnf)
    have := (List.isPrefixOf_iff_prefix.1 hb).length_le
    refine ⟨⟨by omega, by omega, by omega⟩, ?_⟩
    (conv => whnf)
    refine ⟨?_, rfl⟩
    simp [tupOf]
theorem c79 (s p : List UInt8) : Pure prog 79 [.str s, .str p] (cutP s p) := by
  intro H
  (refine callOk_of_pFun2 (tt := tt79) (imm := imm79) follows tt79_ok depth6 func79 (by kernel_rfl) ?_; (conv => whnf))
  refine callK_pure (c90 s p) ?_
  unfold cutP
  cases hb : p.isPrefixOf s
  · (conv => whnf)
    exact ⟨rfl, rfl⟩
  · (conv => whnf)
    exact ⟨rfl, rfl⟩
end Go.Proofs.Tryd
