import Derived.Test.YtbejjlmdmakdfaaDoorT17
set_option linter.all false
set_option linter.unusedVariables false
set_option linter.unusedSimpArgs false
set_option linter.unnecessarySimpa false
set_option maxRecDepth 100000
set_option linter.unusedVariables false
namespace Go.Proofs.Tryd
open Go Ps
def ttN : TT := [(3, ⟨.int .i64, 1, 8, [.int .i64 0]⟩), (5, ⟨.int .u8, 1, 1, [.int .u8 0]⟩), (9, ⟨.str, 1, 16, [.str []]⟩), (23, ⟨.strct [(9, 0), (9, 1)], 2, 32, [.str [], .str []]⟩), (24, ⟨.ptr, 1, 8, [.ptr none]⟩), (26, ⟨.int .i64, 1, 8, [.int .i64 0]⟩), (31, ⟨.arr 32 5, 32, 32, List.replicate 32 (.int .u8 0)⟩), (39, ⟨.ptr, 1, 8, [.ptr none]⟩), (44, ⟨.slice 31, 1, 24, [.slice 0 [] (some 31)]⟩), (75, ⟨.slice 81, 1, 24, [.slice 0 [] (some 81)]⟩), (77, ⟨.strct [(75, 0)], 1, 24, [.slice 0 [] (some 81)]⟩), (78, ⟨.ptr, 1, 8, [.ptr none]⟩), (81, ⟨.strct [(23, 0), (3, 2), (31, 3), (39, 35)], 36, 80, [.str [], .str [], .int .i64 0] ++ List.replicate 32 (.int .u8 0) ++ [.ptr none]⟩), (87, ⟨.fn, 1, 8, [.nilF]⟩)]
theorem ttN_ok : ttOk prog ttN = true := by kernel_rfl
def imm6 : List Nat := [2]
theorem c17n (H : PH) (r n : List UInt8) (k : Int) : CallOk prog 17 [.ptr none, .agg [.str r, .str n], .int .i64 k] H fun x H' => x = .tup [.ptr none, .int .i64 4] ∧ H' = H := by
  (refine callOk_of_pFun2 (tt := ttR) (imm := imm17) follows ttR_ok depth6 func17 (by kernel_rfl) ?_; (conv => whnf))
  refine callK_of (c29n H 30 [] [.elem [.str r, .str n], .elem [.int .i64 k]]) ?_
  rintro x H' ⟨rfl, rfl⟩
  (conv => whnf)
  exact ⟨rfl, rfl⟩
theorem c16n (H : PH) : CallOk prog 16 [.ptr none] H fun x H' => (∃ o, x = .slice 0 [] o) ∧ H' = H := by
  (refine callOk_of_pFun2 (tt := ttR) (imm := imm16) follows ttR_ok depth6 func16 (by kernel_rfl) ?_; (conv => whnf))
  exact ⟨⟨_, rfl⟩, rfl⟩
theorem c6 (N : Int) (pr pn : List UInt8) (h1 : pr.length ≤ 140737488355328) (h2 : pn.length ≤ 140737488355328) : CallOk prog 6 [.agg [.str pr, .str pn], .int .i64 N] [] fun r _ => r = .bool true := by
  (refine callOk_of_pFun2 (tt := ttN) (imm := imm6) follows ttN_ok depth6 func6 (by kernel_rfl) ?_; (conv => whnf))
  refine ⟨fun hs => ?_, fun hs => ?_⟩
  · (conv => whnf)
    rfl
  (conv => whnf)
  refine callK_of (c11n [] pr pn (keyOf1 0) rfl) ?_
  rintro x H' ⟨rfl, rfl⟩
  (conv => whnf)
  refine callK_of (c17n [] pr pn N) ?_
  rintro x H' ⟨rfl, rfl⟩
  (conv => whnf)
  refine callK_of (c15n [] pr pn) ?_
  rintro x H' ⟨rfl, rfl⟩
  (conv => whnf)
  refine ⟨fun _ => ?_, fun h => absurd rfl h⟩
  (conv => whnf)
  refine ⟨fun _ => ?_, fun h => absurd rfl h⟩
  (conv => whnf)
  refine ⟨fun _ => ?_, fun h => absurd rfl h⟩
  (conv => whnf)
  refine callK_of (c13n []) ?_
  rintro x H' ⟨rfl, rfl⟩
  (conv => whnf)
  refine callK_of (c16n []) ?_
  rintro x H' ⟨⟨o, rfl⟩, rfl⟩
  (conv => whnf)
  refine ⟨fun _ => ?_, fun h => absurd rfl h⟩
  (conv => whnf)
  refine callK_of (c14 []) ?_
  rintro x H' rfl
  (conv => whnf)
  rfl
end Go.Proofs.Tryd
