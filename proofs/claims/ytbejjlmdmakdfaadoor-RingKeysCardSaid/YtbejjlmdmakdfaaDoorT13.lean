import Derived.Test.YtbejjlmdmakdfaaDoorT12
set_option linter.all false
set_option linter.unusedVariables false
set_option linter.unusedSimpArgs false
set_option linter.unnecessarySimpa false
set_option maxRecDepth 100000
set_option linter.unusedVariables false
namespace Go.Proofs.Tryd
open Go Ps
def ttR : TT := [(3, ⟨.int .i64, 1, 8, [.int .i64 0]⟩), (4, ⟨.bool, 1, 1, [.bool false]⟩), (5, ⟨.int .u8, 1, 1, [.int .u8 0]⟩), (9, ⟨.str, 1, 16, [.str []]⟩), (23, ⟨.strct [(9, 0), (9, 1)], 2, 32, [.str [], .str []]⟩), (24, ⟨.ptr, 1, 8, [.ptr none]⟩), (26, ⟨.int .i64, 1, 8, [.int .i64 0]⟩), (31, ⟨.arr 32 5, 32, 32, List.replicate 32 (.int .u8 0)⟩), (39, ⟨.ptr, 1, 8, [.ptr none]⟩), (44, ⟨.slice 31, 1, 24, [.slice 0 [] (some 31)]⟩), (75, ⟨.slice 81, 1, 24, [.slice 0 [] (some 81)]⟩), (77, ⟨.strct [(75, 0)], 1, 24, [.slice 0 [] (some 81)]⟩), (78, ⟨.ptr, 1, 8, [.ptr none]⟩), (81, ⟨.strct [(23, 0), (3, 2), (31, 3), (39, 35)], 36, 80, [.str [], .str [], .int .i64 0] ++ List.replicate 32 (.int .u8 0) ++ [.ptr none]⟩), (87, ⟨.fn, 1, 8, [.nilF]⟩), (111, ⟨.ptr, 1, 8, [.ptr none]⟩), (113, ⟨.arr 16 5, 16, 16, List.replicate 16 (.int .u8 0)⟩), (120, ⟨.strct [(111, 0), (113, 1), (118, 17), (118, 18), (118, 19)], 20, 48, [.ptr none] ++ List.replicate 16 (.int .u8 0) ++ [.int .i64 0, .int .i64 0, .int .i64 0]⟩), (138, ⟨.int .u32, 1, 4, [.int .u32 0]⟩), (147, ⟨.arr 27 138, 27, 108, List.replicate 27 (.int .u32 0)⟩), (149, ⟨.strct [(113, 0), (146, 16), (147, 19), (140, 46)], 47, 140, List.replicate 16 (.int .u8 0) ++ [.int .u32 0, .int .i32 0] ++ List.replicate 29 (.int .u32 0)⟩)]
theorem ttR_ok : ttOk prog ttR = true := by kernel_rfl
def imm59 : List Nat := [1]
def imm26 : List Nat := [1]
def imm10 : List Nat := []
def imm29 : List Nat := []
def imm58 : List Nat := [2]
def imm25 : List Nat := [3]
def imm11 : List Nat := [4, 5]
def imm15 : List Nat := [3]
def imm13 : List Nat := []
def imm14 : List Nat := []
def imm16 : List Nat := [3, 21]
def imm17 : List Nat := [4, 5]
def imm30 : List Nat := [3]
def speckO (k : List UInt8) : PObj := ⟨149, k.map byteC ++ ([.int .u32 0, .int .i32 0] ++ List.replicate 29 (.int .u32 0)), 0⟩
theorem c59 (k : List UInt8) (hk : k.length = 16) (H : PH) : CallOk prog 59 [.agg (k.map byteC)] H fun r H' => r = .ptr (some (H.length, 0)) ∧ H' = H ++ [speckO k] := by
  match k, hk with
  | [a0, a1, a2, a3, a4, a5, a6, a7, a8, a9, a10, a11, a12, a13, a14, a15], _ =>
    (refine callOk_of_pFun2 (tt := ttR) (imm := imm59) follows ttR_ok depth6 func59 (by kernel_rfl) ?_; (conv => whnf))
    exact ⟨rfl, rfl⟩
def boxO (k : List UInt8) (n : Nat) : PObj := ⟨120, [.ptr (some (n, 0))] ++ (k.drop 16).map byteC ++ [.int .i64 0, .int .i64 0, .int .i64 0], 0⟩
def D26 : Draw := { imp := [3, 8], win := [(4, 0, 1), (5, 0, 1), (6, 0, 1), (7, 1, 1), (8, 1, 1), (9, 2, 2)] }
theorem c26 (k : List UInt8) (hk : k.length = 32) (H : PH) : CallOk prog 26 [.agg (k.map byteC)] H fun r H' => r = .ptr (some (H.length + 1, 0)) ∧ H' = H ++ [speckO (k.take 16), boxO k H.length] := by
  match k, hk with
  | [a0, a1, a2, a3, a4, a5, a6, a7, a8, a9, a10, a11, a12, a13, a14, a15, b0, b1, b2, b3, b4, b5, b6, b7, b8, b9, b10, b11, b12, b13, b14, b15], _ =>
    (refine callOk_of_pFun2 (tt := ttR) (imm := imm26) follows ttR_ok depth6 func26 (by kernel_rfl) ?_; (conv => whnf))
    refine drawK_of2 D26 [H, H ++ [speckO [a0, a1, a2, a3, a4, a5, a6, a7, a8, a9, a10, a11, a12, a13, a14, a15]], H ++ [speckO [a0, a1, a2, a3, a4, a5, a6, a7, a8, a9, a10, a11, a12, a13, a14, a15], boxO [a0, a1, a2, a3, a4, a5, a6, a7, a8, a9, a10, a11, a12, a13, a14, a15, b0, b1, b2, b3, b4, b5, b6, b7, b8, b9, b10, b11, b12, b13, b14, b15] H.length]] (by kernel_rfl) rfl trivial ?_
    (conv => whnf)
    (apply Exists.intro; apply And.intro; (focus ((conv => whnf); first | exact ⟨rfl, rfl, trivial⟩ | (refine ⟨by omega, ?_⟩; (conv => whnf); exact ⟨rfl, rfl, trivial⟩))); (conv => whnf))
    (apply Exists.intro; apply And.intro; (focus ((conv => whnf); first | exact ⟨rfl, rfl, trivial⟩ | (refine ⟨by omega, ?_⟩; (conv => whnf); exact ⟨rfl, rfl, trivial⟩))); (conv => whnf))
    (apply Exists.intro; apply And.intro; (focus ((conv => whnf); first | exact ⟨rfl, rfl, trivial⟩ | (refine ⟨by omega, ?_⟩; (conv => whnf); exact ⟨rfl, rfl, trivial⟩))); (conv => whnf))
    apply Exists.intro
    apply And.intro
    · (conv => whnf)
      refine callK_of (c59 [a0, a1, a2, a3, a4, a5, a6, a7, a8, a9, a10, a11, a12, a13, a14, a15] rfl H) ?_
      rintro r H' ⟨rfl, rfl⟩
      (conv => whnf)
      exact ⟨rfl, rfl, trivial⟩
    (conv => whnf)
    (apply Exists.intro; apply And.intro; (focus ((conv => whnf); apply And.intro; (focus ((conv => whnf); first | exact ⟨rfl, rfl, trivial⟩ | (refine ⟨by omega, ?_⟩; (conv => whnf); exact ⟨rfl, rfl, trivial⟩))); ((conv => whnf); first | exact ⟨rfl, rfl, trivial⟩ | (refine ⟨by omega, ?_⟩; (conv => whnf); exact ⟨rfl, rfl, trivial⟩)))); (conv => whnf))
    (apply Exists.intro; apply And.intro; (focus ((conv => whnf); apply And.intro; (focus ((conv => whnf); first | exact ⟨rfl, rfl, trivial⟩ | (refine ⟨by omega, ?_⟩; (conv => whnf); exact ⟨rfl, rfl, trivial⟩))); ((conv => whnf); first | exact ⟨rfl, rfl, trivial⟩ | (refine ⟨by omega, ?_⟩; (conv => whnf); exact ⟨rfl, rfl, trivial⟩)))); (conv => whnf))
    (apply Exists.intro; apply And.intro; (focus ((conv => whnf); apply And.intro; (focus ((conv => whnf); first | exact ⟨rfl, rfl, trivial⟩ | (refine ⟨by omega, ?_⟩; (conv => whnf); exact ⟨rfl, rfl, trivial⟩))); ((conv => whnf); first | exact ⟨rfl, rfl, trivial⟩ | (refine ⟨by omega, ?_⟩; (conv => whnf); exact ⟨rfl, rfl, trivial⟩)))); (conv => whnf))
    (apply Exists.intro; apply And.intro; (focus ((conv => whnf); first | exact ⟨rfl, rfl, trivial⟩ | (refine ⟨by omega, ?_⟩; (conv => whnf); exact ⟨rfl, rfl, trivial⟩))); (conv => whnf))
    apply Exists.intro
    apply And.intro
    · (conv => whnf)
      refine ⟨rfl, ?_, trivial⟩
      exact List.append_assoc _ _ _
    (conv => whnf)
    (apply Exists.intro; apply And.intro; (focus ((conv => whnf); first | exact ⟨rfl, rfl, trivial⟩ | (refine ⟨by omega, ?_⟩; (conv => whnf); exact ⟨rfl, rfl, trivial⟩))); (conv => whnf))
    refine ⟨?_, rfl⟩
    show PV.ptr (some ((H ++ [_]).length, 0)) = _
    rw [List.length_append]; rfl
end Go.Proofs.Tryd
