import Derived.Test.YtbejjlmdmakdfaaDoorT14
set_option linter.all false
set_option linter.unusedVariables false
set_option linter.unusedSimpArgs false
set_option linter.unnecessarySimpa false
set_option maxRecDepth 100000
set_option linter.unusedVariables false
namespace Go.Proofs.Tryd
open Go Ps
def isP (r n : List UInt8) (e : Ent) : Bool := decide (e.r = r ∧ e.n = n)
theorem c29n (H : PH) (cf : Nat) (a b : List PV) : CallOk prog 29 [.ptr none, .func cf a b] H fun r H' => r = .ptr none ∧ H' = H := by
  (refine callOk_of_pFun2 (tt := ttR) (imm := imm29) follows ttR_ok depth6 func29 (by kernel_rfl) ?_; (conv => whnf))
  exact ⟨rfl, rfl⟩
theorem c25n (H : PH) (r n : List UInt8) : CallOk prog 25 [.ptr none, .agg [.str r, .str n]] H fun x H' => x = .ptr none ∧ H' = H := by
  (refine callOk_of_pFun2 (tt := ttR) (imm := imm25) follows ttR_ok depth6 func25 (by kernel_rfl) ?_; (conv => whnf))
  refine callK_of (c29n H 58 [] [.elem [.str r, .str n]]) ?_
  rintro x H' ⟨rfl, rfl⟩
  (conv => whnf)
  exact ⟨rfl, rfl⟩
theorem c25 {H : PH} {rid v : Nat} {l : List Ent} (hid : H[rid]? = some (ringO l v)) (hl : l.length ≤ 1000) (hk : ∀ e ∈ l, e.key.length = 32) (r n : List UInt8) :
    CallOk prog 25 [.ptr (some (rid, 0)), .agg [.str r, .str n]] H fun x H' => x = entP (lastE (isP r n) l) ∧ H' = H := by
  (refine callOk_of_pFun2 (tt := ttR) (imm := imm25) follows ttR_ok depth6 func25 (by kernel_rfl) ?_; (conv => whnf))
  refine callK_of (c29 hid hl hk (isP r n) 58 [] [.elem [.str r, .str n]] fun e he => c58 e (hk e he) r n H) ?_
  rintro x H' ⟨rfl, rfl⟩
  cases lastE (isP r n) l with
  | none =>
    (conv => whnf)
    exact ⟨rfl, rfl⟩
  | some e =>
    (conv => whnf)
    exact ⟨rfl, rfl⟩
theorem c15n (H : PH) (r n : List UInt8) : CallOk prog 15 [.ptr none, .agg [.str r, .str n]] H fun x H' => x = .tup [.ptr none, .int .i64 0, .int .i64 4] ∧ H' = H := by
  (refine callOk_of_pFun2 (tt := ttR) (imm := imm15) follows ttR_ok depth6 func15 (by kernel_rfl) ?_; (conv => whnf))
  refine callK_of (c25n H r n) ?_
  rintro x H' ⟨rfl, rfl⟩
  (conv => whnf)
  exact ⟨rfl, rfl⟩
def lastR : Option Ent → PV
  | none => .tup [.ptr none, .int .i64 0, .int .i64 4]
  | some e => .tup [.ptr (some (e.box, 0)), .int .i64 e.kv, .int .i64 0]
theorem c15 {H : PH} {rid v : Nat} {l : List Ent} (hid : H[rid]? = some (ringO l v)) (hl : l.length ≤ 1000) (hk : ∀ e ∈ l, e.key.length = 32) (r n : List UInt8) :
    CallOk prog 15 [.ptr (some (rid, 0)), .agg [.str r, .str n]] H fun x H' => x = lastR (lastE (isP r n) l) ∧ H' = H := by
  (refine callOk_of_pFun2 (tt := ttR) (imm := imm15) follows ttR_ok depth6 func15 (by kernel_rfl) ?_; (conv => whnf))
  refine callK_of (c25 hid hl hk r n) ?_
  rintro x H' ⟨rfl, rfl⟩
  cases he : lastE (isP r n) l with
  | none =>
    (conv => whnf)
    exact ⟨rfl, rfl⟩
  | some e =>
    have hkey : e.key.length = 32 := hk e (List.mem_reverse.1 (List.mem_of_find?_eq_some he))
    obtain ⟨er, en, kv, key, box⟩ := e
    match key, hkey with
    | [a0, a1, a2, a3, a4, a5, a6, a7, a8, a9, a10, a11, a12, a13, a14, a15, b0, b1, b2, b3, b4, b5, b6, b7, b8, b9, b10, b11, b12, b13, b14, b15], _ =>
      (conv => whnf)
      (refine drawK_pure2 (by kernel_rfl) ?_; (conv => whnf))
      (apply Exists.intro; apply And.intro; (focus ((conv => whnf); first | exact ⟨rfl, rfl, trivial⟩ | (refine ⟨by omega, ?_⟩; (conv => whnf); exact ⟨rfl, rfl, trivial⟩))); (conv => whnf))
      (apply Exists.intro; apply And.intro; (focus ((conv => whnf); first | exact ⟨rfl, rfl, trivial⟩ | (refine ⟨by omega, ?_⟩; (conv => whnf); exact ⟨rfl, rfl, trivial⟩))); (conv => whnf))
      (apply Exists.intro; apply And.intro; (focus ((conv => whnf); first | exact ⟨rfl, rfl, trivial⟩ | (refine ⟨by omega, ?_⟩; (conv => whnf); exact ⟨rfl, rfl, trivial⟩))); (conv => whnf))
      (apply Exists.intro; apply And.intro; (focus ((conv => whnf); first | exact ⟨rfl, rfl, trivial⟩ | (refine ⟨by omega, ?_⟩; (conv => whnf); exact ⟨rfl, rfl, trivial⟩))); (conv => whnf))
      (apply Exists.intro; apply And.intro; (focus ((conv => whnf); first | exact ⟨rfl, rfl, trivial⟩ | (refine ⟨by omega, ?_⟩; (conv => whnf); exact ⟨rfl, rfl, trivial⟩))); (conv => whnf))
      (apply Exists.intro; apply And.intro; (focus ((conv => whnf); first | exact ⟨rfl, rfl, trivial⟩ | (refine ⟨by omega, ?_⟩; (conv => whnf); exact ⟨rfl, rfl, trivial⟩))); (conv => whnf))
      (apply Exists.intro; apply And.intro; (focus ((conv => whnf); first | exact ⟨rfl, rfl, trivial⟩ | (refine ⟨by omega, ?_⟩; (conv => whnf); exact ⟨rfl, rfl, trivial⟩))); (conv => whnf))
      (apply Exists.intro; apply And.intro; (focus ((conv => whnf); first | exact ⟨rfl, rfl, trivial⟩ | (refine ⟨by omega, ?_⟩; (conv => whnf); exact ⟨rfl, rfl, trivial⟩))); (conv => whnf))
      (apply Exists.intro; apply And.intro; (focus ((conv => whnf); first | exact ⟨rfl, rfl, trivial⟩ | (refine ⟨by omega, ?_⟩; (conv => whnf); exact ⟨rfl, rfl, trivial⟩))); (conv => whnf))
      (apply Exists.intro; apply And.intro; (focus ((conv => whnf); first | exact ⟨rfl, rfl, trivial⟩ | (refine ⟨by omega, ?_⟩; (conv => whnf); exact ⟨rfl, rfl, trivial⟩))); (conv => whnf))
      (apply Exists.intro; apply And.intro; (focus ((conv => whnf); first | exact ⟨rfl, rfl, trivial⟩ | (refine ⟨by omega, ?_⟩; (conv => whnf); exact ⟨rfl, rfl, trivial⟩))); (conv => whnf))
      exact ⟨rfl, rfl⟩
end Go.Proofs.Tryd
