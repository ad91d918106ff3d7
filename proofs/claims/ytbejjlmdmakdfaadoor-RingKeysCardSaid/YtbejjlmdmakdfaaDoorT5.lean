import Derived.Test.YtbejjlmdmakdfaaDoorT4
set_option linter.all false
set_option linter.unusedVariables false
set_option linter.unusedSimpArgs false
set_option linter.unnecessarySimpa false
set_option maxRecDepth 100000
set_option linter.unusedVariables false
namespace Go.Proofs.Tryd
open Go Ps
def tt105 : TT := [(4, ⟨.bool, 1, 1, [.bool false]⟩), (162, ⟨.arr 256 4, 256, 256, List.replicate 256 (.bool false)⟩)]
theorem tt105_ok : ttOk prog tt105 = true := by kernel_rfl
def imm105 : List Nat := []
def tt94 : TT := [(3, ⟨.int .i64, 1, 8, [.int .i64 0]⟩), (4, ⟨.bool, 1, 1, [.bool false]⟩), (5, ⟨.int .u8, 1, 1, [.int .u8 0]⟩), (9, ⟨.str, 1, 16, [.str []]⟩), (162, ⟨.arr 256 4, 256, 256, List.replicate 256 (.bool false)⟩)]
theorem tt94_ok : ttOk prog tt94 = true := by kernel_rfl
def imm94 : List Nat := []
def tt95 : TT := [(3, ⟨.int .i64, 1, 8, [.int .i64 0]⟩), (4, ⟨.bool, 1, 1, [.bool false]⟩), (5, ⟨.int .u8, 1, 1, [.int .u8 0]⟩), (9, ⟨.str, 1, 16, [.str []]⟩), (166, ⟨.ptr, 1, 8, [.ptr none]⟩)]
theorem tt95_ok : ttOk prog tt95 = true := by kernel_rfl
def imm95 : List Nat := []
def tt96 : TT := [(3, ⟨.int .i64, 1, 8, [.int .i64 0]⟩), (4, ⟨.bool, 1, 1, [.bool false]⟩), (5, ⟨.int .u8, 1, 1, [.int .u8 0]⟩), (9, ⟨.str, 1, 16, [.str []]⟩), (166, ⟨.ptr, 1, 8, [.ptr none]⟩)]
theorem tt96_ok : ttOk prog tt96 = true := by kernel_rfl
def imm96 : List Nat := []
def tt81 : TT := [(3, ⟨.int .i64, 1, 8, [.int .i64 0]⟩), (4, ⟨.bool, 1, 1, [.bool false]⟩), (5, ⟨.int .u8, 1, 1, [.int .u8 0]⟩), (9, ⟨.str, 1, 16, [.str []]⟩), (162, ⟨.arr 256 4, 256, 256, List.replicate 256 (.bool false)⟩), (166, ⟨.ptr, 1, 8, [.ptr none]⟩)]
theorem tt81_ok : ttOk prog tt81 = true := by kernel_rfl
def imm81 : List Nat := []
def tt57 : TT := [(3, ⟨.int .i64, 1, 8, [.int .i64 0]⟩), (9, ⟨.str, 1, 16, [.str []]⟩)]
theorem tt57_ok : ttOk prog tt57 = true := by kernel_rfl
def imm57 : List Nat := []

/-- A table of 256 truths. -/
def tabB (p : Nat → Bool) : List PV := (List.range 256).map fun k => .bool (p k)
theorem tabB_get (p : Nat → Bool) (c : UInt8) : dropN (0 + (c.toNat : Int).toNat * 1) (tabB p) = .bool (p c.toNat) :: (((List.range 256).drop (c.toNat + 1)).map fun k => .bool (p k)) := by
  have hc : c.toNat < 256 := c.toNat_lt
  have h : (List.range 256)[c.toNat]? = some c.toNat := by simp [hc]
  exact dropN_cells (fun k => PV.bool (p k)) _ h
theorem c105 (p : Nat → Bool) (id T v : Nat) (c : UInt8) (H : PH) (hid : H[id]? = some ⟨T, tabB p, v⟩) : CallOk prog 105 [.ptr (some (id, 0)), byteC c] H fun r H' => r = .bool (p c.toNat) ∧ H' = H := by
  have hc : c.toNat < 256 := c.toNat_lt
  (refine callOk_of_pFun2 (tt := tt105) (imm := imm105) follows tt105_ok depth6 func105 (by kernel_rfl) ?_; (conv => whnf))
  refine ⟨⟨by omega, by omega⟩, ?_⟩
  (conv => whnf)
  ((conv in (_[_]?) => tactic => exact hid); (conv => whnf))
  ((conv in (dropN _ _) => tactic => exact (tabB_get p c)); (conv => whnf))
  exact ⟨rfl, rfl⟩
theorem c95 (p : Nat → Bool) (id T v : Nat) (s : List UInt8) (H : PH) (hid : H[id]? = some ⟨T, tabB p, v⟩) (hs : s.length ≤ 1099511627776) :
    CallOk prog 95 [.str s, .ptr (some (id, 0))] H fun r H' => r = .str (s.dropWhile fun c => p c.toNat) ∧ H' = H := by
  (refine callOk_of_pFun2 (tt := tt95) (imm := imm95) follows tt95_ok depth6 func95 (by kernel_rfl) ?_; (conv => whnf))
  refine loopK_of (List UInt8) (fun x => [(0, .str x), (1, .ptr (some (id, 0)))]) (fun _ => H) (fun x => x.dropWhile (fun c => p c.toNat) = s.dropWhile (fun c => p c.toNat)) (fun x => x.length) ⟨s, rfl, ⟨rfl, rfl, trivial⟩, rfl⟩ ?_
  intro x hx
  (conv => whnf)
  refine ⟨fun h => ?_, fun h => ?_⟩
  · (conv => whnf)
    cases x with
    | nil => simp at h
    | cons c x =>
      refine ⟨⟨by omega, by simp⟩, c, rfl, ?_⟩
      (conv => whnf)
      refine callK_of (c105 p id T v c H hid) ?_
      rintro _ _ ⟨rfl, rfl⟩
      cases hb : p c.toNat
      · (conv => whnf)
        refine ⟨?_, rfl⟩
        rw [← hx]; simp [hb, tupOf]
      · (conv => whnf)
        refine ⟨⟨by omega, by simp <;> omega, by simp⟩, ?_⟩
        (conv => whnf)
        refine ⟨x, ?_, ⟨?_, rfl, trivial⟩, rfl, by simp⟩
        · rw [← hx]; simp [hb]
        · show PV.str _ = PV.str _
          simp
  · (conv => whnf)
    have : x = [] := by
      cases x with
      | nil => rfl
      | cons c x => exact absurd (by simp <;> omega) h
    subst this
    refine ⟨?_, rfl⟩
    rw [← hx]; rfl
def trimR (p : UInt8 → Bool) (s : List UInt8) : List UInt8 := (s.reverse.dropWhile p).reverse
theorem trimR_concat (p : UInt8 → Bool) (x : List UInt8) (c : UInt8) : trimR p (x ++ [c]) = if p c then trimR p x else x ++ [c] := by
  unfold trimR
  simp only [List.reverse_append, List.reverse_cons, List.reverse_nil, List.nil_append, List.singleton_append, List.dropWhile_cons]
  split <;> simp
theorem c96 (p : Nat → Bool) (id T v : Nat) (s : List UInt8) (H : PH) (hid : H[id]? = some ⟨T, tabB p, v⟩) (hs : s.length ≤ 1099511627776) :
    CallOk prog 96 [.str s, .ptr (some (id, 0))] H fun r H' => r = .str (trimR (fun c => p c.toNat) s) ∧ H' = H := by
  (refine callOk_of_pFun2 (tt := tt96) (imm := imm96) follows tt96_ok depth6 func96 (by kernel_rfl) ?_; (conv => whnf))
  refine loopK_of (List UInt8) (fun x => [(0, .str x), (1, .ptr (some (id, 0)))]) (fun _ => H) (fun x => x.length ≤ s.length ∧ trimR (fun c => p c.toNat) x = trimR (fun c => p c.toNat) s) (fun x => x.length) ⟨s, ⟨Nat.le_refl _, rfl⟩, ⟨rfl, rfl, trivial⟩, rfl⟩ ?_
  rintro x ⟨hl, hx⟩
  (conv => whnf)
  rcases List.eq_nil_or_concat x with rfl | ⟨x, c, rfl⟩
  · refine ⟨fun h => absurd h (by simp), fun h => ?_⟩
    (conv => whnf)
    refine ⟨?_, rfl⟩
    rw [← hx]; rfl
  · refine ⟨fun h => ?_, fun h => absurd (by simp <;> omega) h⟩
    simp only [List.concat_eq_append] at *
    have hl' : x.length + 1 ≤ s.length := by simpa using hl
    (conv => whnf)
    have e : ((IntKind.i64.wrap (((x ++ [c]).length : Int) - 1))) = (x.length : Int) := by
      rw [wrap64 (by simp <;> omega) (by simp <;> omega)]; simp
    refine ⟨by show 0 ≤ IntKind.i64.wrap _ ∧ IntKind.i64.wrap _ < _; rw [e]; simp; omega, c, ?_, ?_⟩
    · show (x ++ [c])[(IntKind.i64.wrap (((x ++ [c]).length : Int) - 1)).toNat]? = some c
      rw [e]; simp
    (conv => whnf)
    refine callK_of (c105 p id T v c H hid) ?_
    rintro _ _ ⟨rfl, rfl⟩
    rw [trimR_concat] at hx
    cases hb : p c.toNat
    · (conv => whnf)
      refine ⟨?_, rfl⟩
      rw [← hx]; simp [hb, tupOf]
    · (conv => whnf)
      refine ⟨by show 0 ≤ 0 ∧ 0 ≤ IntKind.i64.wrap _ ∧ IntKind.i64.wrap _ ≤ _; rw [e]; simp; omega, ?_⟩
      (conv => whnf)
      refine ⟨x, ⟨by omega, ?_⟩, ⟨?_, rfl, trivial⟩, rfl, by simp⟩
      · rw [← hx]; simp [hb]
      · show PV.str (((x ++ [c]).take (IntKind.i64.wrap (((x ++ [c]).length : Int) - 1)).toNat).drop (Int.toNat 0)) = PV.str _
        rw [e]; simp
end Go.Proofs.Tryd
