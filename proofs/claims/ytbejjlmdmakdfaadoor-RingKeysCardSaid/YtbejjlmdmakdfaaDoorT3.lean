import Derived.Test.YtbejjlmdmakdfaaDoorT2
import Derived.Test.YtbejjlmdmakdfaaDoorPs22
set_option linter.all false
set_option linter.unusedVariables false
set_option linter.unusedSimpArgs false
set_option linter.unnecessarySimpa false
set_option maxRecDepth 100000
set_option linter.unusedVariables false
namespace Go.Proofs.Tryd
open Go Ps
def tt110 : TT := [(3, ⟨.int .i64, 1, 8, [.int .i64 0]⟩), (9, ⟨.str, 1, 16, [.str []]⟩), (29, ⟨.slice 9, 1, 24, [.slice 0 [] (some 9)]⟩)]
theorem tt110_ok : ttOk prog tt110 = true := by kernel_rfl
def imm110 : List Nat := []
def tt104 : TT := [(3, ⟨.int .i64, 1, 8, [.int .i64 0]⟩), (9, ⟨.str, 1, 16, [.str []]⟩), (29, ⟨.slice 9, 1, 24, [.slice 0 [] (some 9)]⟩), (83, ⟨.fn, 1, 8, [.nilF]⟩)]
theorem tt104_ok : ttOk prog tt104 = true := by kernel_rfl
def imm104 : List Nat := []

theorem c100 (s : List UInt8) (c : UInt8) (H : PH) (hs : s.length ≤ 1099511627776) :
    CallOk prog 100 [.str s, .str [c]] H fun r H' =>
      r = .sref H.length 0 (splitB c s).length (splitB c s).length ∧ ∃ v, H' = H ++ [⟨9, (splitB c s).map .str, v⟩] := by
  (refine callOk_of_pFun2 (tt := tt100) (imm := imm100) follows tt100_ok depth6 func100 (by kernel_rfl) ?_; (conv => whnf))
  refine callK_of (c109 s c H hs) ?_
  rintro _ _ ⟨rfl, v, rfl⟩
  (conv => whnf)
  exact ⟨rfl, v, rfl⟩

def idxF (p : List UInt8 → Bool) : List (List UInt8) → Int
  | [] => -1
  | x :: l => if p x then 0 else (if idxF p l < 0 then -1 else idxF p l + 1)
theorem idxF_cons (p : List UInt8 → Bool) (x : List UInt8) (l : List (List UInt8)) : idxF p (x :: l) = if p x then 0 else (if idxF p l < 0 then -1 else idxF p l + 1) := rfl
theorem idxF_ge (p : List UInt8 → Bool) : ∀ l, -1 ≤ idxF p l
  | [] => by simp [idxF]
  | x :: l => by
    have := idxF_ge p l
    unfold idxF
    split
    · omega
    · split <;> omega
theorem idxF_neg (p : List UInt8 → Bool) : ∀ l, 0 ≤ idxF p l ↔ l.any p = true
  | [] => by simp [idxF]
  | x :: l => by
    have := idxF_neg p l
    have h2 := idxF_ge p l
    unfold idxF
    cases hp : p x
    · simp only [hp, List.any_cons, Bool.false_or]
      rw [← this]
      by_cases h : idxF p l < 0
      · simp [h]
      · simp [h]; omega
    · simp [hp]
theorem c110 (f id n : Nat) (p : List UInt8 → Bool) (l : List (List UInt8)) (T v : Nat) (H : PH) (hid : H[id]? = some ⟨T, l.map .str, v⟩) (hn : n = l.length) (hs : l.length ≤ 1099511627776)
    (hp : ∀ x ∈ l, Pure prog f [.str x] (.bool (p x))) : CallOk prog 110 [.sref id 0 n n, .func f [] []] H fun r H' => r = .int .i64 (idxF p l) ∧ H' = H := by
  subst hn
  (refine callOk_of_pFun2 (tt := tt110) (imm := imm110) follows tt110_ok depth6 func110 (by kernel_rfl) ?_; (conv => whnf))
  refine loopK_of Nat (fun i => [(0, .sref id 0 l.length l.length), (1, .func f [] []), (7, .int .i64 l.length), (8, .int .i64 i)]) (fun _ => H)
    (fun i => i ≤ l.length ∧ idxF p l = if idxF p (l.drop i) < 0 then -1 else idxF p (l.drop i) + i) (fun i => l.length - i) ⟨0, ⟨Nat.zero_le _, by have := idxF_ge p l; simp; omega⟩, ⟨rfl, rfl, rfl, rfl, trivial⟩, rfl⟩ ?_
  rintro i ⟨h1, h2⟩
  (conv => whnf)
  refine ⟨fun h3 => ?_, fun h3 => ?_⟩
  · (conv => whnf)
    have h3 : (i : Int) < l.length := h3
    have hi : i < l.length := by omega
    have hgi := List.getElem?_eq_getElem hi
    refine ⟨⟨by omega, by omega⟩, ?_⟩
    (conv => whnf)
    rw [hid]
    (conv => whnf)
    generalize hd : dropN _ _ = L
    have hL := dropN_cells PV.str l hgi
    rw [show L = _ from hd.symm.trans hL]
    (conv => whnf)
    refine callK_pure (hp _ (List.getElem_mem hi)) ?_
    have hdr := List.drop_eq_getElem_cons hi
    have hge := idxF_ge p (l.drop (i + 1))
    rw [hdr, idxF_cons] at h2
    cases hb : p l[i]
    · (conv => whnf)
      rw [hb] at h2
      refine ⟨i + 1, ⟨by omega, ?_⟩, ⟨rfl, rfl, rfl, ?_, trivial⟩, rfl, by omega⟩
      · rw [h2]
        simp only [Bool.false_eq_true, if_false]
        split <;> split <;> (try split) <;> omega
      · show PV.int _ (IntKind.i64.wrap ((i : Int) + 1)) = PV.int _ _
        rw [wrap64 (by omega) (by omega)]; simp
    · (conv => whnf)
      rw [hb] at h2
      refine ⟨?_, rfl⟩
      show PV.int _ _ = PV.int _ _
      rw [h2]; simp
  · (conv => whnf)
    have h3 : ¬ (i : Int) < l.length := h3
    refine ⟨?_, rfl⟩
    show PV.int _ _ = PV.int _ _
    rw [h2, List.drop_eq_nil_of_le (by omega)]; simp [idxF]
theorem c104 (f id n : Nat) (p : List UInt8 → Bool) (l : List (List UInt8)) (T v : Nat) (H : PH) (hid : H[id]? = some ⟨T, l.map .str, v⟩) (hn : n = l.length) (hs : l.length ≤ 1099511627776)
    (hp : ∀ x ∈ l, Pure prog f [.str x] (.bool (p x))) : CallOk prog 104 [.sref id 0 n n, .func f [] []] H fun r H' => r = .bool (l.any p) ∧ H' = H := by
  (refine callOk_of_pFun2 (tt := tt104) (imm := imm104) follows tt104_ok depth6 func104 (by kernel_rfl) ?_; (conv => whnf))
  refine callK_of (c110 f id n p l T v H hid hn hs hp) ?_
  rintro _ _ ⟨rfl, rfl⟩
  (conv => whnf)
  have := idxF_neg p l
  refine ⟨fun h => ?_, fun h => ?_⟩
  · (conv => whnf)
    exact ⟨by rw [this.1 h]; rfl, rfl⟩
  · (conv => whnf)
    refine ⟨?_, rfl⟩
    cases hb : l.any p with
    | false => rfl
    | true => exact absurd (this.2 hb) h
end Go.Proofs.Tryd
