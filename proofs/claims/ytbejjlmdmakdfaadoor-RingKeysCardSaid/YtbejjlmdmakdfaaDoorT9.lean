import Derived.Test.YtbejjlmdmakdfaaDoorT8
set_option linter.all false
set_option linter.unusedVariables false
set_option linter.unusedSimpArgs false
set_option linter.unnecessarySimpa false
set_option maxRecDepth 100000
set_option linter.unusedVariables false
namespace Go.Proofs.Tryd
open Go Ps
def tt83 : TT := [(3, ⟨.int .i64, 1, 8, [.int .i64 0]⟩), (5, ⟨.int .u8, 1, 1, [.int .u8 0]⟩), (9, ⟨.str, 1, 16, [.str []]⟩), (29, ⟨.slice 9, 1, 24, [.slice 0 [] (some 9)]⟩)]
theorem tt83_ok : ttOk prog tt83 = true := by kernel_rfl
def imm83 : List Nat := []

theorem splitB_at (c : UInt8) : ∀ (x y : List UInt8), (∀ b ∈ x, b ≠ c) → splitB c (x ++ c :: y) = x :: splitB c y
  | [], y, _ => by simp [splitB]
  | b :: x, y, h => by
    have ih := splitB_at c x y fun b hb => h b (List.mem_cons_of_mem _ hb)
    simp [splitB, h b List.mem_cons_self, ih]
theorem splitB_no (c : UInt8) : ∀ (x : List UInt8), (∀ b ∈ x, b ≠ c) → splitB c x = [x]
  | [], _ => rfl
  | b :: x, h => by
    have ih := splitB_no c x fun b hb => h b (List.mem_cons_of_mem _ hb)
    simp [splitB, h b List.mem_cons_self, ih]
structure SpS where
  i : Nat
  fr : Nat
  l : List (List UInt8)
theorem c83 (s : List UInt8) (c : UInt8) (hs : s.length ≤ 1099511627776) : Pure prog 83 [.str s, byteC c] (.slice (splitB c s).length ((splitB c s).map .str) (some 9)) := by
  intro H
  (refine callOk_of_pFun2 (tt := tt83) (imm := imm83) follows tt83_ok depth6 func83 (by kernel_rfl) ?_; (conv => whnf))
  refine loopK_of SpS (fun x => [(0, .str s), (1, byteC c), (5, .slice x.l.length (x.l.map .str) (some 9)), (6, .int .i64 x.fr), (7, .int .i64 x.i)]) (fun _ => H)
    (fun x => x.fr ≤ x.i ∧ x.i ≤ s.length ∧ x.l.length ≤ x.i ∧ (∀ b ∈ (s.drop x.fr).take (x.i - x.fr), b ≠ c) ∧ x.l ++ splitB c (s.drop x.fr) = splitB c s) (fun x => s.length - x.i)
    ⟨⟨0, 0, []⟩, ⟨Nat.le_refl _, Nat.zero_le _, Nat.zero_le _, by simp, rfl⟩, ⟨rfl, rfl, rfl, rfl, rfl, trivial⟩, rfl⟩ ?_
  rintro ⟨i, fr, l⟩ ⟨h1, h2, h3, h4, h5⟩
  have h1 : fr ≤ i := h1
  have h2 : i ≤ s.length := h2
  have h3 : l.length ≤ i := h3
  have h4 : ∀ b ∈ (s.drop fr).take (i - fr), b ≠ c := h4
  have h5 : l ++ splitB c (s.drop fr) = splitB c s := h5
  (conv => whnf)
  refine ⟨fun h => ?_, fun h => ?_⟩
  · (conv => whnf)
    have h : (i : Int) < s.length := h
    have hi : i < s.length := by omega
    refine ⟨⟨by show (0:Int) ≤ (i : Int); omega, h⟩, s[i], List.getElem?_eq_getElem hi, ?_⟩
    (conv => whnf)
    refine ⟨fun e => ?_, fun e => ?_⟩
    · (conv => whnf)
      refine ⟨⟨by show (0:Int) ≤ (fr : Int); omega, by show (fr : Int) ≤ (i : Int); omega, by show (i : Int) ≤ _; omega⟩, ?_⟩
      (conv => whnf)
      refine ⟨⟨by show (l.length + 1) * 16 ≤ _; omega, rfl, rfl⟩, ?_⟩
      (conv => whnf)
      have e : s[i] = c := by
        have e : (s[i].toNat : Int) = (c.toNat : Int) := e
        exact UInt8.toNat_inj.1 (by omega)
      have hseg : s.drop fr = (s.drop fr).take (i - fr) ++ c :: s.drop (i + 1) := by
        conv => lhs; rw [← List.take_append_drop (i - fr) (s.drop fr)]
        rw [List.drop_drop, show fr + (i - fr) = i by omega, List.drop_eq_getElem_cons hi, e]
      refine ⟨⟨i + 1, i + 1, l ++ [(s.drop fr).take (i - fr)]⟩, ⟨Nat.le_refl _, hi, by simp; omega, by simp, ?_⟩, ⟨rfl, rfl, ?_, ?_, ?_, trivial⟩, rfl, ?_⟩
      · show (l ++ [(s.drop fr).take (i - fr)]) ++ splitB c (s.drop (i + 1)) = _
        rw [← h5]
        conv => rhs; rw [hseg, splitB_at c _ _ h4]
        simp
      · show PV.slice (l.length + 1) (l.map PV.str ++ [PV.str ((s.take (i : Int).toNat).drop (fr : Int).toNat)]) (some 9) = PV.slice (l ++ [(s.drop fr).take (i - fr)]).length ((l ++ [(s.drop fr).take (i - fr)]).map PV.str) (some 9)
        simp [List.drop_take]
      · show PV.int _ (IntKind.i64.wrap ((i : Int) + 1)) = PV.int _ ((i + 1 : Nat) : Int)
        rw [wrap64 (by omega) (by omega)]; simp
      · show PV.int _ (IntKind.i64.wrap ((i : Int) + 1)) = PV.int _ ((i + 1 : Nat) : Int)
        rw [wrap64 (by omega) (by omega)]; simp
      · show s.length - (i + 1) < s.length - i
        omega
    · (conv => whnf)
      have e : s[i] ≠ c := fun h => e (by rw [h])
      refine ⟨⟨i + 1, fr, l⟩, ⟨by show fr ≤ i + 1; omega, hi, by show l.length ≤ i + 1; omega, ?_, h5⟩, ⟨rfl, rfl, rfl, rfl, ?_, trivial⟩, rfl, ?_⟩
      · show ∀ b ∈ (s.drop fr).take (i + 1 - fr), b ≠ c
        intro b hb
        rw [show i + 1 - fr = (i - fr) + 1 by omega, List.take_succ_eq_append_getElem (by rw [List.length_drop]; omega)] at hb
        rcases List.mem_append.1 hb with hb | hb
        · exact h4 b hb
        · have : b = s[i] := by
            have := List.mem_singleton.1 hb
            rw [this, List.getElem_drop]; congr 1; omega
          rw [this]; exact e
      · show PV.int _ (IntKind.i64.wrap ((i : Int) + 1)) = PV.int _ ((i + 1 : Nat) : Int)
        rw [wrap64 (by omega) (by omega)]; simp
      · show s.length - (i + 1) < s.length - i
        omega
  · (conv => whnf)
    have h : ¬ (i : Int) < s.length := h
    refine ⟨⟨by show (0:Int) ≤ (fr : Int); omega, by show (fr : Int) ≤ _; omega, by omega⟩, ?_⟩
    (conv => whnf)
    refine ⟨⟨by show (l.length + 1) * 16 ≤ _; omega, rfl, rfl⟩, ?_⟩
    (conv => whnf)
    have hno : splitB c (s.drop fr) = [s.drop fr] := splitB_no c _ fun b hb => h4 b (by rw [List.take_of_length_le (by rw [List.length_drop]; omega)]; exact hb)
    refine ⟨?_, rfl⟩
    show PV.slice (l.length + 1) (l.map PV.str ++ [PV.str ((s.take (s.length : Int).toNat).drop (fr : Int).toNat)]) (some 9) = _
    rw [← h5, hno]
    simp
end Go.Proofs.Tryd
