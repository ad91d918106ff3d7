import Derived.Test.YtbejjlmdmakdfaaDoorT1
import Derived.Test.YtbejjlmdmakdfaaDoorPs21
set_option linter.all false
set_option linter.unusedVariables false
set_option linter.unusedSimpArgs false
set_option linter.unnecessarySimpa false
set_option maxRecDepth 100000
set_option linter.unusedVariables false
namespace Go.Proofs.Tryd
open Go Ps
def tt124 : TT := [(5, ⟨.int .u8, 1, 1, [.int .u8 0]⟩), (9, ⟨.str, 1, 16, [.str []]⟩)]
theorem tt124_ok : ttOk prog tt124 = true := by kernel_rfl
def imm124 : List Nat := []
def tt123 : TT := [(3, ⟨.int .i64, 1, 8, [.int .i64 0]⟩), (5, ⟨.int .u8, 1, 1, [.int .u8 0]⟩), (9, ⟨.str, 1, 16, [.str []]⟩)]
theorem tt123_ok : ttOk prog tt123 = true := by kernel_rfl
def imm123 : List Nat := []
def tt116 : TT := [(9, ⟨.str, 1, 16, [.str []]⟩)]
theorem tt116_ok : ttOk prog tt116 = true := by kernel_rfl
def imm116 : List Nat := []
def tt115 : TT := [(3, ⟨.int .i64, 1, 8, [.int .i64 0]⟩), (5, ⟨.int .u8, 1, 1, [.int .u8 0]⟩), (9, ⟨.str, 1, 16, [.str []]⟩)]
theorem tt115_ok : ttOk prog tt115 = true := by kernel_rfl
def imm115 : List Nat := []
def tt109 : TT := [(3, ⟨.int .i64, 1, 8, [.int .i64 0]⟩), (9, ⟨.str, 1, 16, [.str []]⟩), (29, ⟨.slice 9, 1, 24, [.slice 0 [] (some 9)]⟩)]
theorem tt109_ok : ttOk prog tt109 = true := by kernel_rfl
def imm109 : List Nat := []
def tt100 : TT := [(3, ⟨.int .i64, 1, 8, [.int .i64 0]⟩), (9, ⟨.str, 1, 16, [.str []]⟩), (29, ⟨.slice 9, 1, 24, [.slice 0 [] (some 9)]⟩)]
theorem tt100_ok : ttOk prog tt100 = true := by kernel_rfl
def imm100 : List Nat := []

theorem c122 (s : List UInt8) (c : UInt8) : Pure prog 122 [.str s, byteC c] (.int .i64 (Lib.countByte s c)) :=
  pure_extern2 (e := Extern.BytealgCount.count) func122 (by kernel_rfl) (by kernel_rfl) (by kernel_rfl) (by kernel_rfl) (run_count s c)
theorem c126 (s : List UInt8) (c : UInt8) : Pure prog 126 [.str s, byteC c] (.int .i64 (Lib.indexByte s c)) :=
  pure_extern2 (e := Extern.BytealgIndexByte.indexByte) func126 (by kernel_rfl) (by kernel_rfl) (by kernel_rfl) (by kernel_rfl) (run_index s c)
theorem c124 (s : List UInt8) (c : UInt8) : Pure prog 124 [.str s, byteC c] (.int .i64 (Lib.indexByte s c)) := by
  intro H
  (refine callOk_of_pFun2 (tt := tt124) (imm := imm124) follows tt124_ok depth6 func124 (by kernel_rfl) ?_; (conv => whnf))
  (refine callK_pure ((c126 s c)) ?_; try (conv => whnf))
  exact ⟨rfl, rfl⟩
theorem c123 (s : List UInt8) (c : UInt8) : Pure prog 123 [.str s, .str [c]] (.int .i64 (Lib.indexByte s c)) := by
  intro H
  (refine callOk_of_pFun2 (tt := tt123) (imm := imm123) follows tt123_ok depth6 func123 (by kernel_rfl) ?_; (conv => whnf))
  refine ⟨fun h => absurd h (by simp), fun h => ?_⟩
  (conv => whnf)
  refine ⟨fun h => ?_, fun h => ?_⟩
  · subst h
    (conv => whnf)
    exact ⟨by simp [Lib.indexByte, tupOf], rfl⟩
  · (conv => whnf)
    refine ⟨fun h1 => ?_, fun h1 => absurd (by simp) h1⟩
    (conv => whnf)
    refine ⟨⟨by omega, by simp⟩, c, rfl, ?_⟩
    (conv => whnf)
    (refine callK_pure ((c124 s c)) ?_; try (conv => whnf))
    exact ⟨rfl, rfl⟩
theorem c116 (s : List UInt8) (c : UInt8) : Pure prog 116 [.str s, .str [c]] (.int .i64 (Lib.indexByte s c)) := by
  intro H
  (refine callOk_of_pFun2 (tt := tt116) (imm := imm116) follows tt116_ok depth6 func116 (by kernel_rfl) ?_; (conv => whnf))
  (refine callK_pure ((c123 s c)) ?_; try (conv => whnf))
  exact ⟨rfl, rfl⟩
theorem c115 (s : List UInt8) (c : UInt8) : Pure prog 115 [.str s, .str [c]] (.int .i64 (Lib.countByte s c)) := by
  intro H
  (refine callOk_of_pFun2 (tt := tt115) (imm := imm115) follows tt115_ok depth6 func115 (by kernel_rfl) ?_; (conv => whnf))
  refine ⟨fun h => absurd h (by simp), fun h => ?_⟩
  (conv => whnf)
  refine ⟨fun h1 => ?_, fun h1 => absurd (by simp) h1⟩
  (conv => whnf)
  refine ⟨⟨by omega, by simp⟩, c, rfl, ?_⟩
  (conv => whnf)
  (refine callK_pure ((c122 s c)) ?_; try (conv => whnf))
  exact ⟨rfl, rfl⟩
def imm109' : List Nat := [31]
theorem c109 (s : List UInt8) (c : UInt8) (H : PH) (hs : s.length ≤ 1099511627776) :
    CallOk prog 109 [.str s, .str [c], .int .i64 0, .int .i64 (-1)] H fun r H' =>
      r = .sref H.length 0 (splitB c s).length (splitB c s).length ∧ ∃ v, H' = H ++ [⟨9, (splitB c s).map .str, v⟩] := by
  have hcl := countB_le c s
  have hsl := splitB_len c s
  refine callOk_of_pFun (tt := tt109) (imm := imm109') follows tt109_ok depth6 func109 (by kernel_rfl) ?_
  (conv => whnf)
  refine ⟨fun h => absurd h (by decide), fun h => ?_⟩
  (conv => whnf)
  refine ⟨fun h => absurd h (by simp), fun h => ?_⟩
  (conv => whnf)
  refine ⟨fun h => ?_, fun h => absurd (by decide) h⟩
  (conv => whnf)
  refine callK_pure (c115 s c) ?_
  (conv => whnf)
  rw [wrap64 (by omega) (by omega), wrap64 (by omega) (by omega), Int.min_eq_left (by omega)]
  refine ⟨⟨by omega, by omega, by simp; omega⟩, ?_⟩
  (conv => whnf)
  refine loopK_of (List UInt8 × List (List UInt8)) (fun x => [(0, .str x.1), (1, .str [c]), (2, .int .i64 0), (3, .int .i64 (Lib.countByte s c)), (9, .sref H.length 0 (splitB c s).length (splitB c s).length), (10, .int .i64 x.2.length)])
    (fun x => H ++ [⟨9, x.2.map .str ++ List.replicate (Lib.countByte x.1 c + 1) (.str []), x.2.length⟩])
    (fun x => x.2 ++ splitB c x.1 = splitB c s ∧ x.1.length ≤ s.length) (fun x => x.1.length) ⟨(s, []), ⟨rfl, Nat.le_refl _⟩, ?_, ?_⟩ ?_
  · refine ⟨rfl, rfl, rfl, ?_, ?_, rfl, trivial⟩
    · show PV.int _ _ = PV.int _ _
      rw [wrap64 (by omega) (by omega)]; congr 1; omega
    · show PV.sref _ _ _ _ = PV.sref _ _ _ _
      congr 1 <;> omega
  · show H ++ [PObj.mk _ _ _] = H ++ [PObj.mk _ _ _]
    rw [zerosOf_one]
    simp
  · rintro ⟨r, done⟩ ⟨h1, h2⟩
    have hl : done.length + (splitB c r).length = (splitB c s).length := by rw [← h1, List.length_append]
    have hrl := splitB_len c r
    have h1 : done ++ splitB c r = splitB c s := h1
    have h2 : r.length ≤ s.length := h2
    have tail : splitB c r = [r] → setCells (0 + (done.length : Int).toNat * 1) [PV.str r] (done.map .str ++ List.replicate (Lib.countByte r c + 1) (.str [])) = (splitB c s).map .str := fun hr => by
      have hz : Lib.countByte r c = 0 := by rw [hr] at hrl; simp at hrl; exact hrl
      rw [hz, ← h1, hr]
      exact (setCells_one _ _ _ _ _ (by simp)).trans (by simp)
    (conv => whnf)
    refine ⟨fun h3 => ?_, fun h3 => ?_⟩
    · (conv => whnf)
      refine callK_pure (c116 r c) ?_
      (conv => whnf)
      refine ⟨fun h4 => ?_, fun h4 => ?_⟩
      · (conv => whnf)
        rcases splitB_idx c r with ⟨i1, i2, i3⟩ | ⟨i, i1, _⟩
        · have h3 : (done.length : Int) < (Lib.countByte s c : Int) := h3
          refine ⟨⟨by omega, by omega⟩, ?_⟩
          (conv => whnf)
          rw [get_last]
          (conv => whnf)
          ((conv in (Nat.ble _ _) => tactic => exact (show Nat.ble (0 + (done.length : Int).toNat * 1 + 1) (done.map PV.str ++ List.replicate (Lib.countByte r c + 1) (PV.str [])).length = true by rw [Nat.ble_eq]; simp)); (conv => whnf))
          rw [wrap64 (by simp; omega) (by simp; omega)]
          refine ⟨⟨by omega, by simp; omega, by simp; omega⟩, fun _ => ?_, fun hc => absurd (by omega) hc⟩
          (conv => whnf)
          refine ⟨?_, done.length + 1, ?_⟩
          · show PV.sref _ _ _ _ = PV.sref _ _ _ _
            congr 1 <;> simp <;> omega
          · show (H ++ [_]).set _ _ = _
            rw [set_last]
            show H ++ [PObj.mk _ (setCells (0 + (done.length : Int).toNat * 1) [PV.str r] (done.map .str ++ List.replicate (Lib.countByte r c + 1) (.str []))) _] = _
            rw [tail i2]
        · omega
      · (conv => whnf)
        rcases splitB_idx c r with ⟨i1, _⟩ | ⟨i, i1, i2, i3, i4⟩
        · omega
        · have h3 : (done.length : Int) < (Lib.countByte s c : Int) := h3
          rw [wrap64 (by omega) (by omega)]
          refine ⟨⟨by omega, by omega, by show Lib.indexByte r c + 0 ≤ (r.length : Int); omega⟩, ?_⟩
          (conv => whnf)
          refine ⟨⟨by show (0 : Int) ≤ done.length; omega, by show (done.length : Int) < _; omega⟩, ?_⟩
          (conv => whnf)
          rw [get_last]
          (conv => whnf)
          ((conv in (Nat.ble _ _) => tactic => exact (show Nat.ble (0 + (done.length : Int).toNat * 1 + 1) (done.map PV.str ++ List.replicate (Lib.countByte r c + 1) (PV.str [])).length = true by rw [Nat.ble_eq]; simp)); (conv => whnf))
          rw [wrap64 (by simp; omega) (by simp; omega)]
          refine ⟨⟨by simp; omega, by simp; omega, by simp⟩, ?_⟩
          (conv => whnf)
          have e1 : ((Lib.indexByte r c + ([c].length : Int)).toNat) = i + 1 := by rw [i1]; simp
          have e2 : (Lib.indexByte r c + 0).toNat = i := by rw [i1]; simp
          refine ⟨(r.drop (i + 1), done ++ [r.take i]), ⟨?_, ?_⟩, ⟨?_, rfl, rfl, rfl, rfl, ?_, trivial⟩, ?_, ?_⟩
          · show (done ++ [r.take i]) ++ splitB c (r.drop (i + 1)) = _
            rw [← h1, i3]; simp
          · show (r.drop (i + 1)).length ≤ _
            rw [List.length_drop]; omega
          · show PV.str ((r.take ((r.length : Int).toNat)).drop ((Lib.indexByte r c + ([c].length : Int)).toNat)) = PV.str _
            rw [e1]; simp
          · show PV.int _ (IntKind.i64.wrap ((done.length : Int) + 1)) = PV.int _ _
            rw [wrap64 (by omega) (by omega)]; simp
          · show (H ++ [_]).set _ _ = _
            rw [set_last]
            show H ++ [PObj.mk _ (setCells (0 + (done.length : Int).toNat * 1) [PV.str ((r.take (Lib.indexByte r c + 0).toNat).drop 0)] (done.map .str ++ List.replicate (Lib.countByte r c + 1) (.str []))) _] = _
            rw [e2, i4, List.replicate_succ, setCells_one _ _ _ _ _ (by simp)]
            simp
          · show (r.drop (i + 1)).length < r.length
            rw [List.length_drop]; omega
    · (conv => whnf)
      have h3 : ¬ (done.length : Int) < (Lib.countByte s c : Int) := h3
      have i2 : splitB c r = [r] := by
        rcases splitB_idx c r with ⟨_, i2, _⟩ | ⟨i, _, _, _, i4⟩
        · exact i2
        · omega
      have i3 : Lib.countByte r c = 0 := by rw [i2] at hrl; simp at hrl; exact hrl
      refine ⟨⟨by show (0 : Int) ≤ (done.length : Int); omega, by show (done.length : Int) < _; omega⟩, ?_⟩
      (conv => whnf)
      rw [get_last]
      (conv => whnf)
      ((conv in (Nat.ble _ _) => tactic => exact (show Nat.ble (0 + (done.length : Int).toNat * 1 + 1) (done.map PV.str ++ List.replicate (Lib.countByte r c + 1) (PV.str [])).length = true by rw [Nat.ble_eq]; simp)); (conv => whnf))
      rw [wrap64 (by simp; omega) (by simp; omega)]
      refine ⟨⟨by omega, by simp; omega, by simp; omega⟩, fun _ => ?_, fun hc => absurd (by omega) hc⟩
      (conv => whnf)
      refine ⟨?_, done.length + 1, ?_⟩
      · show PV.sref _ _ _ _ = PV.sref _ _ _ _
        congr 1 <;> simp <;> omega
      · show (H ++ [_]).set _ _ = _
        rw [set_last]
        show H ++ [PObj.mk _ (setCells (0 + (done.length : Int).toNat * 1) [PV.str r] (done.map .str ++ List.replicate (Lib.countByte r c + 1) (.str []))) _] = _
        rw [tail i2]
end Go.Proofs.Tryd
