import Derived.Test.YtbejjlmdmakdfaaGreatDoorProg
import Derived.Test.YtbejjlmdmakdfaaGreatDoorPsB
set_option linter.all false
set_option maxRecDepth 100000
namespace Go.Proofs.Tryz
open Go Ps
theorem follows : prog.follows .mixedOrders = true := by kernel_rfl
theorem depth6 : 6 ≤ prog.depth := by
  have h : Nat.ble 6 prog.depth = true := by kernel_rfl
  exact Nat.le_of_ble_eq_true h
def tt188 : TT := [(3, ⟨.int .i64, 1, 8, [.int .i64 0]⟩), (9, ⟨.str, 1, 16, [.str []]⟩)]
theorem tt188_ok : ttOk prog tt188 = true := by kernel_rfl
def imm188 : List Nat := []
def tt190 : TT := [(9, ⟨.str, 1, 16, [.str []]⟩)]
theorem tt190_ok : ttOk prog tt190 = true := by kernel_rfl
def imm190 : List Nat := []
def tt173 : TT := [(4, ⟨.bool, 1, 1, [.bool false]⟩), (9, ⟨.str, 1, 16, [.str []]⟩)]
theorem tt173_ok : ttOk prog tt173 = true := by kernel_rfl
def imm173 : List Nat := []
def tt155 : TT := [(9, ⟨.str, 1, 16, [.str []]⟩)]
theorem tt155_ok : ttOk prog tt155 = true := by kernel_rfl
def imm155 : List Nat := []

theorem take_of_prefix {p s : List UInt8} (h : p.length ≤ s.length) : (s.take p.length = p) ↔ p.isPrefixOf s = true := by
  rw [List.isPrefixOf_iff_prefix, List.prefix_iff_eq_take]; exact eq_comm
theorem c188 (s p : List UInt8) : Pure prog 188 [.str s, .str p] (.bool (p.isPrefixOf s)) := by
  intro H
  (refine callOk_of_pFun2 (tt := tt188) (imm := imm188) follows tt188_ok depth6 func188 (by kernel_rfl) ?_; (conv => whnf))
  refine ⟨fun h => ?_, fun h => ?_⟩
  · (conv => whnf)
    have h : p.length ≤ s.length := by omega
    refine ⟨⟨by omega, by omega, by omega⟩, ?_⟩
    (conv => whnf)
    simp only [Int.toNat_natCast, Int.toNat_zero, List.drop_zero]
    refine ⟨fun h2 => ?_, fun h2 => ?_⟩
    · (conv => whnf)
      exact ⟨by rw [(take_of_prefix h).1 h2]; rfl, rfl⟩
    · (conv => whnf)
      have : p.isPrefixOf s = false := by
        cases hb : p.isPrefixOf s with
        | false => rfl
        | true => exact absurd ((take_of_prefix h).2 hb) h2
      exact ⟨by rw [this]; rfl, rfl⟩
  · (conv => whnf)
    have : p.isPrefixOf s = false := by
      cases hb : p.isPrefixOf s with
      | false => rfl
      | true =>
        have := (List.isPrefixOf_iff_prefix.1 hb).length_le
        omega
    exact ⟨by rw [this]; rfl, rfl⟩
theorem c190 (s p : List UInt8) : Pure prog 190 [.str s, .str p] (.bool (p.isPrefixOf s)) := by
  intro H
  (refine callOk_of_pFun2 (tt := tt190) (imm := imm190) follows tt190_ok depth6 func190 (by kernel_rfl) ?_; (conv => whnf))
  (refine callK_pure ((c188 s p)) ?_; try (conv => whnf))
  exact ⟨rfl, rfl⟩
def cutP (s p : List UInt8) : PV := if p.isPrefixOf s then .tup [.str (s.drop p.length), .bool true] else .tup [.str s, .bool false]
theorem c173 (s p : List UInt8) : Pure prog 173 [.str s, .str p] (cutP s p) := by
  intro H
  (refine callOk_of_pFun2 (tt := tt173) (imm := imm173) follows tt173_ok depth6 func173 (by kernel_rfl) ?_; (conv => whnf))
  refine callK_pure (c188 s p) ?_
  unfold cutP
  cases hb : p.isPrefixOf s
  · (conv => whnf)
    exact ⟨rfl, rfl⟩
  · (conv => whnf)
    have := (List.isPrefixOf_iff_prefix.1 hb).length_le
    refine ⟨⟨by omega, by omega, by omega⟩, ?_⟩
    (conv => whnf)
    refine ⟨?_, rfl⟩
    simp [tupOf]
theorem c155 (s p : List UInt8) : Pure prog 155 [.str s, .str p] (cutP s p) := by
  intro H
  (refine callOk_of_pFun2 (tt := tt155) (imm := imm155) follows tt155_ok depth6 func155 (by kernel_rfl) ?_; (conv => whnf))
  refine callK_pure (c173 s p) ?_
  unfold cutP
  cases hb : p.isPrefixOf s
  · (conv => whnf)
    exact ⟨rfl, rfl⟩
  · (conv => whnf)
    exact ⟨rfl, rfl⟩
end Go.Proofs.Tryz

set_option maxRecDepth 100000
set_option linter.unusedVariables false
namespace Go.Proofs.Tryz
open Go Ps
def tt223 : TT := [(5, ⟨.int .u8, 1, 1, [.int .u8 0]⟩), (9, ⟨.str, 1, 16, [.str []]⟩)]
theorem tt223_ok : ttOk prog tt223 = true := by kernel_rfl
def imm223 : List Nat := []
def tt222 : TT := [(3, ⟨.int .i64, 1, 8, [.int .i64 0]⟩), (5, ⟨.int .u8, 1, 1, [.int .u8 0]⟩), (9, ⟨.str, 1, 16, [.str []]⟩)]
theorem tt222_ok : ttOk prog tt222 = true := by kernel_rfl
def imm222 : List Nat := []
def tt210 : TT := [(9, ⟨.str, 1, 16, [.str []]⟩)]
theorem tt210_ok : ttOk prog tt210 = true := by kernel_rfl
def imm210 : List Nat := []
def tt209 : TT := [(3, ⟨.int .i64, 1, 8, [.int .i64 0]⟩), (5, ⟨.int .u8, 1, 1, [.int .u8 0]⟩), (9, ⟨.str, 1, 16, [.str []]⟩)]
theorem tt209_ok : ttOk prog tt209 = true := by kernel_rfl
def imm209 : List Nat := []
def tt200 : TT := [(3, ⟨.int .i64, 1, 8, [.int .i64 0]⟩), (9, ⟨.str, 1, 16, [.str []]⟩), (257, ⟨.slice 9, 1, 24, [.slice 0 [] (some 9)]⟩)]
theorem tt200_ok : ttOk prog tt200 = true := by kernel_rfl
def imm200 : List Nat := []
def tt189 : TT := [(3, ⟨.int .i64, 1, 8, [.int .i64 0]⟩), (9, ⟨.str, 1, 16, [.str []]⟩), (257, ⟨.slice 9, 1, 24, [.slice 0 [] (some 9)]⟩)]
theorem tt189_ok : ttOk prog tt189 = true := by kernel_rfl
def imm189 : List Nat := []

theorem c221 (s : List UInt8) (c : UInt8) : Pure prog 221 [.str s, byteC c] (.int .i64 (Lib.countByte s c)) :=
  pure_extern2 (e := Extern.BytealgCount.count) func221 (by kernel_rfl) (by kernel_rfl) (by kernel_rfl) (by kernel_rfl) (run_count s c)
theorem c227 (s : List UInt8) (c : UInt8) : Pure prog 227 [.str s, byteC c] (.int .i64 (Lib.indexByte s c)) :=
  pure_extern2 (e := Extern.BytealgIndexByte.indexByte) func227 (by kernel_rfl) (by kernel_rfl) (by kernel_rfl) (by kernel_rfl) (run_index s c)
theorem c223 (s : List UInt8) (c : UInt8) : Pure prog 223 [.str s, byteC c] (.int .i64 (Lib.indexByte s c)) := by
  intro H
  (refine callOk_of_pFun2 (tt := tt223) (imm := imm223) follows tt223_ok depth6 func223 (by kernel_rfl) ?_; (conv => whnf))
  (refine callK_pure ((c227 s c)) ?_; try (conv => whnf))
  exact ⟨rfl, rfl⟩
theorem c222 (s : List UInt8) (c : UInt8) : Pure prog 222 [.str s, .str [c]] (.int .i64 (Lib.indexByte s c)) := by
  intro H
  (refine callOk_of_pFun2 (tt := tt222) (imm := imm222) follows tt222_ok depth6 func222 (by kernel_rfl) ?_; (conv => whnf))
  refine ⟨fun h => absurd h (by simp), fun h => ?_⟩
  (conv => whnf)
  refine ⟨fun h => ?_, fun h => ?_⟩
  · subst h
    (conv => whnf)
    exact ⟨by simp [Lib.indexByte, tupOf], rfl⟩
  · (conv => whnf)
    refine ⟨fun h1 => ?_, fun h1 => absurd (by simp) h1⟩
    (conv => whnf)
    refine ⟨⟨by omega, by simp⟩, c, rfl, ?_⟩
    (conv => whnf)
    (refine callK_pure ((c223 s c)) ?_; try (conv => whnf))
    exact ⟨rfl, rfl⟩
theorem c210 (s : List UInt8) (c : UInt8) : Pure prog 210 [.str s, .str [c]] (.int .i64 (Lib.indexByte s c)) := by
  intro H
  (refine callOk_of_pFun2 (tt := tt210) (imm := imm210) follows tt210_ok depth6 func210 (by kernel_rfl) ?_; (conv => whnf))
  (refine callK_pure ((c222 s c)) ?_; try (conv => whnf))
  exact ⟨rfl, rfl⟩
theorem c209 (s : List UInt8) (c : UInt8) : Pure prog 209 [.str s, .str [c]] (.int .i64 (Lib.countByte s c)) := by
  intro H
  (refine callOk_of_pFun2 (tt := tt209) (imm := imm209) follows tt209_ok depth6 func209 (by kernel_rfl) ?_; (conv => whnf))
  refine ⟨fun h => absurd h (by simp), fun h => ?_⟩
  (conv => whnf)
  refine ⟨fun h1 => ?_, fun h1 => absurd (by simp) h1⟩
  (conv => whnf)
  refine ⟨⟨by omega, by simp⟩, c, rfl, ?_⟩
  (conv => whnf)
  (refine callK_pure ((c221 s c)) ?_; try (conv => whnf))
  exact ⟨rfl, rfl⟩
def imm200' : List Nat := [31]
theorem c200 (s : List UInt8) (c : UInt8) (H : PH) (hs : s.length ≤ 1099511627776) :
    CallOk prog 200 [.str s, .str [c], .int .i64 0, .int .i64 (-1)] H fun r H' =>
      r = .sref H.length 0 (splitB c s).length (splitB c s).length ∧ ∃ v, H' = H ++ [⟨9, (splitB c s).map .str, v⟩] := by
  have hcl := countB_le c s
  have hsl := splitB_len c s
  refine callOk_of_pFun (tt := tt200) (imm := imm200') follows tt200_ok depth6 func200 (by kernel_rfl) ?_
  (conv => whnf)
  refine ⟨fun h => absurd h (by decide), fun h => ?_⟩
  (conv => whnf)
  refine ⟨fun h => absurd h (by simp), fun h => ?_⟩
  (conv => whnf)
  refine ⟨fun h => ?_, fun h => absurd (by decide) h⟩
  (conv => whnf)
  refine callK_pure (c209 s c) ?_
  (conv => whnf)
  rw [wrap64 (by omega) (by omega), wrap64 (by omega) (by omega), Int.min_eq_left (by omega)]
  refine ⟨⟨by omega, by omega, by simp; omega⟩, ?_⟩
  (conv => whnf)
  refine loopK_of (List UInt8 × List (List UInt8)) (fun x => [(0, .str x.1), (1, .str [c]), (2, .int .i64 0), (3, .int .i64 (Lib.countByte s c)), (9, .sref H.length 0 (splitB c s).length (splitB c s).length), (10, .int .i64 x.2.length)])
    (fun x => H ++ [⟨9, x.2.map .str ++ List.replicate (Lib.countByte x.1 c + 1) (.str []), x.2.length⟩])
    (fun x => x.2 ++ splitB c x.1 = splitB c s ∧ x.1.length ≤ s.length) (fun x => x.1.length) ⟨(s, []), ⟨rfl, Nat.le_refl _⟩, ?_, ?_⟩ ?_
  · refine ⟨rfl, rfl, rfl, ?_, ?_, rfl, trivial⟩
    · show PV.int _ _ = PV.int _ _
      rw [wrap64 (by omega) (by omega)]; congr 1; omega
    · show PV.sref _ _ _ _ = PV.sref _ _ _ _
      congr 1 <;> omega
  · show H ++ [PObj.mk _ _ _] = H ++ [PObj.mk _ _ _]
    rw [zerosOf_one]
    simp
  · rintro ⟨r, done⟩ ⟨h1, h2⟩
    have hl : done.length + (splitB c r).length = (splitB c s).length := by rw [← h1, List.length_append]
    have hrl := splitB_len c r
    have h1 : done ++ splitB c r = splitB c s := h1
    have h2 : r.length ≤ s.length := h2
    have tail : splitB c r = [r] → setCells (0 + (done.length : Int).toNat * 1) [PV.str r] (done.map .str ++ List.replicate (Lib.countByte r c + 1) (.str [])) = (splitB c s).map .str := fun hr => by
      have hz : Lib.countByte r c = 0 := by rw [hr] at hrl; simp at hrl; exact hrl
      rw [hz, ← h1, hr]
      exact (setCells_one _ _ _ _ _ (by simp)).trans (by simp)
    (conv => whnf)
    refine ⟨fun h3 => ?_, fun h3 => ?_⟩
    · (conv => whnf)
      refine callK_pure (c210 r c) ?_
      (conv => whnf)
      refine ⟨fun h4 => ?_, fun h4 => ?_⟩
      · (conv => whnf)
        rcases splitB_idx c r with ⟨i1, i2, i3⟩ | ⟨i, i1, _⟩
        · have h3 : (done.length : Int) < (Lib.countByte s c : Int) := h3
          refine ⟨⟨by omega, by omega⟩, ?_⟩
          (conv => whnf)
          rw [get_last]
          (conv => whnf)
          ((conv in (Nat.ble _ _) => tactic => exact (show Nat.ble (0 + (done.length : Int).toNat * 1 + 1) (done.map PV.str ++ List.replicate (Lib.countByte r c + 1) (PV.str [])).length = true by rw [Nat.ble_eq]; simp)); (conv => whnf))
          rw [wrap64 (by simp; omega) (by simp; omega)]
          refine ⟨⟨by omega, by simp; omega, by simp; omega⟩, fun _ => ?_, fun hc => absurd (by omega) hc⟩
          (conv => whnf)
          refine ⟨?_, done.length + 1, ?_⟩
          · show PV.sref _ _ _ _ = PV.sref _ _ _ _
            congr 1 <;> simp <;> omega
          · show (H ++ [_]).set _ _ = _
            rw [set_last]
            show H ++ [PObj.mk _ (setCells (0 + (done.length : Int).toNat * 1) [PV.str r] (done.map .str ++ List.replicate (Lib.countByte r c + 1) (.str []))) _] = _
            rw [tail i2]
        · omega
      · (conv => whnf)
        rcases splitB_idx c r with ⟨i1, _⟩ | ⟨i, i1, i2, i3, i4⟩
        · omega
        · have h3 : (done.length : Int) < (Lib.countByte s c : Int) := h3
          rw [wrap64 (by omega) (by omega)]
          refine ⟨⟨by omega, by omega, by show Lib.indexByte r c + 0 ≤ (r.length : Int); omega⟩, ?_⟩
          (conv => whnf)
          refine ⟨⟨by show (0 : Int) ≤ done.length; omega, by show (done.length : Int) < _; omega⟩, ?_⟩
          (conv => whnf)
          rw [get_last]
          (conv => whnf)
          ((conv in (Nat.ble _ _) => tactic => exact (show Nat.ble (0 + (done.length : Int).toNat * 1 + 1) (done.map PV.str ++ List.replicate (Lib.countByte r c + 1) (PV.str [])).length = true by rw [Nat.ble_eq]; simp)); (conv => whnf))
          rw [wrap64 (by simp; omega) (by simp; omega)]
          refine ⟨⟨by simp; omega, by simp; omega, by simp⟩, ?_⟩
          (conv => whnf)
          have e1 : ((Lib.indexByte r c + ([c].length : Int)).toNat) = i + 1 := by rw [i1]; simp
          have e2 : (Lib.indexByte r c + 0).toNat = i := by rw [i1]; simp
          refine ⟨(r.drop (i + 1), done ++ [r.take i]), ⟨?_, ?_⟩, ⟨?_, rfl, rfl, rfl, rfl, ?_, trivial⟩, ?_, ?_⟩
          · show (done ++ [r.take i]) ++ splitB c (r.drop (i + 1)) = _
            rw [← h1, i3]; simp
          · show (r.drop (i + 1)).length ≤ _
            rw [List.length_drop]; omega
          · show PV.str ((r.take ((r.length : Int).toNat)).drop ((Lib.indexByte r c + ([c].length : Int)).toNat)) = PV.str _
            rw [e1]; simp
          · show PV.int _ (IntKind.i64.wrap ((done.length : Int) + 1)) = PV.int _ _
            rw [wrap64 (by omega) (by omega)]; simp
          · show (H ++ [_]).set _ _ = _
            rw [set_last]
            show H ++ [PObj.mk _ (setCells (0 + (done.length : Int).toNat * 1) [PV.str ((r.take (Lib.indexByte r c + 0).toNat).drop 0)] (done.map .str ++ List.replicate (Lib.countByte r c + 1) (.str []))) _] = _
            rw [e2, i4, List.replicate_succ, setCells_one _ _ _ _ _ (by simp)]
            simp
          · show (r.drop (i + 1)).length < r.length
            rw [List.length_drop]; omega
    · (conv => whnf)
      have h3 : ¬ (done.length : Int) < (Lib.countByte s c : Int) := h3
      have i2 : splitB c r = [r] := by
        rcases splitB_idx c r with ⟨_, i2, _⟩ | ⟨i, _, _, _, i4⟩
        · exact i2
        · omega
      have i3 : Lib.countByte r c = 0 := by rw [i2] at hrl; simp at hrl; exact hrl
      refine ⟨⟨by show (0 : Int) ≤ (done.length : Int); omega, by show (done.length : Int) < _; omega⟩, ?_⟩
      (conv => whnf)
      rw [get_last]
      (conv => whnf)
      ((conv in (Nat.ble _ _) => tactic => exact (show Nat.ble (0 + (done.length : Int).toNat * 1 + 1) (done.map PV.str ++ List.replicate (Lib.countByte r c + 1) (PV.str [])).length = true by rw [Nat.ble_eq]; simp)); (conv => whnf))
      rw [wrap64 (by simp; omega) (by simp; omega)]
      refine ⟨⟨by omega, by simp; omega, by simp; omega⟩, fun _ => ?_, fun hc => absurd (by omega) hc⟩
      (conv => whnf)
      refine ⟨?_, done.length + 1, ?_⟩
      · show PV.sref _ _ _ _ = PV.sref _ _ _ _
        congr 1 <;> simp <;> omega
      · show (H ++ [_]).set _ _ = _
        rw [set_last]
        show H ++ [PObj.mk _ (setCells (0 + (done.length : Int).toNat * 1) [PV.str r] (done.map .str ++ List.replicate (Lib.countByte r c + 1) (.str []))) _] = _
        rw [tail i2]
end Go.Proofs.Tryz

set_option maxRecDepth 100000
set_option linter.unusedVariables false
namespace Go.Proofs.Tryz
open Go Ps
def tt201 : TT := [(3, ⟨.int .i64, 1, 8, [.int .i64 0]⟩), (9, ⟨.str, 1, 16, [.str []]⟩), (257, ⟨.slice 9, 1, 24, [.slice 0 [] (some 9)]⟩)]
theorem tt201_ok : ttOk prog tt201 = true := by kernel_rfl
def imm201 : List Nat := []
def tt193 : TT := [(3, ⟨.int .i64, 1, 8, [.int .i64 0]⟩), (9, ⟨.str, 1, 16, [.str []]⟩), (257, ⟨.slice 9, 1, 24, [.slice 0 [] (some 9)]⟩), (135, ⟨.fn, 1, 8, [.nilF]⟩)]
theorem tt193_ok : ttOk prog tt193 = true := by kernel_rfl
def imm193 : List Nat := []

theorem c189 (s : List UInt8) (c : UInt8) (H : PH) (hs : s.length ≤ 1099511627776) :
    CallOk prog 189 [.str s, .str [c]] H fun r H' =>
      r = .sref H.length 0 (splitB c s).length (splitB c s).length ∧ ∃ v, H' = H ++ [⟨9, (splitB c s).map .str, v⟩] := by
  (refine callOk_of_pFun2 (tt := tt189) (imm := imm189) follows tt189_ok depth6 func189 (by kernel_rfl) ?_; (conv => whnf))
  refine callK_of (c200 s c H hs) ?_
  rintro _ _ ⟨rfl, v, rfl⟩
  (conv => whnf)
  exact ⟨rfl, v, rfl⟩

def idxF (p : List UInt8 → Bool) : List (List UInt8) → Int
  | [] => -1
  | x :: l => if p x then 0 else (if idxF p l < 0 then -1 else idxF p l + 1)
theorem idxF_cons (p : List UInt8 → Bool) (x : List UInt8) (l : List (List UInt8)) : idxF p (x :: l) = if p x then 0 else (if idxF p l < 0 then -1 else idxF p l + 1) := rfl
theorem idxF_ge (p : List UInt8 → Bool) : ∀ l, -1 ≤ idxF p l
  | [] => by simp [idxF]
  | x :: l => by
    have := idxF_ge p l
    unfold idxF
    split
    · omega
    · split <;> omega
theorem idxF_neg (p : List UInt8 → Bool) : ∀ l, 0 ≤ idxF p l ↔ l.any p = true
  | [] => by simp [idxF]
  | x :: l => by
    have := idxF_neg p l
    have h2 := idxF_ge p l
    unfold idxF
    cases hp : p x
    · simp only [hp, List.any_cons, Bool.false_or]
      rw [← this]
      by_cases h : idxF p l < 0
      · simp [h]
      · simp [h]; omega
    · simp [hp]
theorem c201 (f id n : Nat) (p : List UInt8 → Bool) (l : List (List UInt8)) (T v : Nat) (H : PH) (hid : H[id]? = some ⟨T, l.map .str, v⟩) (hn : n = l.length) (hs : l.length ≤ 1099511627776)
    (hp : ∀ x ∈ l, Pure prog f [.str x] (.bool (p x))) : CallOk prog 201 [.sref id 0 n n, .func f [] []] H fun r H' => r = .int .i64 (idxF p l) ∧ H' = H := by
  subst hn
  (refine callOk_of_pFun2 (tt := tt201) (imm := imm201) follows tt201_ok depth6 func201 (by kernel_rfl) ?_; (conv => whnf))
  refine loopK_of Nat (fun i => [(0, .sref id 0 l.length l.length), (1, .func f [] []), (7, .int .i64 l.length), (8, .int .i64 i)]) (fun _ => H)
    (fun i => i ≤ l.length ∧ idxF p l = if idxF p (l.drop i) < 0 then -1 else idxF p (l.drop i) + i) (fun i => l.length - i) ⟨0, ⟨Nat.zero_le _, by have := idxF_ge p l; simp; omega⟩, ⟨rfl, rfl, rfl, rfl, trivial⟩, rfl⟩ ?_
  rintro i ⟨h1, h2⟩
  (conv => whnf)
  refine ⟨fun h3 => ?_, fun h3 => ?_⟩
  · (conv => whnf)
    have h3 : (i : Int) < l.length := h3
    have hi : i < l.length := by omega
    have hgi := List.getElem?_eq_getElem hi
    refine ⟨⟨by omega, by omega⟩, ?_⟩
    (conv => whnf)
    rw [hid]
    (conv => whnf)
    generalize hd : dropN _ _ = L
    have hL := dropN_cells PV.str l hgi
    rw [show L = _ from hd.symm.trans hL]
    (conv => whnf)
    refine callK_pure (hp _ (List.getElem_mem hi)) ?_
    have hdr := List.drop_eq_getElem_cons hi
    have hge := idxF_ge p (l.drop (i + 1))
    rw [hdr, idxF_cons] at h2
    cases hb : p l[i]
    · (conv => whnf)
      rw [hb] at h2
      refine ⟨i + 1, ⟨by omega, ?_⟩, ⟨rfl, rfl, rfl, ?_, trivial⟩, rfl, by omega⟩
      · rw [h2]
        simp only [Bool.false_eq_true, if_false]
        split <;> split <;> (try split) <;> omega
      · show PV.int _ (IntKind.i64.wrap ((i : Int) + 1)) = PV.int _ _
        rw [wrap64 (by omega) (by omega)]; simp
    · (conv => whnf)
      rw [hb] at h2
      refine ⟨?_, rfl⟩
      show PV.int _ _ = PV.int _ _
      rw [h2]; simp
  · (conv => whnf)
    have h3 : ¬ (i : Int) < l.length := h3
    refine ⟨?_, rfl⟩
    show PV.int _ _ = PV.int _ _
    rw [h2, List.drop_eq_nil_of_le (by omega)]; simp [idxF]
theorem c193 (f id n : Nat) (p : List UInt8 → Bool) (l : List (List UInt8)) (T v : Nat) (H : PH) (hid : H[id]? = some ⟨T, l.map .str, v⟩) (hn : n = l.length) (hs : l.length ≤ 1099511627776)
    (hp : ∀ x ∈ l, Pure prog f [.str x] (.bool (p x))) : CallOk prog 193 [.sref id 0 n n, .func f [] []] H fun r H' => r = .bool (l.any p) ∧ H' = H := by
  (refine callOk_of_pFun2 (tt := tt193) (imm := imm193) follows tt193_ok depth6 func193 (by kernel_rfl) ?_; (conv => whnf))
  refine callK_of (c201 f id n p l T v H hid hn hs hp) ?_
  rintro _ _ ⟨rfl, rfl⟩
  (conv => whnf)
  have := idxF_neg p l
  refine ⟨fun h => ?_, fun h => ?_⟩
  · (conv => whnf)
    exact ⟨by rw [this.1 h]; rfl, rfl⟩
  · (conv => whnf)
    refine ⟨?_, rfl⟩
    cases hb : l.any p with
    | false => rfl
    | true => exact absurd (this.2 hb) h
end Go.Proofs.Tryz

set_option maxRecDepth 100000
set_option linter.unusedVariables false
namespace Go.Proofs.Tryz
open Go Ps
def tt191 : TT := [(3, ⟨.int .i64, 1, 8, [.int .i64 0]⟩), (9, ⟨.str, 1, 16, [.str []]⟩), (257, ⟨.slice 9, 1, 24, [.slice 0 [] (some 9)]⟩)]
theorem tt191_ok : ttOk prog tt191 = true := by kernel_rfl
def imm191 : List Nat := []

def D191 : Draw := { imp := [13, 15], win := [(2, 0, 1), (3, 0, 1), (14, 1, 1), (15, 1, 1)] }
structure RevS where
  i : Nat
  cur : List (List UInt8)
  v : Nat
theorem c191 (id n : Nat) (l : List (List UInt8)) (T v : Nat) (H : PH) (hid : H[id]? = some ⟨T, l.map .str, v⟩) (hn : n = l.length) (hs : l.length ≤ 1099511627776) :
    CallOk prog 191 [.sref id 0 n n] H fun r H' => r = .tup [] ∧ ∃ v', H' = H.set id ⟨T, l.reverse.map .str, v'⟩ := by
  subst hn
  (refine callOk_of_pFun2 (tt := tt191) (imm := imm191) follows tt191_ok depth6 func191 (by kernel_rfl) ?_; (conv => whnf))
  refine loopK_of RevS (fun x => [(0, .sref id 0 l.length l.length), (2, .int .i64 x.i), (3, .int .i64 ((l.length : Int) - 1 - x.i))]) (fun x => H.set id ⟨T, x.cur.map .str, x.v⟩)
    (fun x => x.i ≤ l.length ∧ x.cur.length = l.length ∧ ∀ k, k < l.length → x.cur[k]? = if k < x.i ∨ l.length - x.i ≤ k then l[l.length - 1 - k]? else l[k]?) (fun x => l.length - x.i)
    ⟨⟨0, l, v⟩, ⟨Nat.zero_le _, rfl, fun k hk => by rw [if_neg (by show ¬ (k < 0 ∨ l.length - 0 ≤ k); omega)]⟩, ⟨rfl, rfl, ?_, trivial⟩, (set_self hid).symm⟩ ?_
  · show PV.int _ (IntKind.i64.wrap ((l.length : Int) - 1)) = PV.int _ ((l.length : Int) - 1 - 0)
    rw [wrap64 (by omega) (by omega)]; simp
  rintro ⟨i, cur, v⟩ ⟨h1, h2, h3⟩
  (conv => whnf)
  refine ⟨fun h4 => ?_, fun h4 => ?_⟩
  · (conv => whnf)
    have h4 : (i : Int) < (l.length : Int) - 1 - i := h4
    have h2 : cur.length = l.length := h2
    have hi : i < cur.length := by omega
    have hj : cur.length - 1 - i < cur.length := by omega
    refine drawK_of2 D191 [H.set id ⟨T, cur.map .str, v⟩, H.set id ⟨T, (cur.set i cur[cur.length - 1 - i]).map .str, v + 1⟩, H.set id ⟨T, ((cur.set i cur[cur.length - 1 - i]).set (cur.length - 1 - i) cur[i]).map .str, v + 1 + 1⟩] (by kernel_rfl) rfl trivial ?_
    have g0 := get_set (o' := ⟨T, cur.map .str, v⟩) hid
    have hlen : H.length = H.length := rfl
    (conv => whnf)
    (apply Exists.intro; apply And.intro; (focus ((conv => whnf); first | exact ⟨rfl, rfl, trivial⟩ | (refine ⟨by omega, ?_⟩; (conv => whnf); exact ⟨rfl, rfl, trivial⟩))); (conv => whnf))
    (apply Exists.intro; apply And.intro; (focus ((conv => whnf); first | exact ⟨rfl, rfl, trivial⟩ | (refine ⟨by omega, ?_⟩; (conv => whnf); exact ⟨rfl, rfl, trivial⟩))); (conv => whnf))
    (apply Exists.intro; apply And.intro; (focus ((conv => whnf); apply And.intro; (focus ((conv => whnf); first | exact ⟨rfl, rfl, trivial⟩ | (refine ⟨by omega, ?_⟩; (conv => whnf); exact ⟨rfl, rfl, trivial⟩))); ((conv => whnf); first | exact ⟨rfl, rfl, trivial⟩ | (refine ⟨by omega, ?_⟩; (conv => whnf); exact ⟨rfl, rfl, trivial⟩)))); (conv => whnf))
    (apply Exists.intro; apply And.intro; (focus ((conv => whnf); apply And.intro; (focus ((conv => whnf); first | exact ⟨rfl, rfl, trivial⟩ | (refine ⟨by omega, ?_⟩; (conv => whnf); exact ⟨rfl, rfl, trivial⟩))); ((conv => whnf); first | exact ⟨rfl, rfl, trivial⟩ | (refine ⟨by omega, ?_⟩; (conv => whnf); exact ⟨rfl, rfl, trivial⟩)))); (conv => whnf))
    (apply Exists.intro; apply And.intro; (focus ((conv => whnf); first | exact ⟨rfl, rfl, trivial⟩ | (refine ⟨by omega, ?_⟩; (conv => whnf); exact ⟨rfl, rfl, trivial⟩))); (conv => whnf))
    (apply Exists.intro; apply And.intro; (focus ((conv => whnf); first | exact ⟨rfl, rfl, trivial⟩ | (refine ⟨by omega, ?_⟩; (conv => whnf); exact ⟨rfl, rfl, trivial⟩))); (conv => whnf))
    apply Exists.intro
    apply And.intro
    · (conv => whnf)
      refine ⟨⟨by omega, by omega⟩, rfl, rfl, trivial⟩
    (conv => whnf)
    apply Exists.intro
    apply And.intro
    · (conv => whnf)
      ((conv in (_[_]?) => tactic => exact g0); (conv => whnf))
      have e : ((l.length : Int) - 1 - i).toNat = cur.length - 1 - i := by omega
      have hL : dropN (0 + ((l.length : Int) - 1 - i).toNat * 1) (cur.map PV.str) = PV.str cur[cur.length - 1 - i] :: (cur.drop (cur.length - 1 - i + 1)).map PV.str := by rw [e]; exact dropN_cells PV.str cur (List.getElem?_eq_getElem hj)
      generalize hd : dropN _ _ = L
      rw [show L = _ from hd.symm.trans hL]
      (conv => whnf)
      exact ⟨rfl, rfl, trivial⟩
    (conv => whnf)
    (apply Exists.intro; apply And.intro; (focus ((conv => whnf); first | exact ⟨rfl, rfl, trivial⟩ | (refine ⟨by omega, ?_⟩; (conv => whnf); exact ⟨rfl, rfl, trivial⟩))); (conv => whnf))
    (apply Exists.intro; apply And.intro; (focus ((conv => whnf); first | exact ⟨rfl, rfl, trivial⟩ | (refine ⟨by omega, ?_⟩; (conv => whnf); exact ⟨rfl, rfl, trivial⟩))); (conv => whnf))
    apply Exists.intro
    apply And.intro
    · (conv => whnf)
      refine ⟨⟨by show (0 : Int) ≤ (i : Int); omega, by show (i : Int) < l.length; omega⟩, rfl, rfl, trivial⟩
    (conv => whnf)
    apply Exists.intro
    apply And.intro
    · (conv => whnf)
      ((conv in (_[_]?) => tactic => exact g0); (conv => whnf))
      ((conv in (dropN _ _) => tactic => exact (dropN_cells PV.str cur (List.getElem?_eq_getElem hi))); (conv => whnf))
      exact ⟨rfl, rfl, trivial⟩
    (conv => whnf)
    apply Exists.intro
    apply And.intro
    · (conv => whnf)
      refine ⟨⟨by show (0 : Int) ≤ (i : Int); omega, by show (i : Int) < l.length; omega⟩, rfl, rfl, trivial⟩
    (conv => whnf)
    apply Exists.intro
    apply And.intro
    · (conv => whnf)
      ((conv in (_[_]?) => tactic => exact g0); (conv => whnf))
      ((conv in (Nat.ble _ _) => tactic => exact (show Nat.ble (0 + (i : Int).toNat * 1 + 1) (cur.map PV.str).length = true by rw [Nat.ble_eq]; simp; omega)); (conv => whnf))
      refine ⟨rfl, ?_, trivial⟩
      show (H.set id ⟨T, cur.map .str, v⟩).set id ⟨T, setCells (0 + (i : Int).toNat * 1) [PV.str cur[cur.length - 1 - i]] (cur.map .str), v + 1⟩ = H.set id ⟨T, (cur.set i cur[cur.length - 1 - i]).map .str, v + 1⟩
      rw [List.set_set, ← setCells_map _ _ _ _ hi]
      simp
    (conv => whnf)
    apply Exists.intro
    apply And.intro
    · (conv => whnf)
      refine ⟨⟨by omega, by omega⟩, rfl, rfl, trivial⟩
    (conv => whnf)
    apply Exists.intro
    apply And.intro
    · (conv => whnf)
      ((conv in (_[_]?) => tactic => exact (get_set (o' := ⟨T, (cur.set i cur[cur.length - 1 - i]).map .str, v + 1⟩) hid)); (conv => whnf))
      ((conv in (Nat.ble _ _) => tactic => exact (show Nat.ble (0 + ((l.length : Int) - 1 - i).toNat * 1 + 1) ((cur.set i cur[cur.length - 1 - i]).map PV.str).length = true by rw [Nat.ble_eq]; simp; omega)); (conv => whnf))
      refine ⟨rfl, ?_, trivial⟩
      show (H.set id ⟨T, (cur.set i cur[cur.length - 1 - i]).map .str, v + 1⟩).set id ⟨T, setCells (0 + ((l.length : Int) - 1 - i).toNat * 1) [PV.str cur[i]] ((cur.set i cur[cur.length - 1 - i]).map .str), v + 1 + 1⟩ = H.set id _
      have e : 0 + ((l.length : Int) - 1 - i).toNat * 1 = cur.length - 1 - i := by omega
      rw [List.set_set, e, setCells_map PV.str (cur.set i cur[cur.length - 1 - i]) (cur.length - 1 - i) cur[i] (by simpa using hj)]
    (conv => whnf)
    refine ⟨⟨i + 1, (cur.set i cur[cur.length - 1 - i]).set (cur.length - 1 - i) cur[i], v + 1 + 1⟩, ⟨?_, ?_, ?_⟩, ⟨rfl, ?_, ?_, trivial⟩, rfl, ?_⟩
    · show i + 1 ≤ l.length; omega
    · show List.length _ = _; simp; exact h2
    · intro k hk
      show ((cur.set i _).set _ _)[k]? = if k < i + 1 ∨ l.length - (i + 1) ≤ k then _ else _
      have h3k := h3 k hk
      have h3k : cur[k]? = if k < i ∨ l.length - i ≤ k then l[l.length - 1 - k]? else l[k]? := h3k
      have h3i : cur[i]? = if i < i ∨ l.length - i ≤ i then l[l.length - 1 - i]? else l[i]? := h3 i (by omega)
      have h3j : cur[cur.length - 1 - i]? = if cur.length - 1 - i < i ∨ l.length - i ≤ cur.length - 1 - i then l[l.length - 1 - (cur.length - 1 - i)]? else l[cur.length - 1 - i]? := h3 _ (by omega)
      rw [if_neg (by omega), List.getElem?_eq_getElem hi] at h3i
      rw [if_neg (by omega), List.getElem?_eq_getElem hj] at h3j
      simp only [List.getElem?_set]
      by_cases e1 : cur.length - 1 - i = k
      · subst e1
        rw [if_pos rfl, if_pos (by simpa using hj), if_pos (by omega), h3i]
        congr 1; omega
      · rw [if_neg e1]
        by_cases e2 : i = k
        · subst e2
          rw [if_pos rfl, if_pos hi, if_pos (by omega), h3j]
          congr 1; omega
        · rw [if_neg e2, h3k]
          by_cases e3 : k < i ∨ l.length - i ≤ k
          · rw [if_pos e3, if_pos (by omega)]
          · rw [if_neg e3, if_neg (by omega)]
    · show PV.int _ (IntKind.i64.wrap ((i : Int) + 1)) = PV.int _ _
      rw [wrap64 (by omega) (by omega)]; simp
    · show PV.int _ (IntKind.i64.wrap ((l.length : Int) - 1 - i - 1)) = PV.int _ ((l.length : Int) - 1 - ((i + 1 : Nat) : Int))
      rw [wrap64 (by omega) (by omega)]; congr 1; omega
    · show l.length - (i + 1) < l.length - i
      omega
  · (conv => whnf)
    have h2 : cur.length = l.length := h2
    have h4 : ¬ (i : Int) < (l.length : Int) - 1 - i := h4
    have h1 : i ≤ l.length := h1
    refine ⟨rfl, v, ?_⟩
    have hc : cur = l.reverse := by
      apply List.ext_getElem?
      intro k
      rcases Nat.lt_or_ge k l.length with hk | hk
      · have h3k : cur[k]? = if k < i ∨ l.length - i ≤ k then l[l.length - 1 - k]? else l[k]? := h3 k hk
        rw [h3k, List.getElem?_reverse hk]
        by_cases e3 : k < i ∨ l.length - i ≤ k
        · rw [if_pos e3]
        · rw [if_neg e3]; congr 1; omega
      · rw [List.getElem?_eq_none (by omega), List.getElem?_eq_none (by simpa using hk)]
    show H.set id ⟨T, cur.map PV.str, v⟩ = _
    rw [hc]
end Go.Proofs.Tryz

set_option maxRecDepth 100000
set_option linter.unusedVariables false
namespace Go.Proofs.Tryz
open Go Ps
def tt194 : TT := [(4, ⟨.bool, 1, 1, [.bool false]⟩), (262, ⟨.arr 256 4, 256, 256, List.replicate 256 (.bool false)⟩)]
theorem tt194_ok : ttOk prog tt194 = true := by kernel_rfl
def imm194 : List Nat := []
def tt177 : TT := [(3, ⟨.int .i64, 1, 8, [.int .i64 0]⟩), (4, ⟨.bool, 1, 1, [.bool false]⟩), (5, ⟨.int .u8, 1, 1, [.int .u8 0]⟩), (9, ⟨.str, 1, 16, [.str []]⟩), (262, ⟨.arr 256 4, 256, 256, List.replicate 256 (.bool false)⟩)]
theorem tt177_ok : ttOk prog tt177 = true := by kernel_rfl
def imm177 : List Nat := []
def tt178 : TT := [(3, ⟨.int .i64, 1, 8, [.int .i64 0]⟩), (4, ⟨.bool, 1, 1, [.bool false]⟩), (5, ⟨.int .u8, 1, 1, [.int .u8 0]⟩), (9, ⟨.str, 1, 16, [.str []]⟩), (266, ⟨.ptr, 1, 8, [.ptr none]⟩)]
theorem tt178_ok : ttOk prog tt178 = true := by kernel_rfl
def imm178 : List Nat := []
def tt179 : TT := [(3, ⟨.int .i64, 1, 8, [.int .i64 0]⟩), (4, ⟨.bool, 1, 1, [.bool false]⟩), (5, ⟨.int .u8, 1, 1, [.int .u8 0]⟩), (9, ⟨.str, 1, 16, [.str []]⟩), (266, ⟨.ptr, 1, 8, [.ptr none]⟩)]
theorem tt179_ok : ttOk prog tt179 = true := by kernel_rfl
def imm179 : List Nat := []
def tt157 : TT := [(3, ⟨.int .i64, 1, 8, [.int .i64 0]⟩), (4, ⟨.bool, 1, 1, [.bool false]⟩), (5, ⟨.int .u8, 1, 1, [.int .u8 0]⟩), (9, ⟨.str, 1, 16, [.str []]⟩), (262, ⟨.arr 256 4, 256, 256, List.replicate 256 (.bool false)⟩), (266, ⟨.ptr, 1, 8, [.ptr none]⟩)]
theorem tt157_ok : ttOk prog tt157 = true := by kernel_rfl
def imm157 : List Nat := []
def tt124 : TT := [(3, ⟨.int .i64, 1, 8, [.int .i64 0]⟩), (9, ⟨.str, 1, 16, [.str []]⟩)]
theorem tt124_ok : ttOk prog tt124 = true := by kernel_rfl
def imm124 : List Nat := []

/-- A table of 256 truths. -/
def tabB (p : Nat → Bool) : List PV := (List.range 256).map fun k => .bool (p k)
theorem tabB_get (p : Nat → Bool) (c : UInt8) : dropN (0 + (c.toNat : Int).toNat * 1) (tabB p) = .bool (p c.toNat) :: (((List.range 256).drop (c.toNat + 1)).map fun k => .bool (p k)) := by
  have hc : c.toNat < 256 := c.toNat_lt
  have h : (List.range 256)[c.toNat]? = some c.toNat := by simp [hc]
  exact dropN_cells (fun k => PV.bool (p k)) _ h
theorem c194 (p : Nat → Bool) (id T v : Nat) (c : UInt8) (H : PH) (hid : H[id]? = some ⟨T, tabB p, v⟩) : CallOk prog 194 [.ptr (some (id, 0)), byteC c] H fun r H' => r = .bool (p c.toNat) ∧ H' = H := by
  have hc : c.toNat < 256 := c.toNat_lt
  (refine callOk_of_pFun2 (tt := tt194) (imm := imm194) follows tt194_ok depth6 func194 (by kernel_rfl) ?_; (conv => whnf))
  refine ⟨⟨by omega, by omega⟩, ?_⟩
  (conv => whnf)
  ((conv in (_[_]?) => tactic => exact hid); (conv => whnf))
  ((conv in (dropN _ _) => tactic => exact (tabB_get p c)); (conv => whnf))
  exact ⟨rfl, rfl⟩
theorem c178 (p : Nat → Bool) (id T v : Nat) (s : List UInt8) (H : PH) (hid : H[id]? = some ⟨T, tabB p, v⟩) (hs : s.length ≤ 1099511627776) :
    CallOk prog 178 [.str s, .ptr (some (id, 0))] H fun r H' => r = .str (s.dropWhile fun c => p c.toNat) ∧ H' = H := by
  (refine callOk_of_pFun2 (tt := tt178) (imm := imm178) follows tt178_ok depth6 func178 (by kernel_rfl) ?_; (conv => whnf))
  refine loopK_of (List UInt8) (fun x => [(0, .str x), (1, .ptr (some (id, 0)))]) (fun _ => H) (fun x => x.dropWhile (fun c => p c.toNat) = s.dropWhile (fun c => p c.toNat)) (fun x => x.length) ⟨s, rfl, ⟨rfl, rfl, trivial⟩, rfl⟩ ?_
  intro x hx
  (conv => whnf)
  refine ⟨fun h => ?_, fun h => ?_⟩
  · (conv => whnf)
    cases x with
    | nil => simp at h
    | cons c x =>
      refine ⟨⟨by omega, by simp⟩, c, rfl, ?_⟩
      (conv => whnf)
      refine callK_of (c194 p id T v c H hid) ?_
      rintro _ _ ⟨rfl, rfl⟩
      cases hb : p c.toNat
      · (conv => whnf)
        refine ⟨?_, rfl⟩
        rw [← hx]; simp [hb, tupOf]
      · (conv => whnf)
        refine ⟨⟨by omega, by simp <;> omega, by simp⟩, ?_⟩
        (conv => whnf)
        refine ⟨x, ?_, ⟨?_, rfl, trivial⟩, rfl, by simp⟩
        · rw [← hx]; simp [hb]
        · show PV.str _ = PV.str _
          simp
  · (conv => whnf)
    have : x = [] := by
      cases x with
      | nil => rfl
      | cons c x => exact absurd (by simp <;> omega) h
    subst this
    refine ⟨?_, rfl⟩
    rw [← hx]; rfl
def trimR (p : UInt8 → Bool) (s : List UInt8) : List UInt8 := (s.reverse.dropWhile p).reverse
theorem trimR_concat (p : UInt8 → Bool) (x : List UInt8) (c : UInt8) : trimR p (x ++ [c]) = if p c then trimR p x else x ++ [c] := by
  unfold trimR
  simp only [List.reverse_append, List.reverse_cons, List.reverse_nil, List.nil_append, List.singleton_append, List.dropWhile_cons]
  split <;> simp
theorem c179 (p : Nat → Bool) (id T v : Nat) (s : List UInt8) (H : PH) (hid : H[id]? = some ⟨T, tabB p, v⟩) (hs : s.length ≤ 1099511627776) :
    CallOk prog 179 [.str s, .ptr (some (id, 0))] H fun r H' => r = .str (trimR (fun c => p c.toNat) s) ∧ H' = H := by
  (refine callOk_of_pFun2 (tt := tt179) (imm := imm179) follows tt179_ok depth6 func179 (by kernel_rfl) ?_; (conv => whnf))
  refine loopK_of (List UInt8) (fun x => [(0, .str x), (1, .ptr (some (id, 0)))]) (fun _ => H) (fun x => x.length ≤ s.length ∧ trimR (fun c => p c.toNat) x = trimR (fun c => p c.toNat) s) (fun x => x.length) ⟨s, ⟨Nat.le_refl _, rfl⟩, ⟨rfl, rfl, trivial⟩, rfl⟩ ?_
  rintro x ⟨hl, hx⟩
  (conv => whnf)
  rcases List.eq_nil_or_concat x with rfl | ⟨x, c, rfl⟩
  · refine ⟨fun h => absurd h (by simp), fun h => ?_⟩
    (conv => whnf)
    refine ⟨?_, rfl⟩
    rw [← hx]; rfl
  · refine ⟨fun h => ?_, fun h => absurd (by simp <;> omega) h⟩
    simp only [List.concat_eq_append] at *
    have hl' : x.length + 1 ≤ s.length := by simpa using hl
    (conv => whnf)
    have e : ((IntKind.i64.wrap (((x ++ [c]).length : Int) - 1))) = (x.length : Int) := by
      rw [wrap64 (by simp <;> omega) (by simp <;> omega)]; simp
    refine ⟨by show 0 ≤ IntKind.i64.wrap _ ∧ IntKind.i64.wrap _ < _; rw [e]; simp; omega, c, ?_, ?_⟩
    · show (x ++ [c])[(IntKind.i64.wrap (((x ++ [c]).length : Int) - 1)).toNat]? = some c
      rw [e]; simp
    (conv => whnf)
    refine callK_of (c194 p id T v c H hid) ?_
    rintro _ _ ⟨rfl, rfl⟩
    rw [trimR_concat] at hx
    cases hb : p c.toNat
    · (conv => whnf)
      refine ⟨?_, rfl⟩
      rw [← hx]; simp [hb, tupOf]
    · (conv => whnf)
      refine ⟨by show 0 ≤ 0 ∧ 0 ≤ IntKind.i64.wrap _ ∧ IntKind.i64.wrap _ ≤ _; rw [e]; simp; omega, ?_⟩
      (conv => whnf)
      refine ⟨x, ⟨by omega, ?_⟩, ⟨?_, rfl, trivial⟩, rfl, by simp⟩
      · rw [← hx]; simp [hb]
      · show PV.str (((x ++ [c]).take (IntKind.i64.wrap (((x ++ [c]).length : Int) - 1)).toNat).drop (Int.toNat 0)) = PV.str _
        rw [e]; simp
end Go.Proofs.Tryz

set_option maxRecDepth 100000
set_option linter.unusedVariables false
namespace Go.Proofs.Tryz
open Go Ps
theorem tabB_len (p : Nat → Bool) : (tabB p).length = 256 := by simp [tabB]
theorem tabB_set (p : Nat → Bool) (c : UInt8) : setCells (0 + (c.toNat : Int).toNat * 1) [.bool true] (tabB p) = tabB fun k => p k || (c.toNat == k) := by
  have hc : c.toNat < 256 := c.toNat_lt
  apply List.ext_getElem?
  intro j
  rw [setCells_get _ _ _ (by simp [tabB]; omega)]
  simp only [tabB, List.getElem?_map, List.length_cons, List.length_nil]
  by_cases hj : j < 256
  · rw [List.getElem?_range hj]
    by_cases e : j = c.toNat
    · subst e; simp
    · rw [if_neg (by omega)]
      have : (c.toNat == j) = false := by simpa using fun h => e h.symm
      simp [this]
  · have hn : (List.range 256)[j]? = none := List.getElem?_eq_none (by simpa using hj)
    rw [if_neg (by omega), hn]; rfl
theorem tabB_self (p : Nat → Bool) : setCells 0 (cellsOf (.agg (((tabB p).take 256).map dem))) (tabB p) = tabB p := by
  have h : ((tabB p).take 256).map dem = tabB p := by
    rw [List.take_of_length_le (by simp [tabB])]
    simp [tabB, dem]
  rw [h, setCells_eq _ _ _ (by simp [cellsOf])]
  simp [cellsOf]
theorem tabB_dem (p : Nat → Bool) : ((tabB p).take 256).map dem = tabB p := by
  rw [List.take_of_length_le (by simp [tabB])]
  simp [tabB, dem]
theorem tabB_one (p : Nat → Bool) : (cellsOf (.agg (((tabB p).take 256).map dem))).all oneP = true := by
  rw [tabB_dem]; simp [cellsOf, tabB, oneP]
theorem oldPs_tab (p : Nat → Bool) : oldPs (tabB p) = true := by
  unfold tabB
  generalize List.range 256 = l
  induction l with
  | nil => rfl
  | cons a l ih => simp [oldPs, oldP, ih]
def inB (s : List UInt8) (k : Nat) : Bool := s.any fun c => c.toNat == k
theorem c177 (s : List UInt8) (h0 : ∀ c ∈ s, c.toNat < 128) (hs : s.length ≤ 1099511627776) : Pure prog 177 [.str s] (.tup [.agg (tabB (inB s)), .bool true]) := by
  refine Pure.of_gc (by simp [oldR, oldPs, oldP, oldPs_tab]) fun H => ?_
  (refine callOk_of_pFun2 (tt := tt177) (imm := imm177) follows tt177_ok depth6 func177 (by kernel_rfl) ?_; (conv => whnf))
  refine loopK_of Nat (fun i => [(0, .str s), (2, .ptr (some (H.length, 0))), (4, .int .i64 i)]) (fun i => H ++ [⟨262, tabB (inB (s.take i)), i⟩]) (fun i => i ≤ s.length) (fun i => s.length - i) ⟨0, Nat.zero_le _, ⟨rfl, rfl, rfl, trivial⟩, ?_⟩ ?_
  · show H ++ [PObj.mk _ _ _] = H ++ [PObj.mk _ _ _]
    congr 3
  rintro i hi
  (conv => whnf)
  refine ⟨fun h => ?_, fun h => ?_⟩
  · (conv => whnf)
    have h : (i : Int) < s.length := h
    have hi' : i < s.length := by omega
    refine ⟨⟨by omega, h⟩, s[i], List.getElem?_eq_getElem hi', ?_⟩
    (conv => whnf)
    have hc := h0 s[i] (List.getElem_mem hi')
    refine ⟨fun h2 => absurd h2 (by omega), fun _ => ?_⟩
    (conv => whnf)
    refine ⟨⟨by omega, by omega⟩, ?_⟩
    (conv => whnf)
    ((conv in (_[_]?) => tactic => exact (get_last H ⟨262, tabB (inB (s.take i)), i⟩)); (conv => whnf))
    ((conv in (Nat.ble _ _) => tactic => exact (show Nat.ble (0 + (s[i].toNat : Int).toNat * 1 + 1) (tabB (inB (s.take i))).length = true by rw [Nat.ble_eq, tabB_len]; omega)); (conv => whnf))
    refine ⟨i + 1, by omega, ⟨rfl, rfl, ?_, trivial⟩, ?_, by omega⟩
    · show PV.int _ (IntKind.i64.wrap ((i : Int) + 1)) = PV.int _ _
      rw [wrap64 (by omega) (by omega)]; simp
    · show (H ++ [_]).set _ _ = _
      rw [set_last]
      show H ++ [PObj.mk _ (setCells (0 + (s[i].toNat : Int).toNat * 1) [.bool true] (tabB (inB (s.take i)))) _] = H ++ [PObj.mk _ _ _]
      rw [tabB_set]
      have : inB (s.take (i + 1)) = fun k => inB (s.take i) k || (s[i].toNat == k) := by
        funext k
        unfold inB
        rw [List.take_succ_eq_append_getElem hi', List.any_append]
        simp only [List.any_cons, List.any_nil, Bool.or_false]
      rw [this]
  · (conv => whnf)
    have h : ¬ (i : Int) < s.length := h
    have e : s.take i = s := List.take_of_length_le (by omega)
    rw [e, get_last]
    (conv => whnf)
    rw [get_last]
    (conv => whnf)
    have h2 : ((H ++ [PObj.mk 262 (tabB (inB s)) i]).set H.length ⟨262, setCells 0 (cellsOf (.agg (((tabB (inB s)).take 256).map dem))) (tabB (inB s)), i + 1⟩)[H.length]? = some ⟨262, tabB (inB s), i + 1⟩ := by
      rw [set_last, tabB_self, get_last]
    generalize hh : (setH _ _ _ _)[List.length H]? = X
    rw [show X = _ from hh.symm.trans h2]
    (conv => whnf)
    refine ⟨?_, [⟨262, tabB (inB s), i + 1⟩], ?_⟩
    · show PV.tup [.agg (((tabB (inB s)).take 256).map dem), .bool true] = _
      rw [tabB_dem]
    · show (H ++ [PObj.mk 262 (tabB (inB s)) i]).set H.length ⟨262, setCells 0 (cellsOf (.agg (((tabB (inB s)).take 256).map dem))) (tabB (inB s)), i + 1⟩ = _
      rw [set_last, tabB_self]
/-- What is left of a text. -/
def trimB (s set : List UInt8) : List UInt8 := (trimR (fun c => inB set c.toNat) s).dropWhile fun c => inB set c.toNat
theorem c157 (s set : List UInt8) (h0 : ∀ c ∈ set, c.toNat < 128) (h1 : 2 ≤ set.length) (h2 : set.length ≤ 1099511627776) (hs : s.length ≤ 1099511627776) :
    Pure prog 157 [.str s, .str set] (.str (trimB s set)) := by
  refine Pure.of_gc rfl fun H => ?_
  (refine callOk_of_pFun2 (tt := tt157) (imm := imm157) follows tt157_ok depth6 func157 (by kernel_rfl) ?_; (conv => whnf))
  refine ⟨fun h => ?_, fun h => ?_⟩
  · have h : s = [] := h
    subst h
    (conv => whnf)
    exact ⟨rfl, [], by simp⟩
  (conv => whnf)
  refine ⟨fun h => ?_, fun h => ?_⟩
  · have h : set = [] := h
    subst h
    simp at h1
  (conv => whnf)
  refine ⟨fun h => absurd h (by omega), fun h => ?_⟩
  (conv => whnf)
  refine callK_pure (c177 set h0 h2) ?_
  (conv => whnf)
  rw [get_last]
  (conv => whnf)
  have hz : setCells 0 (tabB (inB set)) (List.replicate 256 (PV.bool false)) = tabB (inB set) := by
    rw [setCells_eq _ _ _ (by simp [tabB])]
    simp [tabB]
  have hone : (tabB (inB set)).all oneP = true := by simp [tabB, oneP]
  have hH : (H ++ [PObj.mk 262 (List.replicate 256 (PV.bool false)) 0]).set H.length ⟨262, setCells 0 (tabB (inB set)) (List.replicate 256 (PV.bool false)), 0 + 1⟩ = H ++ [⟨262, tabB (inB set), 0 + 1⟩] := by
    rw [set_last, hz]
  refine callK_of (Q := fun r H' => r = .str (trimR (fun c => inB set c.toNat) s) ∧ H' = H ++ [⟨262, tabB (inB set), 0 + 1⟩]) ?_ ?_
  · show CallOk prog 179 _ ((H ++ [PObj.mk 262 (List.replicate 256 (PV.bool false)) 0]).set H.length ⟨262, setCells 0 (tabB (inB set)) (List.replicate 256 (PV.bool false)), 0 + 1⟩) _
    rw [hH]
    exact c179 (inB set) H.length 262 (0 + 1) s _ (get_last H _) hs
  rintro _ _ ⟨rfl, rfl⟩
  (conv => whnf)
  have hl : (trimR (fun c => inB set c.toNat) s).length ≤ s.length := by
    unfold trimR
    rw [List.length_reverse]
    exact Nat.le_trans (List.dropWhile_sublist _).length_le (by simp)
  refine callK_of (c178 (inB set) H.length 262 (0 + 1) (trimR (fun c => inB set c.toNat) s) _ (get_last H _) (by omega)) ?_
  rintro _ _ ⟨rfl, rfl⟩
  (conv => whnf)
  exact ⟨rfl, _, rfl⟩
theorem takeWhile_mem {p : UInt8 → Bool} {c : UInt8} : ∀ {l : List UInt8}, c ∈ l.takeWhile p → p c = true
  | [], h => by simp at h
  | x :: l, h => by
    rw [List.takeWhile_cons] at h
    split at h
    · rcases List.mem_cons.1 h with rfl | h
      · assumption
      · exact takeWhile_mem h
    · simp at h
theorem dropWhile_nil' (p : UInt8 → Bool) : ∀ l : List UInt8, l.dropWhile p = [] ↔ ∀ x ∈ l, p x = true
  | [] => by simp
  | x :: l => by
    have := dropWhile_nil' p l
    rw [List.dropWhile_cons]
    cases h : p x
    · simp [h]
    · simp [h, this]
theorem trimB_nil (s set : List UInt8) : trimB s set = [] ↔ s.all (fun c => inB set c.toNat) = true := by
  unfold trimB trimR
  rw [dropWhile_nil']
  constructor
  · intro h
    rw [List.all_eq_true]
    intro c hc
    by_cases hd : c ∈ (s.reverse.dropWhile fun c => inB set c.toNat).reverse
    · exact h c hd
    · have : c ∈ s.reverse := by simpa using hc
      rw [← List.takeWhile_append_dropWhile (p := fun c => inB set c.toNat) (l := s.reverse)] at this
      rcases List.mem_append.1 this with h2 | h2
      · exact takeWhile_mem h2
      · exact absurd (by simpa using h2) hd
  · intro h c hc
    rw [List.all_eq_true] at h
    have hc2 : c ∈ s.reverse := (List.dropWhile_sublist _).subset (by simpa using hc)
    exact h c (by simpa using hc2)
end Go.Proofs.Tryz

set_option maxRecDepth 100000
set_option linter.unusedVariables false
namespace Go.Proofs.Tryz
open Go Ps
def tt192 : TT := [(4, ⟨.bool, 1, 1, [.bool false]⟩), (9, ⟨.str, 1, 16, [.str []]⟩)]
theorem tt192_ok : ttOk prog tt192 = true := by kernel_rfl
def imm192 : List Nat := []
def tt174 : TT := [(3, ⟨.int .i64, 1, 8, [.int .i64 0]⟩), (9, ⟨.str, 1, 16, [.str []]⟩), (257, ⟨.slice 9, 1, 24, [.slice 0 [] (some 9)]⟩), (135, ⟨.fn, 1, 8, [.nilF]⟩)]
theorem tt174_ok : ttOk prog tt174 = true := by kernel_rfl
def imm174 : List Nat := []
def tt156 : TT := [(9, ⟨.str, 1, 16, [.str []]⟩)]
theorem tt156_ok : ttOk prog tt156 = true := by kernel_rfl
def imm156 : List Nat := []
def tt123 : TT := [(3, ⟨.int .i64, 1, 8, [.int .i64 0]⟩), (9, ⟨.str, 1, 16, [.str []]⟩)]
theorem tt123_ok : ttOk prog tt123 = true := by kernel_rfl
def imm123 : List Nat := []
def tt122 : TT := [(4, ⟨.bool, 1, 1, [.bool false]⟩), (9, ⟨.str, 1, 16, [.str []]⟩)]
theorem tt122_ok : ttOk prog tt122 = true := by kernel_rfl
def imm122 : List Nat := []
def tt61 : TT := [(9, ⟨.str, 1, 16, [.str []]⟩), (24, ⟨.strct [(9, 0), (9, 1)], 2, 32, [.str [], .str []]⟩)]
theorem tt61_ok : ttOk prog tt61 = true := by kernel_rfl
def imm61 : List Nat := [1]

def isWordB (s set : List UInt8) : Bool := decide (s ≠ []) && (decide (s.length ≤ 8) && s.all (fun c => inB set c.toNat))
theorem c124 (s set : List UInt8) (h0 : ∀ c ∈ set, c.toNat < 128) (h1 : 2 ≤ set.length) (h2 : set.length ≤ 1099511627776) : Pure prog 124 [.str s, .str set] (.bool (isWordB s set)) := by
  intro H
  (refine callOk_of_pFun2 (tt := tt124) (imm := imm124) follows tt124_ok depth6 func124 (by kernel_rfl) ?_; (conv => whnf))
  refine ⟨fun h => ?_, fun h => ?_⟩
  · have h : s = [] := h
    subst h
    (conv => whnf)
    exact ⟨rfl, rfl⟩
  (conv => whnf)
  have h : ¬ s = [] := h
  refine ⟨fun h3 => ?_, fun h3 => ?_⟩
  · (conv => whnf)
    refine callK_pure (c157 s set h0 h1 h2 (by omega)) ?_
    (conv => whnf)
    refine ⟨fun h4 => ?_, fun h4 => ?_⟩
    · (conv => whnf)
      have := (trimB_nil s set).1 h4
      refine ⟨?_, rfl⟩
      show PV.bool true = _
      unfold isWordB
      rw [this]
      have : s.length ≤ 8 := by omega
      simp [h, this]
    · (conv => whnf)
      refine ⟨?_, rfl⟩
      show PV.bool false = _
      have : ¬ s.all (fun c => inB set c.toNat) = true := fun e => h4 ((trimB_nil s set).2 e)
      unfold isWordB
      rw [Bool.not_eq_true] at this
      rw [this]
      simp
  · (conv => whnf)
    refine ⟨?_, rfl⟩
    show PV.bool false = _
    have : ¬ s.length ≤ 8 := by omega
    unfold isWordB
    simp [this]
def upperB : List UInt8 := [65, 66, 67, 68, 69, 70, 71, 72, 73, 74, 75, 76, 77, 78, 79, 80, 81, 82, 83, 84, 85, 86, 87, 88, 89, 90]
theorem c192 (s : List UInt8) : Pure prog 192 [.str s] (.bool (!isWordB s upperB)) := by
  intro H
  (refine callOk_of_pFun2 (tt := tt192) (imm := imm192) follows tt192_ok depth6 func192 (by kernel_rfl) ?_; (conv => whnf))
  refine callK_pure (c124 s upperB (by decide) (by decide) (by decide)) ?_
  cases isWordB s upperB
  · (conv => whnf)
    exact ⟨rfl, rfl⟩
  · (conv => whnf)
    exact ⟨rfl, rfl⟩
def badL (l : List (List UInt8)) : Bool := decide (4 < l.length) || l.any fun s => !isWordB s upperB
/-- A realm's kind and labels. -/
def labelsB (r : List UInt8) : Nat × List (List UInt8) := match r with
  | 47 :: t => if badL (splitB 47 t) then (0, []) else (2, splitB 47 t)
  | _ => if badL (splitB 46 r) then (0, []) else (1, (splitB 46 r).reverse)
def LabRes (r : List UInt8) (H : PH) (x : PV) (H' : PH) : Prop := ∃ ext, H' = H ++ ext ∧
  (((labelsB r).1 = 0 ∧ x = .tup [.slice 0 [] (some 9), .int .i64 0]) ∨
    ((labelsB r).1 ≠ 0 ∧ ∃ id v, x = .tup [.sref id 0 (labelsB r).2.length (labelsB r).2.length, .int .i64 (labelsB r).1] ∧ H'[id]? = some ⟨9, (labelsB r).2.map .str, v⟩))
theorem c174 (r : List UInt8) (H : PH) (hs : r.length ≤ 1099511627775) : CallOk prog 174 [.str r] H (LabRes r H) := by
  (refine callOk_of_pFun2 (tt := tt174) (imm := imm174) follows tt174_ok depth6 func174 (by kernel_rfl) ?_; (conv => whnf))
  refine callK_of (c189 r 46 H (by omega)) ?_
  rintro _ _ ⟨rfl, v, rfl⟩
  (conv => whnf)
  refine callK_pure (c190 r [47]) ?_
  cases hb : [47].isPrefixOf r
  · (conv => whnf)
    refine callK_of (c191 H.length _ (splitB 46 r) 9 v _ (get_last H _) rfl (by have := countB_le 46 r; have := splitB_len 46 r; omega)) ?_
    rintro _ _ ⟨rfl, v', rfl⟩
    rw [set_last]
    have hlb : labelsB r = if badL (splitB 46 r) then (0, []) else (1, (splitB 46 r).reverse) := by
      unfold labelsB
      split
      · simp at hb
      · rfl
    have hany : ((splitB 46 r).reverse).any (fun s => !isWordB s upperB) = (splitB 46 r).any (fun s => !isWordB s upperB) := by rw [List.any_reverse]
    have hn : (splitB 46 r).length = (splitB 46 r).reverse.length := by simp
    (conv => whnf)
    refine ⟨fun h4 => ?_, fun h4 => ?_⟩
    · (conv => whnf)
      have hbad : badL (splitB 46 r) = true := by unfold badL; have : 4 < (splitB 46 r).length := by omega
                                                  simp [this]
      refine ⟨_, rfl, .inl ⟨by rw [hlb, hbad]; rfl, rfl⟩⟩
    · (conv => whnf)
      refine callK_of (c193 192 H.length _ (fun s => !isWordB s upperB) (splitB 46 r).reverse 9 v' _ (get_last H _) hn (by omega) (fun x _ => c192 x)) ?_
      rintro _ _ ⟨rfl, rfl⟩
      rw [hany]
      have h4' : ¬ 4 < (splitB 46 r).length := by omega
      cases hany2 : (splitB 46 r).any (fun s => !isWordB s upperB)
      · (conv => whnf)
        have hbad : badL (splitB 46 r) = false := by unfold badL; rw [hany2]; simp [h4']
        refine ⟨_, rfl, .inr ⟨by rw [hlb, hbad]; simp, H.length, v', ?_, ?_⟩⟩
        · rw [hlb, hbad]
          show PV.tup _ = PV.tup _
          simp
        · rw [get_last, hlb, hbad]; rfl
      · (conv => whnf)
        have hbad : badL (splitB 46 r) = true := by unfold badL; rw [hany2]; simp
        refine ⟨_, rfl, .inl ⟨by rw [hlb, hbad]; rfl, rfl⟩⟩
  · obtain ⟨t, rfl⟩ : ∃ t, r = 47 :: t := by
      cases r with
      | nil => simp at hb
      | cons x t => 
        have hx : x = 47 := by simpa using (by simpa using hb : (47 : UInt8) = x).symm
        exact ⟨t, by rw [hx]⟩
    (conv => whnf)
    refine ⟨⟨by omega, by simp <;> omega, by simp⟩, ?_⟩
    have hst : t.length ≤ 1099511627776 := by simp at hs; omega
    have hc := countB_le 47 t
    have hc2 := splitB_len 47 t
    (conv => whnf)
    refine callK_of (Q := fun r H' => r = .sref (H ++ [PObj.mk 9 ((splitB 46 (47 :: t)).map .str) v]).length 0 (splitB 47 t).length (splitB 47 t).length ∧ ∃ v2, H' = (H ++ [PObj.mk 9 ((splitB 46 (47 :: t)).map .str) v]) ++ [⟨9, (splitB 47 t).map .str, v2⟩]) ?_ ?_
    · show CallOk prog 189 [.str (((47 :: t).take ((47 :: t).length : Int).toNat).drop (1 : Int).toNat), .str [47]] _ _
      have e : ((47 :: t).take ((47 :: t).length : Int).toNat).drop (1 : Int).toNat = t := by simp
      rw [e]
      exact c189 t 47 _ hst
    rintro _ _ ⟨rfl, v2, rfl⟩
    (conv => whnf)
    have hlb : labelsB (47 :: t) = if badL (splitB 47 t) then (0, []) else (2, splitB 47 t) := rfl
    refine ⟨fun h4 => ?_, fun h4 => ?_⟩
    · (conv => whnf)
      have hbad : badL (splitB 47 t) = true := by
        unfold badL
        have : 4 < (splitB 47 t).length := by omega
        simp [this]
      refine ⟨_, List.append_assoc _ _ _, .inl ⟨by rw [hlb, hbad]; rfl, rfl⟩⟩
    · (conv => whnf)
      refine callK_of (c193 192 _ _ (fun s => !isWordB s upperB) (splitB 47 t) 9 v2 _ (get_last _ _) rfl (by omega) (fun x _ => c192 x)) ?_
      rintro _ _ ⟨rfl, rfl⟩
      have h4' : ¬ 4 < (splitB 47 t).length := by omega
      cases hany2 : (splitB 47 t).any (fun s => !isWordB s upperB)
      · (conv => whnf)
        have hbad : badL (splitB 47 t) = false := by unfold badL; rw [hany2]; simp [h4']
        refine ⟨_, List.append_assoc _ _ _, .inr ⟨by rw [hlb, hbad]; simp, (H ++ [PObj.mk 9 ((splitB 46 (47 :: t)).map .str) v]).length, v2, ?_, ?_⟩⟩
        · rw [hlb, hbad]; rfl
        · rw [get_last, hlb, hbad]; rfl
      · (conv => whnf)
        have hbad : badL (splitB 47 t) = true := by unfold badL; rw [hany2]; simp
        refine ⟨_, List.append_assoc _ _ _, .inl ⟨by rw [hlb, hbad]; rfl, rfl⟩⟩
theorem c156 (r : List UInt8) (hs : r.length ≤ 1099511627775) : Pure prog 156 [.str r] (.int .i64 (labelsB r).1) := by
  refine Pure.of_gc rfl fun H => ?_
  (refine callOk_of_pFun2 (tt := tt156) (imm := imm156) follows tt156_ok depth6 func156 (by kernel_rfl) ?_; (conv => whnf))
  refine callK_of (c174 r H hs) ?_
  rintro _ _ ⟨ext, rfl, ⟨h1, rfl⟩ | ⟨h1, id, v, rfl, h2⟩⟩
  · (conv => whnf)
    exact ⟨by rw [h1]; rfl, ext, rfl⟩
  · (conv => whnf)
    exact ⟨rfl, ext, rfl⟩
theorem c123 (r : List UInt8) (hs : r.length ≤ 1099511627775) : Pure prog 123 [.str r] (.bool (decide ((labelsB r).1 ≠ 0))) := by
  intro H
  (refine callOk_of_pFun2 (tt := tt123) (imm := imm123) follows tt123_ok depth6 func123 (by kernel_rfl) ?_; (conv => whnf))
  refine callK_pure (c156 r hs) ?_
  (conv => whnf)
  refine ⟨fun h => ?_, fun h => ?_⟩
  · (conv => whnf)
    have : (labelsB r).1 = 0 := by omega
    exact ⟨by simp [this, tupOf], rfl⟩
  · (conv => whnf)
    have : (labelsB r).1 ≠ 0 := by omega
    exact ⟨by simp [this, tupOf], rfl⟩
end Go.Proofs.Tryz

set_option maxRecDepth 100000
set_option linter.unusedVariables false
namespace Go.Proofs.Tryz
open Go Ps
def krbB : List UInt8 := [107, 114, 98, 116, 103, 116, 47]
def smallB : List UInt8 := [97, 98, 99, 100, 101, 102, 103, 104, 105, 106, 107, 108, 109, 110, 111, 112, 113, 114, 115, 116, 117, 118, 119, 120, 121, 122, 48, 49, 50, 51, 52, 53, 54, 55, 56, 57]
def isRealmB (r : List UInt8) : Bool := decide ((labelsB r).1 ≠ 0)
def targetB (n : List UInt8) : List UInt8 × Bool := if krbB.isPrefixOf n && isRealmB (n.drop 7) then (n.drop 7, true) else ([], false)
def isPrincB (realm name : List UInt8) : Bool := isRealmB realm && ((targetB name).2 || isWordB name smallB)
theorem c122 (n : List UInt8) (hs : n.length ≤ 1099511627775) : Pure prog 122 [.str n] (.tup [.str (targetB n).1, .bool (targetB n).2]) := by
  intro H
  (refine callOk_of_pFun2 (tt := tt122) (imm := imm122) follows tt122_ok depth6 func122 (by kernel_rfl) ?_; (conv => whnf))
  refine callK_pure (c155 n krbB) ?_
  unfold cutP targetB
  cases hb : krbB.isPrefixOf n
  · (conv => whnf)
    exact ⟨rfl, rfl⟩
  · (conv => whnf)
    refine callK_pure (c123 (n.drop 7) (by rw [List.length_drop]; omega)) ?_
    show _
    unfold isRealmB
    cases hr : decide ((labelsB (n.drop 7)).1 ≠ 0)
    · (conv => whnf)
      exact ⟨rfl, rfl⟩
    · (conv => whnf)
      exact ⟨rfl, rfl⟩
theorem c61 (realm name : List UInt8) (h1 : realm.length ≤ 1099511627775) (h2 : name.length ≤ 1099511627775) : Pure prog 61 [.agg [.str realm, .str name]] (.bool (isPrincB realm name)) := by
  intro H
  (refine callOk_of_pFun2 (tt := tt61) (imm := imm61) follows tt61_ok depth6 func61 (by kernel_rfl) ?_; (conv => whnf))
  refine callK_pure (c122 name h2) ?_
  (conv => whnf)
  refine callK_pure (c123 realm h1) ?_
  unfold isPrincB isRealmB
  cases hr : decide ((labelsB realm).1 ≠ 0)
  · (conv => whnf)
    exact ⟨rfl, rfl⟩
  · cases ht : (targetB name).2
    · (conv => whnf)
      refine callK_pure (c124 name smallB (by decide) (by decide) (by decide)) ?_
      cases isWordB name smallB
      · (conv => whnf)
        exact ⟨rfl, rfl⟩
      · (conv => whnf)
        exact ⟨rfl, rfl⟩
    · (conv => whnf)
      exact ⟨rfl, rfl⟩
end Go.Proofs.Tryz

set_option maxRecDepth 100000
set_option linter.unusedVariables false
namespace Go.Proofs.Tryz
open Go Ps
def tt183 : TT := [(3, ⟨.int .i64, 1, 8, [.int .i64 0]⟩), (5, ⟨.int .u8, 1, 1, [.int .u8 0]⟩), (9, ⟨.str, 1, 16, [.str []]⟩), (257, ⟨.slice 9, 1, 24, [.slice 0 [] (some 9)]⟩)]
theorem tt183_ok : ttOk prog tt183 = true := by kernel_rfl
def imm183 : List Nat := []

theorem splitB_at (c : UInt8) : ∀ (x y : List UInt8), (∀ b ∈ x, b ≠ c) → splitB c (x ++ c :: y) = x :: splitB c y
  | [], y, _ => by simp [splitB]
  | b :: x, y, h => by
    have ih := splitB_at c x y fun b hb => h b (List.mem_cons_of_mem _ hb)
    simp [splitB, h b List.mem_cons_self, ih]
theorem splitB_no (c : UInt8) : ∀ (x : List UInt8), (∀ b ∈ x, b ≠ c) → splitB c x = [x]
  | [], _ => rfl
  | b :: x, h => by
    have ih := splitB_no c x fun b hb => h b (List.mem_cons_of_mem _ hb)
    simp [splitB, h b List.mem_cons_self, ih]
structure SpS where
  i : Nat
  fr : Nat
  l : List (List UInt8)
theorem c183 (s : List UInt8) (c : UInt8) (hs : s.length ≤ 1099511627776) : Pure prog 183 [.str s, byteC c] (.slice (splitB c s).length ((splitB c s).map .str) (some 9)) := by
  intro H
  (refine callOk_of_pFun2 (tt := tt183) (imm := imm183) follows tt183_ok depth6 func183 (by kernel_rfl) ?_; (conv => whnf))
  refine loopK_of SpS (fun x => [(0, .str s), (1, byteC c), (5, .slice x.l.length (x.l.map .str) (some 9)), (6, .int .i64 x.fr), (7, .int .i64 x.i)]) (fun _ => H)
    (fun x => x.fr ≤ x.i ∧ x.i ≤ s.length ∧ x.l.length ≤ x.i ∧ (∀ b ∈ (s.drop x.fr).take (x.i - x.fr), b ≠ c) ∧ x.l ++ splitB c (s.drop x.fr) = splitB c s) (fun x => s.length - x.i)
    ⟨⟨0, 0, []⟩, ⟨Nat.le_refl _, Nat.zero_le _, Nat.zero_le _, by simp, rfl⟩, ⟨rfl, rfl, rfl, rfl, rfl, trivial⟩, rfl⟩ ?_
  rintro ⟨i, fr, l⟩ ⟨h1, h2, h3, h4, h5⟩
  have h1 : fr ≤ i := h1
  have h2 : i ≤ s.length := h2
  have h3 : l.length ≤ i := h3
  have h4 : ∀ b ∈ (s.drop fr).take (i - fr), b ≠ c := h4
  have h5 : l ++ splitB c (s.drop fr) = splitB c s := h5
  (conv => whnf)
  refine ⟨fun h => ?_, fun h => ?_⟩
  · (conv => whnf)
    have h : (i : Int) < s.length := h
    have hi : i < s.length := by omega
    refine ⟨⟨by show (0:Int) ≤ (i : Int); omega, h⟩, s[i], List.getElem?_eq_getElem hi, ?_⟩
    (conv => whnf)
    refine ⟨fun e => ?_, fun e => ?_⟩
    · (conv => whnf)
      refine ⟨⟨by show (0:Int) ≤ (fr : Int); omega, by show (fr : Int) ≤ (i : Int); omega, by show (i : Int) ≤ _; omega⟩, ?_⟩
      (conv => whnf)
      refine ⟨⟨by show (l.length + 1) * 16 ≤ _; omega, rfl, rfl⟩, ?_⟩
      (conv => whnf)
      have e : s[i] = c := by
        have e : (s[i].toNat : Int) = (c.toNat : Int) := e
        exact UInt8.toNat_inj.1 (by omega)
      have hseg : s.drop fr = (s.drop fr).take (i - fr) ++ c :: s.drop (i + 1) := by
        conv => lhs; rw [← List.take_append_drop (i - fr) (s.drop fr)]
        rw [List.drop_drop, show fr + (i - fr) = i by omega, List.drop_eq_getElem_cons hi, e]
      refine ⟨⟨i + 1, i + 1, l ++ [(s.drop fr).take (i - fr)]⟩, ⟨Nat.le_refl _, hi, by simp; omega, by simp, ?_⟩, ⟨rfl, rfl, ?_, ?_, ?_, trivial⟩, rfl, ?_⟩
      · show (l ++ [(s.drop fr).take (i - fr)]) ++ splitB c (s.drop (i + 1)) = _
        rw [← h5]
        conv => rhs; rw [hseg, splitB_at c _ _ h4]
        simp
      · show PV.slice (l.length + 1) (l.map PV.str ++ [PV.str ((s.take (i : Int).toNat).drop (fr : Int).toNat)]) (some 9) = PV.slice (l ++ [(s.drop fr).take (i - fr)]).length ((l ++ [(s.drop fr).take (i - fr)]).map PV.str) (some 9)
        simp [List.drop_take]
      · show PV.int _ (IntKind.i64.wrap ((i : Int) + 1)) = PV.int _ ((i + 1 : Nat) : Int)
        rw [wrap64 (by omega) (by omega)]; simp
      · show PV.int _ (IntKind.i64.wrap ((i : Int) + 1)) = PV.int _ ((i + 1 : Nat) : Int)
        rw [wrap64 (by omega) (by omega)]; simp
      · show s.length - (i + 1) < s.length - i
        omega
    · (conv => whnf)
      have e : s[i] ≠ c := fun h => e (by rw [h])
      refine ⟨⟨i + 1, fr, l⟩, ⟨by show fr ≤ i + 1; omega, hi, by show l.length ≤ i + 1; omega, ?_, h5⟩, ⟨rfl, rfl, rfl, rfl, ?_, trivial⟩, rfl, ?_⟩
      · show ∀ b ∈ (s.drop fr).take (i + 1 - fr), b ≠ c
        intro b hb
        rw [show i + 1 - fr = (i - fr) + 1 by omega, List.take_succ_eq_append_getElem (by rw [List.length_drop]; omega)] at hb
        rcases List.mem_append.1 hb with hb | hb
        · exact h4 b hb
        · have : b = s[i] := by
            have := List.mem_singleton.1 hb
            rw [this, List.getElem_drop]; congr 1; omega
          rw [this]; exact e
      · show PV.int _ (IntKind.i64.wrap ((i : Int) + 1)) = PV.int _ ((i + 1 : Nat) : Int)
        rw [wrap64 (by omega) (by omega)]; simp
      · show s.length - (i + 1) < s.length - i
        omega
  · (conv => whnf)
    have h : ¬ (i : Int) < s.length := h
    refine ⟨⟨by show (0:Int) ≤ (fr : Int); omega, by show (fr : Int) ≤ _; omega, by omega⟩, ?_⟩
    (conv => whnf)
    refine ⟨⟨by show (l.length + 1) * 16 ≤ _; omega, rfl, rfl⟩, ?_⟩
    (conv => whnf)
    have hno : splitB c (s.drop fr) = [s.drop fr] := splitB_no c _ fun b hb => h4 b (by rw [List.take_of_length_le (by rw [List.length_drop]; omega)]; exact hb)
    refine ⟨?_, rfl⟩
    show PV.slice (l.length + 1) (l.map PV.str ++ [PV.str ((s.take (s.length : Int).toNat).drop (fr : Int).toNat)]) (some 9) = _
    rw [← h5, hno]
    simp
end Go.Proofs.Tryz

set_option maxRecDepth 100000
set_option linter.unusedVariables false
namespace Go.Proofs.Tryz
open Go Ps
def tt182 : TT := [(3, ⟨.int .i64, 1, 8, [.int .i64 0]⟩), (5, ⟨.int .u8, 1, 1, [.int .u8 0]⟩), (9, ⟨.str, 1, 16, [.str []]⟩), (257, ⟨.slice 9, 1, 24, [.slice 0 [] (some 9)]⟩)]
theorem tt182_ok : ttOk prog tt182 = true := by kernel_rfl
def imm182 : List Nat := []

def okC (b : UInt8) : Bool := decide (65 ≤ b.toNat) && decide (b.toNat ≤ 90)
def okL (s : List UInt8) : Bool := decide (1 ≤ s.length) && (decide (s.length ≤ 8) && s.all okC)
theorem elem_cells (l : List (List UInt8)) {i : Nat} {x : List UInt8} (h : l[i]? = some x) : ∀ (j : Nat) (c : PV), [PV.str x][j]? = some c → (l.map PV.str)[(i : Int).toNat * 1 + j]? = some c := by
  intro j c hj
  cases j with
  | zero => simp at hj; subst hj; simp [h]
  | succ j => simp at hj
theorem c182 (l : List (List UInt8)) (o : Option Nat) (hs : l.length ≤ 1099511627776) : Pure prog 182 [.slice l.length (l.map .str) o] (.bool (l.all okL && (decide (1 ≤ l.length) && decide (l.length ≤ 4)))) := by
  intro H
  (refine callOk_of_pFun2 (tt := tt182) (imm := imm182) follows tt182_ok depth6 func182 (by kernel_rfl) ?_; (conv => whnf))
  refine loopK_of Nat (fun i => [(0, .slice l.length (l.map .str) none), (3, .int .i64 i)]) (fun _ => H) (fun i => i ≤ l.length ∧ ∀ j, j < i → (l[j]?.map okL) = some true) (fun i => l.length - i) ⟨0, ⟨Nat.zero_le _, fun j h => by omega⟩, ⟨?_, rfl, trivial⟩, rfl⟩ ?_
  · cases o <;> rfl
  rintro i ⟨h1, h2⟩
  (conv => whnf)
  refine ⟨fun h => ?_, fun h => ?_⟩
  · (conv => whnf)
    have h : (i : Int) < l.length := h
    have hi : i < l.length := by omega
    have hg := List.getElem?_eq_getElem hi
    refine ⟨⟨by omega, h⟩, [.str l[i]], elem_cells l hg, ?_⟩
    (conv => whnf)
    have hbad : okL l[i] = false → (l.all okL && (decide (1 ≤ l.length) && decide (l.length ≤ 4))) = false := fun hb => by
      have : l.all okL = false := by
        cases ha : l.all okL with
        | false => rfl
        | true => rw [List.all_eq_true.1 ha _ (List.getElem_mem hi)] at hb; cases hb
      rw [this]; rfl
    refine ⟨fun h5 => ?_, fun h5 => ?_⟩
    · (conv => whnf)
      refine ⟨?_, rfl⟩
      rw [hbad (by unfold okL; have : ¬ 1 ≤ l[i].length := by omega
                   simp [this])]; rfl
    (conv => whnf)
    refine ⟨⟨by omega, h⟩, [.str l[i]], elem_cells l hg, ?_⟩
    (conv => whnf)
    refine ⟨fun h6 => ?_, fun h6 => ?_⟩
    · (conv => whnf)
      refine ⟨?_, rfl⟩
      rw [hbad (by unfold okL; have : ¬ l[i].length ≤ 8 := by omega
                   simp [this])]; rfl
    (conv => whnf)
    refine loopK_of Nat (fun k => [(0, .slice l.length (l.map .str) none), (3, .int .i64 i), (4, .int .i64 k)]) (fun _ => H) (fun k => k ≤ l[i].length ∧ ∀ j, j < k → (l[i][j]?.map okC) = some true) (fun k => l[i].length - k) ⟨0, ⟨Nat.zero_le _, fun j h => by omega⟩, ⟨rfl, rfl, rfl, trivial⟩, rfl⟩ ?_
    rintro k ⟨k1, k2⟩
    (conv => whnf)
    refine ⟨⟨by omega, h⟩, [.str l[i]], elem_cells l hg, ?_⟩
    (conv => whnf)
    refine ⟨fun h7 => ?_, fun h7 => ?_⟩
    · (conv => whnf)
      have h7 : (k : Int) < l[i].length := h7
      have hk : k < l[i].length := by omega
      refine ⟨⟨by omega, h⟩, [.str l[i]], elem_cells l hg, ?_⟩
      (conv => whnf)
      refine ⟨⟨by omega, h7⟩, l[i][k], List.getElem?_eq_getElem hk, ?_⟩
      (conv => whnf)
      have hbadc : okC l[i][k] = false → okL l[i] = false := fun hb => by
        unfold okL
        have : l[i].all okC = false := by
          cases ha : l[i].all okC with
          | false => rfl
          | true => rw [List.all_eq_true.1 ha _ (List.getElem_mem hk)] at hb; cases hb
        rw [this]; simp
      refine ⟨fun h8 => ?_, fun h8 => ?_⟩
      · (conv => whnf)
        refine ⟨?_, rfl⟩
        rw [hbad (hbadc (by unfold okC; have : ¬ 65 ≤ l[i][k].toNat := by omega
                            simp [this]))]; rfl
      (conv => whnf)
      refine ⟨⟨by omega, h⟩, [.str l[i]], elem_cells l hg, ?_⟩
      (conv => whnf)
      refine ⟨⟨by omega, h7⟩, l[i][k], List.getElem?_eq_getElem hk, ?_⟩
      (conv => whnf)
      refine ⟨fun h9 => ?_, fun h9 => ?_⟩
      · (conv => whnf)
        refine ⟨?_, rfl⟩
        rw [hbad (hbadc (by unfold okC; have : ¬ l[i][k].toNat ≤ 90 := by omega
                            simp [this]))]; rfl
      (conv => whnf)
      refine ⟨k + 1, ⟨hk, fun j hj => ?_⟩, ⟨rfl, rfl, ?_, trivial⟩, rfl, by show l[i].length - (k + 1) < l[i].length - k; omega⟩
      · by_cases e : j = k
        · subst e
          rw [List.getElem?_eq_getElem hk]
          have a1 : 65 ≤ l[i][j].toNat := by omega
          have a2 : l[i][j].toNat ≤ 90 := by omega
          simp [okC, a1, a2]
        · exact k2 j (by omega)
      · show PV.int _ (IntKind.i64.wrap ((k : Int) + 1)) = PV.int _ ((k + 1 : Nat) : Int)
        rw [wrap64 (by omega) (by omega)]; simp
    · (conv => whnf)
      have h7 : ¬ (k : Int) < l[i].length := h7
      have hok : okL l[i] = true := by
        have ha : l[i].all okC = true := by
          rw [List.all_eq_true]
          intro x hx
          obtain ⟨j, hj, rfl⟩ := List.mem_iff_getElem.1 hx
          have := k2 j (by omega)
          rw [List.getElem?_eq_getElem hj] at this
          simpa using this
        have a1 : 1 ≤ l[i].length := by omega
        have a2 : l[i].length ≤ 8 := by omega
        unfold okL
        rw [ha]; simp [a1, a2]
      refine ⟨i + 1, ⟨hi, fun j hj => ?_⟩, ⟨rfl, ?_, trivial⟩, rfl, by omega⟩
      · by_cases e : j = i
        · subst e
          rw [hg]; simp [hok]
        · exact h2 j (by omega)
      · show PV.int _ (IntKind.i64.wrap ((i : Int) + 1)) = PV.int _ ((i + 1 : Nat) : Int)
        rw [wrap64 (by omega) (by omega)]; simp
  · (conv => whnf)
    have h : ¬ (i : Int) < l.length := h
    have hall : l.all okL = true := by
      rw [List.all_eq_true]
      intro x hx
      obtain ⟨j, hj, rfl⟩ := List.mem_iff_getElem.1 hx
      have := h2 j (by omega)
      rw [List.getElem?_eq_getElem hj] at this
      simpa using this
    rw [hall]
    refine ⟨fun h5 => ?_, fun h5 => ?_⟩
    · (conv => whnf)
      refine ⟨fun h6 => ?_, fun h6 => ?_⟩
      · (conv => whnf)
        refine ⟨?_, rfl⟩
        have a1 : 1 ≤ l.length := by omega
        have a2 : l.length ≤ 4 := by omega
        simp [a1, a2, tupOf]
      · (conv => whnf)
        refine ⟨?_, rfl⟩
        have a2 : ¬ l.length ≤ 4 := by omega
        simp [a2, tupOf]
    · (conv => whnf)
      refine ⟨?_, rfl⟩
      have a1 : ¬ 1 ≤ l.length := by omega
      simp [a1, tupOf]
end Go.Proofs.Tryz

set_option maxRecDepth 100000
set_option linter.unusedVariables false
namespace Go.Proofs.Tryz
open Go Ps
def tt162 : TT := [(3, ⟨.int .i64, 1, 8, [.int .i64 0]⟩), (5, ⟨.int .u8, 1, 1, [.int .u8 0]⟩), (9, ⟨.str, 1, 16, [.str []]⟩), (257, ⟨.slice 9, 1, 24, [.slice 0 [] (some 9)]⟩)]
theorem tt162_ok : ttOk prog tt162 = true := by kernel_rfl
def imm162 : List Nat := []
def tt137 : TT := [(3, ⟨.int .i64, 1, 8, [.int .i64 0]⟩), (9, ⟨.str, 1, 16, [.str []]⟩)]
theorem tt137_ok : ttOk prog tt137 = true := by kernel_rfl
def imm137 : List Nat := []

def labs (l : List (List UInt8)) : Bool := l.all okL && (decide (1 ≤ l.length) && decide (l.length ≤ 4))
theorem okC_eq : ∀ b : UInt8, inB upperB b.toNat = okC b := by
  intro b
  have h : ∀ n : Fin 256, inB upperB n.val = (decide (65 ≤ n.val) && decide (n.val ≤ 90)) := by decide
  exact h ⟨b.toNat, b.toNat_lt⟩
theorem okL_eq (s : List UInt8) : isWordB s upperB = okL s := by
  unfold isWordB okL
  have : (fun c : UInt8 => inB upperB c.toNat) = okC := funext okC_eq
  rw [this]
  cases s <;> simp
theorem labs_eq (c : UInt8) (s : List UInt8) : labs (splitB c s) = !badL (splitB c s) := by
  have h1 := splitB_len c s
  unfold labs badL
  have : (fun s => !isWordB s upperB) = fun s => !okL s := funext fun s => by rw [okL_eq]
  rw [this]
  have h2 : decide (1 ≤ (splitB c s).length) = true := by simp; omega
  rw [h2]
  rw [Bool.not_or, List.not_any_eq_all_not, Bool.true_and, Bool.and_comm]
  congr 1
  · by_cases h : 4 < (splitB c s).length
    · have : ¬ (splitB c s).length ≤ 4 := by omega
      simp [h, this]
    · have : (splitB c s).length ≤ 4 := by omega
      simp [h, this]
  · simp
theorem labs_slash (t : List UInt8) : labs (splitB 46 (47 :: t)) = false := by
  have h : ∃ x l, splitB 46 (47 :: t) = (47 :: x) :: l := by
    simp only [splitB]
    rw [if_neg (by decide)]
    cases splitB 46 t with
    | nil => exact ⟨[], [], rfl⟩
    | cons a b => exact ⟨a, b, rfl⟩
  obtain ⟨x, l, h⟩ := h
  have hk : okL (47 :: x) = false := by
    have : okC 47 = false := by decide
    simp [okL, this]
  rw [h]
  simp [labs, hk]
theorem c162 (r : List UInt8) (hs : r.length ≤ 1099511627775) : Pure prog 162 [.str r] (.int .i64 (labelsB r).1) := by
  intro H
  have dot : ∀ r : List UInt8, r.length ≤ 1099511627775 → (splitB 46 r).length ≤ 1099511627776 := fun r h => by have := countB_le 46 r; have := splitB_len 46 r; omega
  (refine callOk_of_pFun2 (tt := tt162) (imm := imm162) follows tt162_ok depth6 func162 (by kernel_rfl) ?_; (conv => whnf))
  refine ⟨fun h => ?_, fun h => ?_⟩
  · (conv => whnf)
    cases r with
    | nil => simp at h
    | cons x t =>
      refine ⟨⟨by omega, by simp <;> omega⟩, x, rfl, ?_⟩
      (conv => whnf)
      refine ⟨fun e => ?_, fun e => ?_⟩
      · have e : x = 47 := by
          have e : (x.toNat : Int) = 47 := e
          exact UInt8.toNat_inj.1 (by show x.toNat = 47; omega)
        subst e
        (conv => whnf)
        refine ⟨⟨by omega, by simp <;> omega, by simp⟩, ?_⟩
        have ht : ((47 :: t).take ((47 :: t).length : Int).toNat).drop (1 : Int).toNat = t := by simp
        (conv => whnf)
        have htl : t.length ≤ 1099511627775 := by simp at hs; omega
        refine callK_pure (P := prog) (v := .slice (splitB 47 t).length ((splitB 47 t).map .str) (some 9)) ?_ ?_
        · show Pure prog 183 [.str (((47 :: t).take ((47 :: t).length : Int).toNat).drop (1 : Int).toNat), byteC 47] _
          rw [ht]
          exact c183 t 47 (by omega)
        (conv => whnf)
        refine callK_pure (c182 (splitB 47 t) none (by have := countB_le 47 t; have := splitB_len 47 t; omega)) ?_
        have hl := labs_eq 47 t
        have hd := labs_slash t
        unfold labs at hl hd
        rw [hl]
        cases hb : badL (splitB 47 t)
        · (conv => whnf)
          refine ⟨?_, rfl⟩
          simp [labelsB, hb, tupOf]
        · (conv => whnf)
          refine callK_pure (c183 (47 :: t) 46 (by omega)) ?_
          (conv => whnf)
          refine callK_pure (c182 (splitB 46 (47 :: t)) none (dot _ hs)) ?_
          rw [hd]
          (conv => whnf)
          refine ⟨?_, rfl⟩
          simp [labelsB, hb, tupOf]
      · have hx : x ≠ 47 := fun h => e (by rw [h]; rfl)
        have hlb : labelsB (x :: t) = if badL (splitB 46 (x :: t)) then (0, []) else (1, (splitB 46 (x :: t)).reverse) := by
          unfold labelsB
          split
          · rename_i h2; cases h2; exact absurd rfl hx
          · rfl
        (conv => whnf)
        refine callK_pure (c183 (x :: t) 46 (by omega)) ?_
        (conv => whnf)
        refine callK_pure (c182 (splitB 46 (x :: t)) none (dot _ hs)) ?_
        have hl := labs_eq 46 (x :: t)
        unfold labs at hl
        rw [hl, hlb]
        cases hb : badL (splitB 46 (x :: t))
        · (conv => whnf)
          exact ⟨rfl, rfl⟩
        · (conv => whnf)
          exact ⟨rfl, rfl⟩
  · have hr : r = [] := by
      cases r with
      | nil => rfl
      | cons x t => exact absurd (by simp <;> omega) h
    subst hr
    (conv => whnf)
    refine callK_pure (c183 [] 46 (by simp)) ?_
    (conv => whnf)
    refine callK_pure (c182 (splitB 46 []) none (by simp [splitB])) ?_
    have : ((splitB 46 []).all okL && (decide (1 ≤ (splitB 46 []).length) && decide ((splitB 46 []).length ≤ 4))) = false := by decide
    rw [this]
    (conv => whnf)
    have h0 : (labelsB []).1 = 0 := by decide
    exact ⟨by rw [h0]; rfl, rfl⟩
theorem c137 (r : List UInt8) (hs : r.length ≤ 1099511627775) : Pure prog 137 [.str r] (.bool (isRealmB r)) := by
  intro H
  (refine callOk_of_pFun2 (tt := tt137) (imm := imm137) follows tt137_ok depth6 func137 (by kernel_rfl) ?_; (conv => whnf))
  refine callK_pure (c162 r hs) ?_
  (conv => whnf)
  refine ⟨fun h => ?_, fun h => ?_⟩
  · (conv => whnf)
    have : (labelsB r).1 ≠ 0 := by omega
    exact ⟨by simp [isRealmB, this, tupOf], rfl⟩
  · (conv => whnf)
    have : (labelsB r).1 = 0 := by omega
    exact ⟨by simp [isRealmB, this, tupOf], rfl⟩
end Go.Proofs.Tryz

set_option maxRecDepth 100000
set_option linter.unusedVariables false
namespace Go.Proofs.Tryz
open Go Ps
def tt138 : TT := [(3, ⟨.int .i64, 1, 8, [.int .i64 0]⟩), (4, ⟨.bool, 1, 1, [.bool false]⟩), (9, ⟨.str, 1, 16, [.str []]⟩)]
theorem tt138_ok : ttOk prog tt138 = true := by kernel_rfl
def imm138 : List Nat := []
def tt88 : TT := [(3, ⟨.int .i64, 1, 8, [.int .i64 0]⟩), (4, ⟨.bool, 1, 1, [.bool false]⟩), (5, ⟨.int .u8, 1, 1, [.int .u8 0]⟩), (9, ⟨.str, 1, 16, [.str []]⟩), (24, ⟨.strct [(9, 0), (9, 1)], 2, 32, [.str [], .str []]⟩)]
theorem tt88_ok : ttOk prog tt88 = true := by kernel_rfl
def imm88 : List Nat := [1]

theorem c138 (n : List UInt8) (hs : n.length ≤ 1099511627775) : Pure prog 138 [.str n] (.tup [.str (targetB n).1, .bool (targetB n).2]) := by
  intro H
  (refine callOk_of_pFun2 (tt := tt138) (imm := imm138) follows tt138_ok depth6 func138 (by kernel_rfl) ?_; (conv => whnf))
  refine ⟨fun h => ?_, fun h => ?_⟩
  · have ht : targetB n = ([], false) := by
      unfold targetB
      by_cases hp : krbB.isPrefixOf n = true
      · have hl := (List.isPrefixOf_iff_prefix.1 hp).length_le
        have hl : 7 ≤ n.length := hl
        have : n.drop 7 = [] := List.drop_eq_nil_of_le (by omega)
        have h0 : isRealmB [] = false := by decide
        rw [this, h0]; simp
      · simp [hp]
    rw [ht]
    (conv => whnf)
    exact ⟨rfl, rfl⟩
  · (conv => whnf)
    refine ⟨⟨by omega, by omega, by omega⟩, ?_⟩
    (conv => whnf)
    have hl : krbB.length ≤ n.length := by show 7 ≤ _; omega
    refine ⟨fun e => ?_, fun e => ?_⟩
    · have e : n.take 7 = krbB := e
      have hp : krbB.isPrefixOf n = true := (take_of_prefix hl).1 e
      (conv => whnf)
      refine ⟨⟨by omega, by omega, by omega⟩, ?_⟩
      (conv => whnf)
      have hd : (n.take (n.length : Int).toNat).drop (7 : Int).toNat = n.drop 7 := by simp
      refine callK_pure (P := prog) (v := .bool (isRealmB (n.drop 7))) ?_ ?_
      · show Pure prog 137 [.str ((n.take (n.length : Int).toNat).drop (7 : Int).toNat)] _
        rw [hd]
        exact c137 _ (by rw [List.length_drop]; omega)
      cases hr : isRealmB (n.drop 7)
      · (conv => whnf)
        refine ⟨?_, rfl⟩
        simp [targetB, hp, hr, tupOf]
      · (conv => whnf)
        refine ⟨⟨by omega, by omega, by omega⟩, ?_⟩
        (conv => whnf)
        refine ⟨?_, rfl⟩
        simp [targetB, hp, hr, tupOf]
    · have e : ¬ n.take 7 = krbB := e
      have hp : krbB.isPrefixOf n = false := by
        cases hb : krbB.isPrefixOf n with
        | false => rfl
        | true => exact absurd ((take_of_prefix hl).2 hb) e
      (conv => whnf)
      refine ⟨?_, rfl⟩
      simp [targetB, hp, tupOf]
def okS (b : UInt8) : Bool := (decide (97 ≤ b.toNat) && decide (b.toNat ≤ 122)) || (decide (48 ≤ b.toNat) && decide (b.toNat ≤ 57))
theorem okS_eq : ∀ b : UInt8, inB smallB b.toNat = okS b := by
  intro b
  have h : ∀ n : Fin 256, inB smallB n.val = ((decide (97 ≤ n.val) && decide (n.val ≤ 122)) || (decide (48 ≤ n.val) && decide (n.val ≤ 57))) := by decide
  exact h ⟨b.toNat, b.toNat_lt⟩
theorem word_small (s : List UInt8) : isWordB s smallB = (s.all okS && (decide (1 ≤ s.length) && decide (s.length ≤ 8))) := by
  unfold isWordB
  have : (fun c : UInt8 => inB smallB c.toNat) = okS := funext okS_eq
  rw [this]
  cases s with
  | nil => rfl
  | cons a s =>
    have h1 : decide (1 ≤ (a :: s).length) = true := by simp
    have h2 : decide (a :: s ≠ []) = true := by simp
    rw [h1, h2, Bool.true_and, Bool.true_and, Bool.and_comm]
theorem c88 (realm name : List UInt8) (h1 : realm.length ≤ 1099511627775) (h2 : name.length ≤ 1099511627775) : Pure prog 88 [.agg [.str realm, .str name]] (.bool (isPrincB realm name)) := by
  intro H
  (refine callOk_of_pFun2 (tt := tt88) (imm := imm88) follows tt88_ok depth6 func88 (by kernel_rfl) ?_; (conv => whnf))
  refine callK_pure (c137 realm h1) ?_
  unfold isPrincB
  cases hr : isRealmB realm
  · (conv => whnf)
    exact ⟨rfl, rfl⟩
  (conv => whnf)
  refine callK_pure (c138 name h2) ?_
  cases ht : (targetB name).2
  · (conv => whnf)
    rw [word_small]
    refine loopK_of Nat (fun i => [(1, .elem [.str realm, .str name]), (5, .int .i64 i)]) (fun _ => H) (fun i => i ≤ name.length ∧ ∀ j, j < i → (name[j]?.map okS) = some true) (fun i => name.length - i) ⟨0, ⟨Nat.zero_le _, fun j h => by omega⟩, ⟨rfl, rfl, trivial⟩, rfl⟩ ?_
    rintro i ⟨k1, k2⟩
    (conv => whnf)
    refine ⟨fun h => ?_, fun h => ?_⟩
    · (conv => whnf)
      have h : (i : Int) < name.length := h
      have hi : i < name.length := by omega
      refine ⟨⟨by omega, h⟩, name[i], List.getElem?_eq_getElem hi, ?_⟩
      (conv => whnf)
      have hbad : okS name[i] = false → (name.all okS && (decide (1 ≤ name.length) && decide (name.length ≤ 8))) = false := fun hb => by
        have : name.all okS = false := by
          cases ha : name.all okS with
          | false => rfl
          | true => rw [List.all_eq_true.1 ha _ (List.getElem_mem hi)] at hb; cases hb
        rw [this]; rfl
      have go : okS name[i] = true → ∃ s' : Nat, (s' ≤ name.length ∧ ∀ j, j < s' → (name[j]?.map okS) = some true) ∧ PV.int .i64 (IntKind.i64.wrap ((i : Int) + 1)) = PV.int .i64 s' ∧ name.length - s' < name.length - i := fun hok =>
        ⟨i + 1, ⟨hi, fun j hj => by
          by_cases e : j = i
          · subst e; rw [List.getElem?_eq_getElem hi]; simp [hok]
          · exact k2 j (by omega)⟩, by rw [wrap64 (by omega) (by omega)]; simp, by omega⟩
      refine ⟨fun a1 => ?_, fun a1 => ?_⟩
      · (conv => whnf)
        refine ⟨fun a2 => ?_, fun a2 => ?_⟩
        · (conv => whnf)
          refine ⟨?_, rfl⟩
          rw [hbad (by unfold okS
                       have e1 : ¬ 97 ≤ name[i].toNat := by omega
                       have e2 : ¬ 48 ≤ name[i].toNat := by omega
                       simp [e1, e2])]; rfl
        · (conv => whnf)
          refine ⟨fun a3 => ?_, fun a3 => ?_⟩
          · (conv => whnf)
            refine ⟨?_, rfl⟩
            rw [hbad (by unfold okS
                         have e1 : ¬ 97 ≤ name[i].toNat := by omega
                         have e2 : ¬ name[i].toNat ≤ 57 := by omega
                         simp [e1, e2])]; rfl
          · (conv => whnf)
            obtain ⟨s', y1, y2, y3⟩ := go (by
              unfold okS
              have e1 : 48 ≤ name[i].toNat := by omega
              have e2 : name[i].toNat ≤ 57 := by omega
              simp [e1, e2])
            exact ⟨s', y1, ⟨rfl, y2, trivial⟩, rfl, y3⟩
      · (conv => whnf)
        refine ⟨fun a2 => ?_, fun a2 => ?_⟩
        · (conv => whnf)
          refine ⟨fun a3 => absurd a3 (by omega), fun a3 => ?_⟩
          (conv => whnf)
          refine ⟨fun a4 => ?_, fun a4 => absurd a4 (by omega)⟩
          (conv => whnf)
          refine ⟨?_, rfl⟩
          rw [hbad (by unfold okS
                       have e1 : ¬ name[i].toNat ≤ 122 := by omega
                       have e2 : ¬ name[i].toNat ≤ 57 := by omega
                       simp [e1, e2])]; rfl
        · (conv => whnf)
          obtain ⟨s', y1, y2, y3⟩ := go (by
            unfold okS
            have e1 : 97 ≤ name[i].toNat := by omega
            have e2 : name[i].toNat ≤ 122 := by omega
            simp [e1, e2])
          exact ⟨s', y1, ⟨rfl, y2, trivial⟩, rfl, y3⟩
    · (conv => whnf)
      have h : ¬ (i : Int) < name.length := h
      have hall : name.all okS = true := by
        rw [List.all_eq_true]
        intro x hx
        obtain ⟨j, hj, rfl⟩ := List.mem_iff_getElem.1 hx
        have := k2 j (by omega)
        rw [List.getElem?_eq_getElem hj] at this
        simpa using this
      rw [hall]
      refine ⟨fun a1 => ?_, fun a1 => ?_⟩
      · (conv => whnf)
        refine ⟨fun a2 => ?_, fun a2 => ?_⟩
        · (conv => whnf)
          refine ⟨?_, rfl⟩
          have e1 : 1 ≤ name.length := by omega
          have e2 : name.length ≤ 8 := by omega
          simp [e1, e2, tupOf]
        · (conv => whnf)
          refine ⟨?_, rfl⟩
          have e2 : ¬ name.length ≤ 8 := by omega
          simp [e2, tupOf]
      · (conv => whnf)
        refine ⟨?_, rfl⟩
        have e1 : ¬ 1 ≤ name.length := by omega
        simp [e1, tupOf]
  · (conv => whnf)
    exact ⟨rfl, rfl⟩
end Go.Proofs.Tryz

set_option maxRecDepth 100000
set_option linter.unusedVariables false
namespace Ps
open Go
/-- A nil row, as any empty one. -/
theorem CallOk.nil {P : Program} {f : Nat} {args : List PV} {H : PH} (h : CallOk P f args H fun r H' => r = .nilS ∧ H' = H) : CallOk P f args H fun r H' => r = .slice 0 [] none ∧ H' = H := by
  intro g w vs hs hr
  refine (h g w vs hs hr).mono ?_
  rintro e w' ⟨v, r, H', g', rfl, ⟨rfl, rfl⟩, hr', st, ho, hc⟩
  have h0 : VC P g' w' v .nilS := hr'.e 0
  have h0 : v = .slice none 0 0 := by
    rcases h0 with h0 | ⟨_, _, _, _, h0, _⟩
    · exact h0.inv_nilS
    · cases h0
  subst h0
  have hv : V g' w' (.slice none 0 0) (.slice 0 [] none) := .snil none
  have hno : ∀ t i b, ¬ ownAt (one (.slice none 0 0) t) (Env.get [(0, .slice 0 [] none)] t) i b := fun t i b h => by
    rw [Env.get_cons] at h
    unfold one at h
    by_cases e : t = 0
    · rw [if_pos e, if_pos e.symm] at h; exact no_own hv i b h
    · rw [if_neg (Ne.symm e)] at h; cases h.2.1
  refine ⟨_, .slice 0 [] none, H', g', rfl, ⟨rfl, rfl⟩, ⟨hr'.h, fun t => ?_, fun t i t' i' b h _ => absurd h (hno t i b), fun t i b h => absurd h (hno t i b), hr'.cc⟩, st, fun i b h => absurd h (no_own hv i b), hc⟩
  rw [Env.get_cons]
  unfold one
  by_cases e : t = 0
  · rw [if_pos e, if_pos e.symm]; exact hv.vc
  · rw [if_neg e, if_neg (Ne.symm e)]; exact (V.undef _).vc
end Ps
namespace Go.Proofs.Tryz
open Go Ps
def ttB : TT := [(3, ⟨.int .i64, 1, 8, [.int .i64 0]⟩), (5, ⟨.int .u8, 1, 1, [.int .u8 0]⟩), (9, ⟨.str, 1, 16, [.str []]⟩), (22, ⟨.slice 5, 1, 24, [.slice 0 [] (some 5)]⟩), (201, ⟨.slice 22, 1, 24, [.slice 0 [] (some 22)]⟩)]
theorem ttB_ok : ttOk prog ttB = true := by kernel_rfl
def imm159 : List Nat := [22]
def imm127 : List Nat := [33]
def imm64 : List Nat := []
def imm66 : List Nat := []
def imm67 : List Nat := []
def imm128 : List Nat := []
def imm68 : List Nat := [3, 15, 30]
def imm129 : List Nat := []
def Ext (H H' : PH) : Prop := ∃ ext, H' = H ++ ext
theorem Ext.refl (H : PH) : Ext H H := ⟨[], by simp⟩
theorem Ext.push {H H' : PH} (h : Ext H H') (o : PObj) : Ext H (H' ++ [o]) := by
  obtain ⟨e, rfl⟩ := h
  exact ⟨e ++ [o], by simp⟩
theorem Ext.set {H H' : PH} (h : Ext H H') {id : Nat} (hid : H.length ≤ id) (o : PObj) : Ext H (H'.set id o) := by
  obtain ⟨e, rfl⟩ := h
  exact ⟨e.set (id - H.length) o, by rw [List.set_append_right _ _ hid]⟩
theorem Ext.len {H H' : PH} (h : Ext H H') : H.length ≤ H'.length := by
  obtain ⟨e, rfl⟩ := h
  simp
theorem c159 (n : Nat) (hn : n ≤ 1099511627776) (H : PH) : CallOk prog 159 [.nilS, .int .i64 n] H fun r H' => (n = 0 ∧ r = .nilS ∧ H' = H) ∨ (0 < n ∧ ∃ cap o, n ≤ cap ∧ r = .sref H.length 0 0 cap ∧ H' = H ++ [o] ∧ o.cs.length = cap) := by
  (refine callOk_of_pFun2 (tt := ttB) (imm := imm159) follows ttB_ok depth6 func159 (by kernel_rfl) ?_; (conv => whnf))
  refine ⟨fun h => absurd (show (n : Int) < 0 from h) (by omega), fun _ => ?_⟩
  (conv => whnf)
  have hw : IntKind.i64.wrap ((n : Int) - IntKind.i64.wrap (0 - 0)) = n := by
    rw [show IntKind.i64.wrap ((0 : Int) - 0) = 0 from rfl, wrap64 (by omega) (by omega)]; omega
  refine ⟨fun h => ?_, fun h => ?_⟩
  · (conv => whnf)
    have h : IntKind.i64.wrap ((n : Int) - IntKind.i64.wrap (0 - 0)) > 0 := h
    rw [hw] at h
    refine ⟨⟨by omega, by omega, by omega⟩, ?_⟩
    (conv => whnf)
    rw [hw]
    refine ⟨⟨h, by show (n : Int) * (1 : Nat) ≤ _; omega⟩, fun cap hc => ?_⟩
    (conv => whnf)
    have hc : n ≤ cap := hc
    refine ⟨⟨by omega, by omega, by show (0 : Int) ≤ n; omega⟩, fun h2 => ?_, fun h2 => absurd (show (0 : Int) < ((n : Int).toNat : Int) by omega) h2⟩
    (conv => whnf)
    refine .inr ⟨by omega, cap, _, hc, rfl, rfl, ?_⟩
    show (zerosOf [PV.int .u8 0] n ++ zerosOf [PV.int .u8 0] (cap - n)).length = cap
    rw [List.length_append, (zerosOf_get (z := [PV.int .u8 0]) (sz := 1) rfl (by omega) n).1, (zerosOf_get (z := [PV.int .u8 0]) (sz := 1) rfl (by omega) (cap - n)).1]
    omega
  · (conv => whnf)
    have h : ¬ IntKind.i64.wrap ((n : Int) - IntKind.i64.wrap (0 - 0)) > 0 := h
    rw [hw] at h
    exact .inl ⟨by omega, rfl, rfl⟩
end Go.Proofs.Tryz

set_option maxRecDepth 100000
set_option linter.unusedVariables false
namespace Go.Proofs.Tryz
open Go Ps
def sl (b : List UInt8) : PV := .slice b.length (b.map byteC) none
/-- A row that holds these bytes: by value, or an object's. -/
def Rep (H : PH) (c : PV) (b : List UInt8) : Prop := c = sl b ∨ ∃ id off cap o, c = .sref id off b.length cap ∧ H[id]? = some o ∧ (((o.cs.drop off).take (b.length * 1)).map dem) = b.map byteC
def Reps (H : PH) (cs : List PV) (ls : List (List UInt8)) : Prop := cs.length = ls.length ∧ ∀ (i : Nat) (c : PV) (b : List UInt8), cs[i]? = some c → ls[i]? = some b → Rep H c b
theorem Reps.sl (H : PH) (ls : List (List UInt8)) : Reps H (ls.map sl) ls := ⟨by simp, fun i c b hc hb => by
  rw [List.getElem?_map, hb] at hc
  exact .inl (Option.some.inj hc).symm⟩
theorem Ext.get {H H' : PH} (h : Ext H H') {j : Nat} {o : PObj} (hj : H[j]? = some o) : H'[j]? = some o := by
  obtain ⟨e, rfl⟩ := h
  rw [List.getElem?_append_left (List.getElem?_eq_some_iff.1 hj).1]; exact hj
structure CoS where
  k : Nat
structure CoT where
  k : Nat
  H : PH
  v : PV
theorem take_pre {a b : List PV} {n : Nat} (h : a.length = n) : (a ++ b).take n = a := by subst h; simp
theorem flat_take {ls : List (List UInt8)} {k : Nat} (hk : k < ls.length) : (ls.take (k + 1)).flatten = (ls.take k).flatten ++ ls[k] := by
  rw [List.take_succ_eq_append_getElem hk, List.flatten_append, List.flatten_cons, List.flatten_nil, List.append_nil]
theorem flat_le (ls : List (List UInt8)) (k : Nat) : ((ls.take k).flatten).length ≤ ls.flatten.length := by
  conv => rhs; rw [← List.take_append_drop k ls]
  rw [List.flatten_append, List.length_append]; omega
theorem allOne (b : List UInt8) : (b.map byteC).all oneP = true := List.all_eq_true.2 fun x hx => by
  obtain ⟨b, _, rfl⟩ := List.mem_map.1 hx
  rfl
def coOk (H0 : PH) (ls : List (List UInt8)) (k : Nat) (H : PH) (v : PV) : Prop :=
  (ls.flatten.length = 0 ∧ v = .nilS ∧ H = H0) ∨ (0 < ls.flatten.length ∧ ∃ id cap o, v = .sref id 0 ((ls.take k).flatten).length cap ∧ H0.length ≤ id ∧ H[id]? = some o ∧ (o.cs.length = cap ∧ ls.flatten.length ≤ cap) ∧ o.cs.take ((ls.take k).flatten).length = ((ls.take k).flatten).map byteC)
theorem c127x (ls : List (List UInt8)) (hn : ls.length ≤ 1099511627776) (ht : ls.flatten.length ≤ 1099511627776) (H0 : PH) (cs : List PV) (hr : Reps H0 cs ls) : CallOk prog 127 [.slice ls.length cs none] H0 fun r H' => Ext H0 H' ∧ coOk H0 ls ls.length H' r := by
  (refine callOk_of_pFun2 (tt := ttB) (imm := imm127) follows ttB_ok depth6 func127 (by kernel_rfl) ?_; (conv => whnf))
  refine loopK_of CoS (fun x => [(0, .slice ls.length cs none), (9, .slice ls.length cs none), (10, .int .i64 ls.length), (11, .int .i64 x.k), (3, .int .i64 ((ls.take x.k).flatten).length)]) (fun _ => H0)
    (fun x => x.k ≤ ls.length) (fun x => ls.length - x.k) ⟨⟨0⟩, Nat.zero_le _, ⟨rfl, rfl, rfl, rfl, rfl, trivial⟩, rfl⟩ ?_
  rintro ⟨k⟩ hk
  have hk : k ≤ ls.length := hk
  (conv => whnf)
  refine ⟨fun h => ?_, fun h => ?_⟩
  · (conv => whnf)
    have h : (k : Int) < ls.length := h
    have hi : k < ls.length := by omega
    have hic : k < cs.length := by rw [hr.1]; exact hi
    have hrep := hr.2 k _ _ (List.getElem?_eq_getElem hic) (List.getElem?_eq_getElem hi)
    refine ⟨⟨by show (0 : Int) ≤ (k : Int); omega, h⟩, [cs[k]], fun j c hj => ?_, ?_⟩
    · match j with
      | 0 =>
        have hj : some cs[k] = some c := hj
        show cs[(k : Int).toNat * 1 + 0]? = _
        rw [← hj]
        simp [hic]
      | j + 1 => simp at hj
    have hf := flat_take hi
    have hl := flat_le ls (k + 1)
    rw [hf, List.length_append] at hl
    have hw : IntKind.i64.wrap ((((ls.take k).flatten).length : Int) + (ls[k].length : Int)) = ((((ls.take (k + 1)).flatten).length : Nat) : Int) := by
      rw [wrap64 (by omega) (by omega), hf, List.length_append]; rfl
    generalize cs[k] = c at hrep ⊢
    rcases hrep with rfl | ⟨id, off, cap, o, rfl, _, _⟩
    all_goals
     (conv => whnf)
     refine ⟨fun h => absurd (show IntKind.i64.wrap ((((ls.take k).flatten).length : Int) + (ls[k].length : Int)) < 0 from h) (by rw [hw]; omega), fun _ => ?_⟩
     (conv => whnf)
     refine ⟨⟨k + 1⟩, by show k + 1 ≤ ls.length; omega, ⟨rfl, rfl, rfl, ?_, ?_, trivial⟩, rfl, by show ls.length - (k + 1) < ls.length - k; omega⟩
     · show PV.int _ (IntKind.i64.wrap ((k : Int) + 1)) = PV.int _ ((k + 1 : Nat) : Int)
       rw [wrap64 (by omega) (by omega)]; rfl
     · exact congrArg (PV.int .i64) hw
  · (conv => whnf)
    have h : ¬ (k : Int) < ls.length := h
    have hkl : k = ls.length := by omega
    subst hkl
    have htake : ls.take ls.length = ls := List.take_of_length_le (Nat.le_refl _)
    refine callK_args (args' := [.nilS, .int .i64 ls.flatten.length]) (by show [PV.nilS, .int .i64 ((ls.take ls.length).flatten).length] = _; rw [htake]) ?_
    refine callK_of (c159 ls.flatten.length ht H0) ?_
    rintro r H1 hr1
    have hstart : Ext H0 H1 ∧ coOk H0 ls 0 H1 r := by
      rcases hr1 with ⟨h1, rfl, rfl⟩ | ⟨h1, cap, o, h2, rfl, rfl, h3⟩
      · exact ⟨Ext.refl _, .inl ⟨h1, rfl, rfl⟩⟩
      · exact ⟨⟨_, rfl⟩, .inr ⟨h1, H0.length, cap, o, rfl, Nat.le_refl _, by simp, ⟨h3, h2⟩, by simp⟩⟩
    obtain ⟨e1, e2⟩ := hstart
    have hcase : (∃ (v : PV), r = v ∧ (v = .nilS ∨ ∃ id n cap, v = .sref id 0 n cap)) := by
      rcases e2 with ⟨_, rfl, _⟩ | ⟨_, id, cap, _, rfl, _⟩
      · exact ⟨_, rfl, .inl rfl⟩
      · exact ⟨_, rfl, .inr ⟨id, _, cap, rfl⟩⟩
    have hgo : ∀ (E : Env), subE [(0, .slice ls.length cs none), (25, .slice ls.length cs none), (26, .int .i64 ls.length), (27, .int .i64 0), (6, r)] E → True := fun _ _ => trivial
    obtain ⟨v, rfl, hv⟩ := hcase
    rcases hv with rfl | ⟨id, n, cap, rfl⟩
    all_goals
      (conv => whnf)
      refine loopK_of CoT (fun x => [(25, .slice ls.length cs none), (26, .int .i64 ls.length), (27, .int .i64 x.k), (6, x.v)]) (fun x => x.H)
        (fun x => x.k ≤ ls.length ∧ Ext H0 x.H ∧ coOk H0 ls x.k x.H x.v) (fun x => ls.length - x.k) ⟨⟨0, H1, _⟩, ⟨Nat.zero_le _, e1, e2⟩, ⟨rfl, rfl, rfl, rfl, trivial⟩, rfl⟩ ?_
      clear hgo e1 e2 hr1
      rintro ⟨k, H, v⟩ ⟨g1, g2, g3⟩
      have g1 : k ≤ ls.length := g1
      have g2 : Ext H0 H := g2
      have g3 : coOk H0 ls k H v := g3
      (conv => whnf)
      refine ⟨fun h => ?_, fun h => ?_⟩
      · (conv => whnf)
        have h : (k : Int) < ls.length := h
        have hi : k < ls.length := by omega
        have hic : k < cs.length := by rw [hr.1]; exact hi
        have hrep := hr.2 k _ _ (List.getElem?_eq_getElem hic) (List.getElem?_eq_getElem hi)
        refine ⟨⟨by show (0 : Int) ≤ (k : Int); omega, h⟩, [cs[k]], fun j c hj => ?_, ?_⟩
        · match j with
          | 0 =>
            have hj : some cs[k] = some c := hj
            show cs[(k : Int).toNat * 1 + 0]? = _
            rw [← hj]
            simp [hic]
          | j + 1 => simp at hj
        generalize cs[k] = c at hrep ⊢
        have hf := flat_take hi
        have hl := flat_le ls (k + 1)
        rw [hf, List.length_append] at hl
        have hlast : ∀ (E : Env) (H' : PH) (v' : PV), subE [(25, .slice ls.length cs none), (26, .int .i64 ls.length), (27, .int .i64 (IntKind.i64.wrap ((k : Int) + 1))), (6, v')] E → Ext H0 H' → coOk H0 ls (k + 1) H' v' →
          ∃ s' : CoT, (s'.k ≤ ls.length ∧ Ext H0 s'.H ∧ coOk H0 ls s'.k s'.H s'.v) ∧ subE [(25, .slice ls.length cs none), (26, .int .i64 ls.length), (27, .int .i64 s'.k), (6, s'.v)] E ∧ H' = s'.H ∧ ls.length - s'.k < ls.length - k := by
          intro E H' v' hE hx hy
          rw [wrap64 (by omega) (by omega)] at hE
          exact ⟨⟨k + 1, H', v'⟩, ⟨by show k + 1 ≤ ls.length; omega, hx, hy⟩, hE, rfl, by show ls.length - (k + 1) < ls.length - k; omega⟩
        rcases g3 with ⟨y1, rfl, y3⟩ | ⟨y1, id, cap, o, rfl, hid, hob, ⟨hcap, htc⟩, htk⟩
        · have hz : ls[k].length = 0 := by omega
          rcases hrep with rfl | ⟨id, off, cap, o, rfl, ho, hbytes⟩
          · (conv => whnf)
            refine ⟨⟨by show ls[k].length * 1 ≤ _; omega, by rw [List.length_map, Nat.mul_one], allOne _⟩, fun _ => ?_, fun h => absurd (show 0 < ls[k].length from h) (by omega)⟩
            (conv => whnf)
            exact hlast _ _ _ ⟨rfl, rfl, rfl, rfl, trivial⟩ g2 (.inl ⟨y1, rfl, y3⟩)
          · have ho' := g2.get ho
            (conv => whnf)
            ((conv in (_[_]?) => tactic => exact ho'); (conv => whnf))
            refine ⟨⟨by show ls[k].length * 1 ≤ _; omega, (congrArg List.length hbytes).trans (by rw [List.length_map]; exact (Nat.mul_one _).symm), (congrArg (List.all · oneP) hbytes).trans (allOne _)⟩, fun _ => ?_, fun h => absurd (show 0 < ls[k].length from h) (by omega)⟩
            (conv => whnf)
            exact hlast _ _ _ ⟨rfl, rfl, rfl, rfl, trivial⟩ g2 (.inl ⟨y1, rfl, y3⟩)
        · have hfin : ∀ (ds : List PV), ds = ls[k].map byteC → (setCells (((ls.take k).flatten).length * 1) ds o.cs).length = cap ∧ (setCells (((ls.take k).flatten).length * 1) ds o.cs).take ((ls.take (k + 1)).flatten).length = ((ls.take (k + 1)).flatten).map byteC := by
            rintro ds rfl
            have hse : setCells (((ls.take k).flatten).length * 1) (ls[k].map byteC) o.cs = o.cs.take (((ls.take k).flatten).length * 1) ++ ls[k].map byteC ++ o.cs.drop (((ls.take k).flatten).length * 1 + (ls[k].map byteC).length) := setCells_eq _ _ _ (by rw [List.length_map]; omega)
            refine ⟨by rw [setCells_length _ _ _ (by rw [List.length_map]; omega)]; exact hcap, ?_⟩
            rw [hse, hf, Nat.mul_one, htk, take_pre (by rw [List.length_append, List.length_append, List.length_map, List.length_map]), List.map_append]
          rcases hrep with rfl | ⟨id2, off2, cap2, o2, rfl, ho, hbytes⟩
          · obtain ⟨f1, f2⟩ := hfin _ rfl
            (conv => whnf)
            ((conv in (_[_]?) => tactic => exact hob); (conv => whnf))
            refine ⟨⟨rfl, by show (((ls.take k).flatten).length + ls[k].length) * 1 ≤ _; omega, by rw [List.length_map, Nat.mul_one], allOne _, by show ((ls.take k).flatten).length * 1 ≤ _; omega⟩, fun _ => ⟨by show (((ls.take k).flatten).length + ls[k].length) * 1 ≤ _; omega, ?_⟩, fun h => absurd h (by omega)⟩
            (conv => whnf)
            exact hlast _ _ _ ⟨rfl, rfl, rfl, rfl, trivial⟩ (g2.set hid _) (.inr ⟨y1, id, cap, ⟨o.T, setCells (((ls.take k).flatten).length * 1) (ls[k].map byteC) o.cs, o.ver + 1⟩, by rw [hf, List.length_append]; rfl, hid, get_set hob, ⟨f1, htc⟩, f2⟩)
          · obtain ⟨f1, f2⟩ := hfin _ hbytes
            have ho' := g2.get ho
            (conv => whnf)
            ((conv in (_[_]?) => tactic => exact ho'); (conv => whnf))
            ((conv in (_[_]?) => tactic => exact hob); (conv => whnf))
            refine ⟨⟨rfl, by show (((ls.take k).flatten).length + ls[k].length) * 1 ≤ _; omega, (congrArg List.length hbytes).trans (by rw [List.length_map]; exact (Nat.mul_one _).symm), (congrArg (List.all · oneP) hbytes).trans (allOne _), by show ((ls.take k).flatten).length * 1 ≤ _; omega⟩, fun _ => ⟨by show (((ls.take k).flatten).length + ls[k].length) * 1 ≤ _; omega, ?_⟩, fun h => absurd h (by omega)⟩
            (conv => whnf)
            exact hlast _ _ _ ⟨rfl, rfl, rfl, rfl, trivial⟩ (g2.set hid _) (.inr ⟨y1, id, cap, ⟨o.T, setCells (((ls.take k).flatten).length * 1) (((o2.cs.drop off2).take (ls[k].length * 1)).map dem) o.cs, o.ver + 1⟩, by rw [hf, List.length_append]; rfl, hid, get_set hob, ⟨f1, htc⟩, f2⟩)
      · (conv => whnf)
        have h : ¬ (k : Int) < ls.length := h
        have hkl : k = ls.length := by omega
        subst hkl
        rcases g3 with ⟨y1, rfl, y3⟩ | ⟨y1, id, cap, o, rfl, y2⟩
        · (conv => whnf)
          exact ⟨g2, .inl ⟨y1, rfl, y3⟩⟩
        · (conv => whnf)
          exact ⟨g2, .inr ⟨y1, id, cap, o, rfl, y2⟩⟩
theorem c127 (ls : List (List UInt8)) (hn : ls.length ≤ 1099511627776) (ht : ls.flatten.length ≤ 1099511627776) {H0 : PH} {cs : List PV} (hr : Reps H0 cs ls) : CallOk prog 127 [.slice ls.length cs none] H0 fun r H' => r = sl ls.flatten ∧ H' = H0 := by
  have htake : ls.take ls.length = ls := List.take_of_length_le (Nat.le_refl _)
  rcases Nat.eq_zero_or_pos ls.flatten.length with h0 | h0
  · have hnil : ls.flatten = [] := List.length_eq_zero_iff.1 h0
    rw [hnil]
    refine CallOk.nil ((c127x ls hn ht H0 cs hr).mono fun r H' ⟨_, h⟩ => ?_)
    rcases h with ⟨_, h1, h2⟩ | ⟨h1, _⟩
    · exact ⟨h1, h2⟩
    · omega
  · refine CallOk.frz (c127x ls hn ht H0 cs hr) fun r H' ⟨⟨ext, he⟩, h⟩ => ?_
    rcases h with ⟨h1, _⟩ | ⟨_, id, cap, o, h1, h2, h3, ⟨h4, h5⟩, h6⟩
    · omega
    rw [htake] at h1 h6
    refine ⟨ext, id, cap, o, he, h1, h2, h3, by rw [List.length_map]; omega, by rw [List.length_map]; exact h6, ?_⟩
    exact List.all_eq_true.2 fun x hx => by
      obtain ⟨b, _, rfl⟩ := List.mem_map.1 hx
      rfl
end Go.Proofs.Tryz

set_option maxRecDepth 100000
set_option linter.unusedVariables false
namespace Go.Proofs.Tryz
open Go Ps
theorem dropN_app (cs : List UInt8) (rest : List PV) {i : Nat} {x : UInt8} (h : cs[i]? = some x) : dropN (0 + (i : Int).toNat * 1) (cs.map byteC ++ rest) = byteC x :: ((cs.drop (i + 1)).map byteC ++ rest) := by
  have hl := (List.getElem?_eq_some_iff.1 h).1
  rw [dropN_eq]
  simp only [Nat.zero_add, Int.toNat_natCast, Nat.mul_one]
  rw [List.drop_append_of_le_length (by rw [List.length_map]; omega), ← List.map_drop, List.drop_eq_getElem_cons hl, List.map_cons, List.cons_append]
  congr 2
  exact (List.getElem?_eq_some_iff.1 h).2
theorem setCells_app (cs : List UInt8) (rest : List PV) (i : Nat) (x : UInt8) (h : i < cs.length) : setCells i [byteC x] (cs.map byteC ++ rest) = (cs.set i x).map byteC ++ rest := by
  induction cs generalizing i with
  | nil => simp at h
  | cons y cs ih =>
    cases i with
    | zero => simp [setCells]
    | succ i =>
      have := ih i (by simpa using h)
      simp [setCells, this]
def D129 : Draw := { imp := [13, 15], win := [(2, 0, 1), (3, 0, 1), (14, 1, 1), (15, 1, 1)] }
structure RevB where
  i : Nat
  cur : List UInt8
  v : Nat
theorem c129 (id n cap : Nat) (l : List UInt8) (rest : List PV) (T v : Nat) (H : PH) (hid : H[id]? = some ⟨T, l.map byteC ++ rest, v⟩) (hn : n = l.length) (hs : l.length ≤ 1099511627776) :
    CallOk prog 129 [.sref id 0 n cap] H fun r H' => r = .tup [] ∧ ∃ v', H' = H.set id ⟨T, l.reverse.map byteC ++ rest, v'⟩ := by
  subst hn
  (refine callOk_of_pFun2 (tt := ttB) (imm := imm129) follows ttB_ok depth6 func129 (by kernel_rfl) ?_; (conv => whnf))
  refine loopK_of RevB (fun x => [(0, .sref id 0 l.length cap), (2, .int .i64 x.i), (3, .int .i64 ((l.length : Int) - 1 - x.i))]) (fun x => H.set id ⟨T, x.cur.map byteC ++ rest, x.v⟩)
    (fun x => x.i ≤ l.length ∧ x.cur.length = l.length ∧ ∀ k, k < l.length → x.cur[k]? = if k < x.i ∨ l.length - x.i ≤ k then l[l.length - 1 - k]? else l[k]?) (fun x => l.length - x.i)
    ⟨⟨0, l, v⟩, ⟨Nat.zero_le _, rfl, fun k hk => by rw [if_neg (by show ¬ (k < 0 ∨ l.length - 0 ≤ k); omega)]⟩, ⟨rfl, rfl, ?_, trivial⟩, (set_self hid).symm⟩ ?_
  · show PV.int _ (IntKind.i64.wrap ((l.length : Int) - 1)) = PV.int _ ((l.length : Int) - 1 - 0)
    rw [wrap64 (by omega) (by omega)]; simp
  rintro ⟨i, cur, v⟩ ⟨h1, h2, h3⟩
  (conv => whnf)
  refine ⟨fun h4 => ?_, fun h4 => ?_⟩
  · (conv => whnf)
    have h4 : (i : Int) < (l.length : Int) - 1 - i := h4
    have h2 : cur.length = l.length := h2
    have hi : i < cur.length := by omega
    have hj : cur.length - 1 - i < cur.length := by omega
    refine drawK_of2 D129 [H.set id ⟨T, cur.map byteC ++ rest, v⟩, H.set id ⟨T, (cur.set i cur[cur.length - 1 - i]).map byteC ++ rest, v + 1⟩, H.set id ⟨T, ((cur.set i cur[cur.length - 1 - i]).set (cur.length - 1 - i) cur[i]).map byteC ++ rest, v + 1 + 1⟩] (by kernel_rfl) rfl trivial ?_
    have g0 := get_set (o' := ⟨T, cur.map byteC ++ rest, v⟩) hid
    have hlen : H.length = H.length := rfl
    (conv => whnf)
    (apply Exists.intro; apply And.intro; (focus ((conv => whnf); first | exact ⟨rfl, rfl, trivial⟩ | (refine ⟨by omega, ?_⟩; (conv => whnf); exact ⟨rfl, rfl, trivial⟩))); (conv => whnf))
    (apply Exists.intro; apply And.intro; (focus ((conv => whnf); first | exact ⟨rfl, rfl, trivial⟩ | (refine ⟨by omega, ?_⟩; (conv => whnf); exact ⟨rfl, rfl, trivial⟩))); (conv => whnf))
    (apply Exists.intro; apply And.intro; (focus ((conv => whnf); apply And.intro; (focus ((conv => whnf); first | exact ⟨rfl, rfl, trivial⟩ | (refine ⟨by omega, ?_⟩; (conv => whnf); exact ⟨rfl, rfl, trivial⟩))); ((conv => whnf); first | exact ⟨rfl, rfl, trivial⟩ | (refine ⟨by omega, ?_⟩; (conv => whnf); exact ⟨rfl, rfl, trivial⟩)))); (conv => whnf))
    (apply Exists.intro; apply And.intro; (focus ((conv => whnf); apply And.intro; (focus ((conv => whnf); first | exact ⟨rfl, rfl, trivial⟩ | (refine ⟨by omega, ?_⟩; (conv => whnf); exact ⟨rfl, rfl, trivial⟩))); ((conv => whnf); first | exact ⟨rfl, rfl, trivial⟩ | (refine ⟨by omega, ?_⟩; (conv => whnf); exact ⟨rfl, rfl, trivial⟩)))); (conv => whnf))
    (apply Exists.intro; apply And.intro; (focus ((conv => whnf); first | exact ⟨rfl, rfl, trivial⟩ | (refine ⟨by omega, ?_⟩; (conv => whnf); exact ⟨rfl, rfl, trivial⟩))); (conv => whnf))
    (apply Exists.intro; apply And.intro; (focus ((conv => whnf); first | exact ⟨rfl, rfl, trivial⟩ | (refine ⟨by omega, ?_⟩; (conv => whnf); exact ⟨rfl, rfl, trivial⟩))); (conv => whnf))
    apply Exists.intro
    apply And.intro
    · (conv => whnf)
      refine ⟨⟨by omega, by omega⟩, rfl, rfl, trivial⟩
    (conv => whnf)
    apply Exists.intro
    apply And.intro
    · (conv => whnf)
      ((conv in (_[_]?) => tactic => exact g0); (conv => whnf))
      have e : ((l.length : Int) - 1 - i).toNat = cur.length - 1 - i := by omega
      have hL : dropN (0 + ((l.length : Int) - 1 - i).toNat * 1) (cur.map byteC ++ rest) = byteC cur[cur.length - 1 - i] :: ((cur.drop (cur.length - 1 - i + 1)).map byteC ++ rest) := by rw [e]; exact dropN_app cur rest (List.getElem?_eq_getElem hj)
      generalize hd : dropN _ _ = L
      rw [show L = _ from hd.symm.trans hL]
      (conv => whnf)
      exact ⟨rfl, rfl, trivial⟩
    (conv => whnf)
    (apply Exists.intro; apply And.intro; (focus ((conv => whnf); first | exact ⟨rfl, rfl, trivial⟩ | (refine ⟨by omega, ?_⟩; (conv => whnf); exact ⟨rfl, rfl, trivial⟩))); (conv => whnf))
    (apply Exists.intro; apply And.intro; (focus ((conv => whnf); first | exact ⟨rfl, rfl, trivial⟩ | (refine ⟨by omega, ?_⟩; (conv => whnf); exact ⟨rfl, rfl, trivial⟩))); (conv => whnf))
    apply Exists.intro
    apply And.intro
    · (conv => whnf)
      refine ⟨⟨by show (0 : Int) ≤ (i : Int); omega, by show (i : Int) < l.length; omega⟩, rfl, rfl, trivial⟩
    (conv => whnf)
    apply Exists.intro
    apply And.intro
    · (conv => whnf)
      ((conv in (_[_]?) => tactic => exact g0); (conv => whnf))
      ((conv in (dropN _ _) => tactic => exact (dropN_app cur rest (List.getElem?_eq_getElem hi))); (conv => whnf))
      exact ⟨rfl, rfl, trivial⟩
    (conv => whnf)
    apply Exists.intro
    apply And.intro
    · (conv => whnf)
      refine ⟨⟨by show (0 : Int) ≤ (i : Int); omega, by show (i : Int) < l.length; omega⟩, rfl, rfl, trivial⟩
    (conv => whnf)
    apply Exists.intro
    apply And.intro
    · (conv => whnf)
      ((conv in (_[_]?) => tactic => exact g0); (conv => whnf))
      ((conv in (Nat.ble _ _) => tactic => exact (show Nat.ble (0 + (i : Int).toNat * 1 + 1) (cur.map byteC ++ rest).length = true by rw [Nat.ble_eq]; simp; omega)); (conv => whnf))
      refine ⟨rfl, ?_, trivial⟩
      show (H.set id ⟨T, cur.map byteC ++ rest, v⟩).set id ⟨T, setCells (0 + (i : Int).toNat * 1) [byteC cur[cur.length - 1 - i]] (cur.map byteC ++ rest), v + 1⟩ = H.set id ⟨T, (cur.set i cur[cur.length - 1 - i]).map byteC ++ rest, v + 1⟩
      rw [List.set_set, ← setCells_app _ _ _ _ hi]
      simp
    (conv => whnf)
    apply Exists.intro
    apply And.intro
    · (conv => whnf)
      refine ⟨⟨by omega, by omega⟩, rfl, rfl, trivial⟩
    (conv => whnf)
    apply Exists.intro
    apply And.intro
    · (conv => whnf)
      ((conv in (_[_]?) => tactic => exact (get_set (o' := ⟨T, (cur.set i cur[cur.length - 1 - i]).map byteC ++ rest, v + 1⟩) hid)); (conv => whnf))
      ((conv in (Nat.ble _ _) => tactic => exact (show Nat.ble (0 + ((l.length : Int) - 1 - i).toNat * 1 + 1) ((cur.set i cur[cur.length - 1 - i]).map byteC ++ rest).length = true by rw [Nat.ble_eq]; simp; omega)); (conv => whnf))
      refine ⟨rfl, ?_, trivial⟩
      show (H.set id ⟨T, (cur.set i cur[cur.length - 1 - i]).map byteC ++ rest, v + 1⟩).set id ⟨T, setCells (0 + ((l.length : Int) - 1 - i).toNat * 1) [byteC cur[i]] ((cur.set i cur[cur.length - 1 - i]).map byteC ++ rest), v + 1 + 1⟩ = H.set id _
      have e : 0 + ((l.length : Int) - 1 - i).toNat * 1 = cur.length - 1 - i := by omega
      rw [List.set_set, e, setCells_app (cur.set i cur[cur.length - 1 - i]) rest (cur.length - 1 - i) cur[i] (by simpa using hj)]
    (conv => whnf)
    refine ⟨⟨i + 1, (cur.set i cur[cur.length - 1 - i]).set (cur.length - 1 - i) cur[i], v + 1 + 1⟩, ⟨?_, ?_, ?_⟩, ⟨rfl, ?_, ?_, trivial⟩, rfl, ?_⟩
    · show i + 1 ≤ l.length; omega
    · show List.length _ = _; simp; exact h2
    · intro k hk
      show ((cur.set i _).set _ _)[k]? = if k < i + 1 ∨ l.length - (i + 1) ≤ k then _ else _
      have h3k := h3 k hk
      have h3k : cur[k]? = if k < i ∨ l.length - i ≤ k then l[l.length - 1 - k]? else l[k]? := h3k
      have h3i : cur[i]? = if i < i ∨ l.length - i ≤ i then l[l.length - 1 - i]? else l[i]? := h3 i (by omega)
      have h3j : cur[cur.length - 1 - i]? = if cur.length - 1 - i < i ∨ l.length - i ≤ cur.length - 1 - i then l[l.length - 1 - (cur.length - 1 - i)]? else l[cur.length - 1 - i]? := h3 _ (by omega)
      rw [if_neg (by omega), List.getElem?_eq_getElem hi] at h3i
      rw [if_neg (by omega), List.getElem?_eq_getElem hj] at h3j
      simp only [List.getElem?_set]
      by_cases e1 : cur.length - 1 - i = k
      · subst e1
        rw [if_pos rfl, if_pos (by simpa using hj), if_pos (by omega), h3i]
        congr 1; omega
      · rw [if_neg e1]
        by_cases e2 : i = k
        · subst e2
          rw [if_pos rfl, if_pos hi, if_pos (by omega), h3j]
          congr 1; omega
        · rw [if_neg e2, h3k]
          by_cases e3 : k < i ∨ l.length - i ≤ k
          · rw [if_pos e3, if_pos (by omega)]
          · rw [if_neg e3, if_neg (by omega)]
    · show PV.int _ (IntKind.i64.wrap ((i : Int) + 1)) = PV.int _ _
      rw [wrap64 (by omega) (by omega)]; simp
    · show PV.int _ (IntKind.i64.wrap ((l.length : Int) - 1 - i - 1)) = PV.int _ ((l.length : Int) - 1 - ((i + 1 : Nat) : Int))
      rw [wrap64 (by omega) (by omega)]; congr 1; omega
    · show l.length - (i + 1) < l.length - i
      omega
  · (conv => whnf)
    have h2 : cur.length = l.length := h2
    have h4 : ¬ (i : Int) < (l.length : Int) - 1 - i := h4
    have h1 : i ≤ l.length := h1
    refine ⟨rfl, v, ?_⟩
    have hc : cur = l.reverse := by
      apply List.ext_getElem?
      intro k
      rcases Nat.lt_or_ge k l.length with hk | hk
      · have h3k : cur[k]? = if k < i ∨ l.length - i ≤ k then l[l.length - 1 - k]? else l[k]? := h3 k hk
        rw [h3k, List.getElem?_reverse hk]
        by_cases e3 : k < i ∨ l.length - i ≤ k
        · rw [if_pos e3]
        · rw [if_neg e3]; congr 1; omega
      · rw [List.getElem?_eq_none (by omega), List.getElem?_eq_none (by simpa using hk)]
    show H.set id ⟨T, cur.map byteC ++ rest, v⟩ = _
    rw [hc]
end Go.Proofs.Tryz

set_option maxRecDepth 100000
set_option linter.unusedVariables false
namespace Go.Proofs.Tryz
open Go Ps
theorem u8w (n : Nat) : IntKind.u8.wrap (n : Int) = ((UInt8.ofNat n).toNat : Int) := by
  rw [UInt8.toNat_ofNat']
  simp [IntKind.wrap, IntKind.signed, IntKind.bits]
theorem shr8 (n : Nat) : ishr .i64 (n : Int) 8 = ((n / 256 : Nat) : Int) := by
  show Int.fdiv (n : Int) (2 ^ (min (Int.toNat 8) 64)) = _
  rw [show (2 : Int) ^ (min (Int.toNat 8) 64) = 256 from rfl, Int.fdiv_eq_ediv_of_nonneg _ (by decide)]
  omega
/-- A length's bytes. -/
def lenB (n : Nat) : List UInt8 := if n < 128 then [UInt8.ofNat n] else if n ≤ 255 then [129, UInt8.ofNat n] else [130, UInt8.ofNat (n / 256), UInt8.ofNat n]
theorem lenB_len (n : Nat) : (lenB n).length ≤ 3 := by unfold lenB; split <;> (try split) <;> simp
theorem c128 (n : Nat) (hn : n ≤ 1099511627776) (H : PH) : CallOk prog 128 [.int .i64 n] H fun r H' => r = .slice (lenB n).length ((lenB n).map byteC) (some 5) ∧ H' = H := by
  (refine callOk_of_pFun2 (tt := ttB) (imm := imm128) follows ttB_ok depth6 func128 (by kernel_rfl) ?_; (conv => whnf))
  refine ⟨fun h => ?_, fun h => ?_⟩
  · (conv => whnf)
    have h : (n : Int) < 128 := h
    have e : lenB n = [UInt8.ofNat n] := by unfold lenB; rw [if_pos (by omega)]
    rw [e]
    refine ⟨?_, rfl⟩
    show PV.slice 1 [PV.int .u8 (IntKind.u8.wrap (n : Int))] (some 5) = PV.slice 1 [PV.int .u8 ((UInt8.ofNat n).toNat : Int)] (some 5)
    rw [u8w]
  · (conv => whnf)
    have h : ¬ (n : Int) < 128 := h
    refine ⟨fun h2 => ?_, fun h2 => ?_⟩
    · (conv => whnf)
      have h2 : (n : Int) ≤ 255 := h2
      have e : lenB n = [129, UInt8.ofNat n] := by unfold lenB; rw [if_neg (by omega), if_pos (by omega)]
      rw [e]
      refine ⟨?_, rfl⟩
      show PV.slice 2 [PV.int .u8 129, PV.int .u8 (IntKind.u8.wrap (n : Int))] (some 5) = PV.slice 2 [PV.int .u8 129, PV.int .u8 ((UInt8.ofNat n).toNat : Int)] (some 5)
      rw [u8w]
    · (conv => whnf)
      have h2 : ¬ (n : Int) ≤ 255 := h2
      have e : lenB n = [130, UInt8.ofNat (n / 256), UInt8.ofNat n] := by unfold lenB; rw [if_neg (by omega), if_neg (by omega)]
      rw [e]
      refine ⟨by decide, ?_⟩
      (conv => whnf)
      refine ⟨?_, rfl⟩
      show PV.slice 3 [PV.int .u8 130, PV.int .u8 (IntKind.u8.wrap (ishr .i64 (n : Int) 8)), PV.int .u8 (IntKind.u8.wrap (n : Int))] (some 5) = PV.slice 3 [PV.int .u8 130, PV.int .u8 ((UInt8.ofNat (n / 256)).toNat : Int), PV.int .u8 ((UInt8.ofNat n).toNat : Int)] (some 5)
      rw [shr8, u8w, u8w]
/-- An element. -/
def wrapB (tag : UInt8) (b : List UInt8) : List UInt8 := tag :: (lenB b.length ++ b)
theorem c64 (tag : UInt8) (ls : List (List UInt8)) (hn : ls.length ≤ 1099511627776) (ht : ls.flatten.length ≤ 1099511627000) {H : PH} {cs : List PV} (hr : Reps H cs ls) :
    CallOk prog 64 [byteC tag, .slice ls.length cs none] H fun r H' => r = sl (wrapB tag ls.flatten) ∧ H' = H := by
  (refine callOk_of_pFun2 (tt := ttB) (imm := imm64) follows ttB_ok depth6 func64 (by kernel_rfl) ?_; (conv => whnf))
  refine callK_of (c127 ls hn (by omega) hr) ?_
  rintro r H' ⟨rfl, rfl⟩
  (conv => whnf)
  refine callK_of (c128 ls.flatten.length (by omega) H') ?_
  rintro r H'' ⟨rfl, rfl⟩
  (conv => whnf)
  have hl := lenB_len ls.flatten.length
  refine callK_of (c127 [[tag], lenB ls.flatten.length, ls.flatten] (by show 3 ≤ _; omega) (by simp only [List.flatten_cons, List.flatten_nil, List.length_append, List.length_cons, List.length_nil]; omega) (Reps.sl H'' [[tag], lenB ls.flatten.length, ls.flatten])) ?_
  rintro r H3 ⟨rfl, rfl⟩
  (conv => whnf)
  refine ⟨?_, rfl⟩
  show sl [[tag], lenB ls.flatten.length, ls.flatten].flatten = _
  congr 1
  simp [wrapB]
theorem c66 (p : List UInt8) (hp : p.length ≤ 1099511627000) (H : PH) : CallOk prog 66 [sl p] H fun r H' => r = sl (wrapB 4 p) ∧ H' = H := by
  (refine callOk_of_pFun2 (tt := ttB) (imm := imm66) follows ttB_ok depth6 func66 (by kernel_rfl) ?_; (conv => whnf))
  refine callK_of (c64 4 [p] (by show 1 ≤ _; omega) (by simpa using hp) (Reps.sl H [p])) ?_
  rintro r H' ⟨rfl, rfl⟩
  (conv => whnf)
  refine ⟨?_, rfl⟩
  show sl (wrapB 4 [p].flatten) = _
  rw [List.flatten_cons, List.flatten_nil, List.append_nil]
theorem c67 (p : List UInt8) (hp : p.length ≤ 1099511627000) (H : PH) : CallOk prog 67 [.str p] H fun r H' => r = sl (wrapB 27 p) ∧ H' = H := by
  (refine callOk_of_pFun2 (tt := ttB) (imm := imm67) follows ttB_ok depth6 func67 (by kernel_rfl) ?_; (conv => whnf))
  refine ⟨by omega, ?_⟩
  (conv => whnf)
  refine callK_of (c64 27 [p] (by show 1 ≤ _; omega) (by simpa using hp) (Reps.sl H [p])) ?_
  rintro r H' ⟨rfl, rfl⟩
  (conv => whnf)
  refine ⟨?_, rfl⟩
  show sl (wrapB 27 [p].flatten) = _
  rw [List.flatten_cons, List.flatten_nil, List.append_nil]
end Go.Proofs.Tryz

set_option maxRecDepth 100000
set_option linter.unusedVariables false
namespace Go.Proofs.Tryz
open Go Ps
def le : Nat → Nat → List UInt8
  | 0, _ => []
  | f + 1, n => if n = 0 then [] else UInt8.ofNat n :: le f (n / 256)
theorem le_zero (f : Nat) : le f 0 = [] := by cases f <;> simp [le]
theorem le_len : ∀ (f n : Nat), (le f n).length ≤ f
  | 0, _ => by simp [le]
  | f + 1, n => by
    unfold le
    split
    · simp
    · have := le_len f (n / 256)
      simp; omega
def clampI (n : Int) : Nat := (min (max n 0) 4611686018427387904).toNat
def padB (b : List UInt8) : List UInt8 := if b = [] ∨ 128 ≤ (b.getLast?.getD 0).toNat then b ++ [0] else b
def intB (n : Nat) : List UInt8 := (padB (le 9 n)).reverse
structure InS where
  m : Nat
  H : PH
  v : PV
  d : List UInt8
def bOk (H0 : PH) (d : List UInt8) (H : PH) (v : PV) : Prop :=
  (d = [] ∧ v = .nilS) ∨ (d ≠ [] ∧ ∃ id cap T ver rest, v = .sref id 0 d.length cap ∧ H0.length ≤ id ∧ H[id]? = some ⟨T, d.map byteC ++ rest, ver⟩ ∧ d.length + rest.length = cap)
theorem oldPs_bytes : ∀ (b : List UInt8), oldPs (b.map byteC) = true
  | [] => rfl
  | _ :: b => oldPs_bytes b
theorem set_app (cs : List UInt8) (rest : List PV) (x : UInt8) (h : 0 < rest.length) : setCells (cs.length * 1) [byteC x] (cs.map byteC ++ rest) = (cs ++ [x]).map byteC ++ rest.drop 1 := by
  rw [setCells_eq _ _ _ (by simp; omega), Nat.mul_one]
  rw [List.take_append_of_le_length (by simp), List.take_of_length_le (by simp), List.drop_append, List.drop_of_length_le (by simp)]
  simp
/-- One byte more. -/
theorem bOk_add {H0 H : PH} {d : List UInt8} {v : PV} (hx : Ext H0 H) (h : bOk H0 d H v) (x : UInt8) (hd : d.length ≤ 100) {E : Env} {K : PV → PH → Prop}
    (hk : ∀ v' H', Ext H0 H' → bOk H0 (d ++ [x]) H' v' → (∃ id cap, v' = .sref id 0 (d.length + 1) cap) → K v' H') :
    (d = [] → ∀ cap', 1 ≤ cap' → K (.sref H.length 0 1 cap') (H ++ [⟨5, [byteC x] ++ zerosOf [PV.int .u8 0] (cap' - 1), 0⟩])) ∧
    (∀ id cap T ver rest, v = .sref id 0 d.length cap → H0.length ≤ id → H[id]? = some ⟨T, d.map byteC ++ rest, ver⟩ → d.length + rest.length = cap →
      (d.length + 1 ≤ cap → K (.sref id 0 (d.length + 1) cap) (H.set id ⟨T, setCells (d.length * 1) [byteC x] (d.map byteC ++ rest), ver + 1⟩)) ∧
      (cap < d.length + 1 → ∀ cap', d.length + 1 ≤ cap' → K (.sref H.length 0 (d.length + 1) cap') (H ++ [⟨5, ((d.map byteC ++ rest).take (d.length * 1)).map dem ++ [byteC x] ++ zerosOf [PV.int .u8 0] (cap' - (d.length + 1)), 0⟩]))) := by
  have hz : ∀ n, (zerosOf [PV.int .u8 0] n).length = n := fun n => by rw [(zerosOf_get (z := [PV.int .u8 0]) (sz := 1) rfl (by omega) n).1]; omega
  refine ⟨fun h0 cap' hc => ?_, fun id cap T ver rest hv hid ho hcap => ⟨fun hroom => ?_, fun hgrow cap' hc => ?_⟩⟩
  · subst h0
    exact hk _ _ (hx.push _) (.inr ⟨by simp, H.length, cap', 5, 0, zerosOf [PV.int .u8 0] (cap' - 1), rfl, hx.len, get_last _ _, by rw [hz]; simp; omega⟩) ⟨_, _, rfl⟩
  · have hr : 0 < rest.length := by omega
    rw [set_app _ _ _ hr]
    exact hk _ _ (hx.set hid _) (.inr ⟨by simp, id, cap, T, ver + 1, rest.drop 1, by rw [List.length_append]; rfl, hid, get_set ho, by rw [List.length_append, List.length_drop]; show d.length + 1 + (rest.length - 1) = cap; omega⟩) ⟨_, _, rfl⟩
  · have e : ((d.map byteC ++ rest).take (d.length * 1)).map dem ++ [byteC x] = (d ++ [x]).map byteC := by
      rw [Nat.mul_one, take_pre (by rw [List.length_map]), List.map_map, List.map_append]; rfl
    rw [e]
    exact hk _ _ (hx.push _) (.inr ⟨by simp, H.length, cap', 5, 0, _, by rw [List.length_append]; rfl, hx.len, get_last _ _, by rw [hz, List.length_append]; show d.length + 1 + (cap' - (d.length + 1)) = cap'; omega⟩) ⟨_, _, rfl⟩
theorem rep_one {H : PH} {id T v n cap : Nat} {x : List UInt8} {rest : List PV} (hid : H[id]? = some ⟨T, x.map byteC ++ rest, v⟩) (hn : n = x.length) : Reps H [.sref id 0 n cap] [x] := by
  refine ⟨rfl, fun i c b hc hb => ?_⟩
  match i with
  | 0 =>
    simp at hc hb
    subst hc; subst hb; subst hn
    refine .inr ⟨id, 0, cap, _, rfl, hid, ?_⟩
    show (((x.map byteC ++ rest).drop 0).take (x.length * 1)).map dem = _
    rw [List.drop_zero, Nat.mul_one, take_pre (by rw [List.length_map]), List.map_map]; rfl
  | i + 1 => simp at hc
theorem c68x (n : Int) (H0 : PH) : CallOk prog 68 [.int .i64 n] H0 fun r H' => r = sl (wrapB 2 (intB (clampI n))) ∧ ∃ ext, H' = H0 ++ ext := by
  (refine callOk_of_pFun2 (tt := ttB) (imm := imm68) follows ttB_ok depth6 func68 (by kernel_rfl) ?_; (conv => whnf))
  have hN : min (max n 0) 4611686018427387904 = (clampI n : Int) := by unfold clampI; omega
  have hN2 : clampI n ≤ 4611686018427387904 := by unfold clampI; omega
  refine loopK_of InS (fun x => [(0, .int .i64 x.m), (3, x.v)]) (fun x => x.H)
    (fun x => ∃ f, x.d ++ le f x.m = le 9 (clampI n) ∧ x.m < 256 ^ f ∧ x.m ≤ 4611686018427387904 ∧ Ext H0 x.H ∧ bOk H0 x.d x.H x.v) (fun x => x.m)
    ⟨⟨clampI n, H0, .nilS, []⟩, ⟨9, rfl, by show clampI n < 256 ^ 9; omega, hN2, Ext.refl _, .inl ⟨rfl, rfl⟩⟩, ⟨congrArg (PV.int .i64) hN, rfl, trivial⟩, rfl⟩ ?_
  rintro ⟨m, H, v, d⟩ ⟨f, g1, g2, g3, g4, g5⟩
  have g1 : d ++ le f m = le 9 (clampI n) := g1
  have g2 : m < 256 ^ f := g2
  have g3 : m ≤ 4611686018427387904 := g3
  have g4 : Ext H0 H := g4
  have g5 : bOk H0 d H v := g5
  have hd9 : d.length ≤ 9 := by
    have := le_len 9 (clampI n)
    rw [← g1, List.length_append] at this
    omega
  (conv => whnf)
  refine ⟨fun h => ?_, fun h => ?_⟩
  · (conv => whnf)
    have h : (m : Int) > 0 := h
    have hf : ∃ f', f = f' + 1 := by
      cases f with
      | zero => simp at g2; omega
      | succ f => exact ⟨f, rfl⟩
    obtain ⟨f, rfl⟩ := hf
    have hle : le (f + 1) m = UInt8.ofNat m :: le f (m / 256) := by
      conv => lhs; unfold le
      rw [if_neg (by omega)]
    have hlast : ∀ (E : Env) (H' : PH) (v' : PV), subE [(0, .int .i64 (ishr .i64 (m : Int) 8)), (3, v')] E → Ext H0 H' → bOk H0 (d ++ [UInt8.ofNat m]) H' v' →
        ∃ s' : InS, (∃ f, s'.d ++ le f s'.m = le 9 (clampI n) ∧ s'.m < 256 ^ f ∧ s'.m ≤ 4611686018427387904 ∧ Ext H0 s'.H ∧ bOk H0 s'.d s'.H s'.v) ∧ subE [(0, .int .i64 s'.m), (3, s'.v)] E ∧ H' = s'.H ∧ s'.m < m := by
      intro E H' v' hE hx hb
      rw [shr8] at hE
      refine ⟨⟨m / 256, H', v', d ++ [UInt8.ofNat m]⟩, ⟨f, ?_, ?_, by show m / 256 ≤ _; omega, hx, hb⟩, hE, rfl, by show m / 256 < m; omega⟩
      · show d ++ [UInt8.ofNat m] ++ le f (m / 256) = _
        rw [← g1, hle]; simp
      · show m / 256 < 256 ^ f
        rw [Nat.div_lt_iff_lt_mul (by omega), ← Nat.pow_succ]; exact g2
    obtain ⟨A, B⟩ := bOk_add (E := []) (K := fun v' H' => Ext H0 H' ∧ bOk H0 (d ++ [UInt8.ofNat m]) H' v') g4 g5 (UInt8.ofNat m) (by omega) fun v' H' a b _ => ⟨a, b⟩
    have hbw : PV.int .u8 (IntKind.u8.wrap (m : Int)) = byteC (UInt8.ofNat m) := congrArg (PV.int .u8) (u8w m)
    rcases g5 with ⟨rfl, rfl⟩ | ⟨y1, id, cap, T, ver, rest, rfl, y2, y3, y4⟩
    · (conv => whnf)
      rw [hbw]
      refine ⟨⟨by show 1 * 1 ≤ _; omega, rfl, rfl⟩, fun h => absurd h (by omega), fun _ cap' hc => ?_⟩
      (conv => whnf)
      refine ⟨by decide, ?_⟩
      (conv => whnf)
      exact hlast _ _ _ ⟨rfl, rfl, trivial⟩ (A rfl cap' hc).1 (A rfl cap' hc).2
    · (conv => whnf)
      rw [hbw]
      ((conv in (_[_]?) => tactic => exact y3); (conv => whnf))
      obtain ⟨B1, B2⟩ := B id cap T ver rest rfl y2 y3 y4
      refine ⟨⟨rfl, by show (d.length + 1) * 1 ≤ _; omega, rfl, rfl, by show d.length * 1 ≤ (d.map byteC ++ rest).length; simp⟩, fun hroom => ⟨by show (d.length + 1) * 1 ≤ (d.map byteC ++ rest).length; rw [List.length_append, List.length_map]; omega, ?_⟩, fun hgrow cap' hc => ?_⟩
      · (conv => whnf)
        refine ⟨by decide, ?_⟩
        (conv => whnf)
        exact hlast _ _ _ ⟨rfl, rfl, trivial⟩ (B1 hroom).1 (B1 hroom).2
      · (conv => whnf)
        refine ⟨by decide, ?_⟩
        (conv => whnf)
        exact hlast _ _ _ ⟨rfl, rfl, trivial⟩ (B2 hgrow cap' hc).1 (B2 hgrow cap' hc).2
  · (conv => whnf)
    have h : ¬ (m : Int) > 0 := h
    have hm : m = 0 := by omega
    subst hm
    rw [le_zero, List.append_nil] at g1
    have k4 : Ext H0 H := g4
    have k5 : bOk H0 d H v := g5
    have k1 : d = le 9 (clampI n) := g1
    clear g1 g2 g3 g4 g5 h
    obtain ⟨A, B⟩ := bOk_add (H0 := H0) (H := H) (d := d) (v := v) (E := []) (K := fun v' H' => Ext H0 H' ∧ bOk H0 (d ++ [0]) H' v') k4 k5 0 (by omega) fun v' H' a b _ => ⟨a, b⟩
    rcases k5 with ⟨rfl, rfl⟩ | ⟨y1, id, cap, T, ver, rest, rfl, y2, y3, y4⟩
    · have hpad : padB (le 9 (clampI n)) = [0] := by rw [← k1]; rfl
      (conv => whnf)
      refine ⟨fun _ => ?_, fun h => absurd rfl h⟩
      (conv => whnf)
      refine ⟨⟨by show 1 * 1 ≤ _; omega, rfl, rfl⟩, fun h => absurd h (by omega), fun _ cap' hc => ?_⟩
      (conv => whnf)
      refine callK_of (c129 H.length 1 cap' [0] (zerosOf [PV.int .u8 0] (cap' - 1)) 5 0 (H ++ [PObj.mk 5 ([byteC 0] ++ zerosOf [PV.int .u8 0] (cap' - 1)) 0]) (get_last _ _) (by simp) (by first | omega | (simp; omega) | simp)) ?_
      rintro r H' ⟨rfl, v', rfl⟩
      (conv => whnf)
      refine callK_of (c64 2 [([0]).reverse] (cs := [.sref H.length 0 (1) cap']) (by show 1 ≤ _; omega) (by first | omega | (simp; omega) | simp) (rep_one (get_set (get_last _ _)) (by simp))) ?_
      rintro r H'' ⟨rfl, rfl⟩
      (conv => whnf)
      refine ⟨?_, (k4.push _).set k4.len _⟩
      show sl (wrapB 2 [([0]).reverse].flatten) = sl (wrapB 2 (intB (clampI n)))
      rw [List.flatten_cons, List.flatten_nil, List.append_nil]
      unfold intB
      rw [hpad]
    · have hdl : 0 < d.length := List.length_pos_iff.2 y1
      have hlst : d[d.length - 1]? = some (d.getLast?.getD 0) := by
        rw [List.getLast?_eq_getElem?, List.getElem?_eq_getElem (by omega)]; rfl
      have hpad : padB (le 9 (clampI n)) = if 128 ≤ (d.getLast?.getD 0).toNat then d ++ [0] else d := by
        rw [← k1]; unfold padB
        simp only [y1, false_or]
      have hidx : (0 + (((d.length : Int) - 1)).toNat * 1) = 0 + ((d.length - 1 : Nat) : Int).toNat * 1 := by omega
      obtain ⟨B1, B2⟩ := B id cap T ver rest rfl y2 y3 y4
      (conv => whnf)
      refine ⟨fun h => absurd (show (d.length : Int) = 0 from h) (by omega), fun _ => ?_⟩
      (conv => whnf)
      have hw1 : IntKind.i64.wrap ((d.length : Int) - 1) = (d.length : Int) - 1 := by rw [wrap64 (by omega) (by omega)]
      refine ⟨⟨by show 0 ≤ IntKind.i64.wrap ((d.length : Int) - 1); rw [hw1]; omega, by show IntKind.i64.wrap ((d.length : Int) - 1) < d.length; rw [hw1]; omega⟩, ?_⟩
      (conv => whnf)
      ((conv in (_[_]?) => tactic => exact y3); (conv => whnf))
      rw [hw1]
      ((conv in (dropN _ _) => tactic => exact (show dropN (0 + ((d.length : Int) - 1).toNat * 1) (d.map byteC ++ rest) = byteC (d.getLast?.getD 0) :: ((d.drop (d.length - 1 + 1)).map byteC ++ rest) by rw [hidx]; exact dropN_app d rest hlst)); (conv => whnf))
      refine ⟨fun h128 => ?_, fun h128 => ?_⟩
      · have h128 : (128 : Int) ≤ ((d.getLast?.getD 0).toNat : Int) := h128
        rw [if_pos (by omega)] at hpad
        (conv => whnf)
        ((conv in (_[_]?) => tactic => exact y3); (conv => whnf))
        refine ⟨⟨rfl, by show (d.length + 1) * 1 ≤ _; omega, rfl, rfl, by show d.length * 1 ≤ (d.map byteC ++ rest).length; simp⟩, fun hroom => ⟨by show (d.length + 1) * 1 ≤ (d.map byteC ++ rest).length; rw [List.length_append, List.length_map]; omega, ?_⟩, fun hgrow cap' hc => ?_⟩
        · (conv => whnf)
          have hs := set_app d rest 0 (by omega)
          have hid2 : (H.set id (PObj.mk T (setCells (d.length * 1) [byteC 0] (d.map byteC ++ rest)) (ver + 1)))[id]? = some ⟨T, (d ++ [0]).map byteC ++ rest.drop 1, ver + 1⟩ := by rw [hs]; exact get_set y3
          refine callK_of (c129 id (d.length + 1) cap (d ++ [0]) (rest.drop 1) T (ver + 1) (H.set id (PObj.mk T (setCells (d.length * 1) [byteC 0] (d.map byteC ++ rest)) (ver + 1))) hid2 (by simp) (by first | omega | (simp; omega) | simp)) ?_
          rintro r H' ⟨rfl, v', rfl⟩
          (conv => whnf)
          refine callK_of (c64 2 [((d ++ [0])).reverse] (cs := [.sref id 0 ((d.length + 1)) cap]) (by show 1 ≤ _; omega) (by first | omega | (simp; omega) | simp) (rep_one (get_set hid2) (by simp))) ?_
          rintro r H'' ⟨rfl, rfl⟩
          (conv => whnf)
          refine ⟨?_, (k4.set y2 _).set y2 _⟩
          show sl (wrapB 2 [((d ++ [0])).reverse].flatten) = sl (wrapB 2 (intB (clampI n)))
          rw [List.flatten_cons, List.flatten_nil, List.append_nil]
          unfold intB
          rw [hpad]
        · (conv => whnf)
          have hz : ((d.map byteC ++ rest).take (d.length * 1)).map dem ++ [byteC 0] = (d ++ [0]).map byteC := by
            rw [Nat.mul_one, take_pre (by rw [List.length_map]), List.map_map, List.map_append]; rfl
          have hid2 : (H ++ [PObj.mk 5 (((d.map byteC ++ rest).take (d.length * 1)).map dem ++ [byteC 0] ++ zerosOf [PV.int .u8 0] (cap' - (d.length + 1))) 0])[H.length]? = some ⟨5, (d ++ [0]).map byteC ++ zerosOf [PV.int .u8 0] (cap' - (d.length + 1)), 0⟩ := by rw [hz]; exact get_last _ _
          refine callK_of (c129 H.length (d.length + 1) cap' (d ++ [0]) (zerosOf [PV.int .u8 0] (cap' - (d.length + 1))) 5 0 (H ++ [PObj.mk 5 (((d.map byteC ++ rest).take (d.length * 1)).map dem ++ [byteC 0] ++ zerosOf [PV.int .u8 0] (cap' - (d.length + 1))) 0]) hid2 (by simp) (by first | omega | (simp; omega) | simp)) ?_
          rintro r H' ⟨rfl, v', rfl⟩
          (conv => whnf)
          refine callK_of (c64 2 [((d ++ [0])).reverse] (cs := [.sref H.length 0 ((d.length + 1)) cap']) (by show 1 ≤ _; omega) (by first | omega | (simp; omega) | simp) (rep_one (get_set hid2) (by simp))) ?_
          rintro r H'' ⟨rfl, rfl⟩
          (conv => whnf)
          refine ⟨?_, (k4.push _).set k4.len _⟩
          show sl (wrapB 2 [((d ++ [0])).reverse].flatten) = sl (wrapB 2 (intB (clampI n)))
          rw [List.flatten_cons, List.flatten_nil, List.append_nil]
          unfold intB
          rw [hpad]
      · have h128 : ¬ (128 : Int) ≤ ((d.getLast?.getD 0).toNat : Int) := h128
        rw [if_neg (by omega)] at hpad
        (conv => whnf)
        refine callK_of (c129 id d.length cap d rest T ver H y3 (by simp) (by first | omega | (simp; omega) | simp)) ?_
        rintro r H' ⟨rfl, v', rfl⟩
        (conv => whnf)
        refine callK_of (c64 2 [(d).reverse] (cs := [.sref id 0 (d.length) cap]) (by show 1 ≤ _; omega) (by first | omega | (simp; omega) | simp) (rep_one (get_set y3) (by simp))) ?_
        rintro r H'' ⟨rfl, rfl⟩
        (conv => whnf)
        refine ⟨?_, k4.set y2 _⟩
        show sl (wrapB 2 [(d).reverse].flatten) = sl (wrapB 2 (intB (clampI n)))
        rw [List.flatten_cons, List.flatten_nil, List.append_nil]
        unfold intB
        rw [hpad]
theorem c68 (n : Int) : Pure prog 68 [.int .i64 n] (sl (wrapB 2 (intB (clampI n)))) := Pure.of_gc (oldPs_bytes _) (c68x n)
end Go.Proofs.Tryz

set_option maxRecDepth 100000
set_option linter.unusedVariables false
namespace Go.Proofs.Tryz
open Go Ps
def ttG : TT := [(3, ⟨.int .i64, 1, 8, [.int .i64 0]⟩), (4, ⟨.bool, 1, 1, [.bool false]⟩), (5, ⟨.int .u8, 1, 1, [.int .u8 0]⟩), (9, ⟨.str, 1, 16, [.str []]⟩), (24, ⟨.strct [(9, 0), (9, 1)], 2, 32, [.str [], .str []]⟩), (35, ⟨.int .i64, 1, 8, [.int .i64 0]⟩), (200, ⟨.slice 3, 1, 24, [.slice 0 [] (some 3)]⟩), (22, ⟨.slice 5, 1, 24, [.slice 0 [] (some 5)]⟩), (26, ⟨.strct [(24, 0), (24, 2), (3, 4), (3, 5)], 6, 80, [.str [], .str [], .str [], .str [], .int .i64 0, .int .i64 0]⟩), (28, ⟨.strct [(24, 0), (3, 2), (22, 3)], 4, 64, [.str [], .str [], .int .i64 0, .slice 0 [] (some 5)]⟩), (30, ⟨.strct [(28, 0), (22, 4), (24, 5), (3, 7), (3, 8)], 9, 136, [.str [], .str [], .int .i64 0, .slice 0 [] (some 5), .slice 0 [] (some 5), .str [], .str [], .int .i64 0, .int .i64 0]⟩), (32, ⟨.strct [(24, 0), (28, 2), (22, 6)], 7, 120, [.str [], .str [], .str [], .str [], .int .i64 0, .slice 0 [] (some 5), .slice 0 [] (some 5)]⟩), (34, ⟨.strct [(28, 0), (22, 4)], 5, 88, [.str [], .str [], .int .i64 0, .slice 0 [] (some 5), .slice 0 [] (some 5)]⟩), (37, ⟨.strct [(35, 0), (3, 1)], 2, 16, [.int .i64 0, .int .i64 0]⟩), (39, ⟨.strct [(3, 0), (26, 1), (30, 7), (32, 16), (34, 23), (37, 28)], 30, 448, [.int .i64 0, .str [], .str [], .str [], .str [], .int .i64 0, .int .i64 0, .str [], .str [], .int .i64 0, .slice 0 [] (some 5), .slice 0 [] (some 5), .str [], .str [], .int .i64 0, .int .i64 0, .str [], .str [], .str [], .str [], .int .i64 0, .slice 0 [] (some 5), .slice 0 [] (some 5), .str [], .str [], .int .i64 0, .slice 0 [] (some 5), .slice 0 [] (some 5), .int .i64 0, .int .i64 0]⟩), (201, ⟨.slice 22, 1, 24, [.slice 0 [] (some 22)]⟩)]
theorem ttG_ok : ttOk prog ttG = true := by kernel_rfl
def imm119 : List Nat := []
def imm75 : List Nat := []
def imm118 : List Nat := []
def imm117 : List Nat := [1]
def imm63 : List Nat := []
def imm154 : List Nat := [1]
def imm120 : List Nat := [1]
def imm58 : List Nat := [1]
def imm14 : List Nat := [1]
def imm59 : List Nat := []
def imm60 : List Nat := [1]
def imm65 : List Nat := [1]
def imm121 : List Nat := [1]
def imm13 : List Nat := []
def inZ (n lo hi : Int) : Bool := decide (lo ≤ n) && decide (n ≤ hi)
def slo (b : List UInt8) (o : Option Nat) : PV := .slice b.length (b.map byteC) o
theorem c119 (n lo hi : Int) : Pure prog 119 [.int .i64 n, .int .i64 lo, .int .i64 hi] (.bool (inZ n lo hi)) := by
  intro H
  (refine callOk_of_pFun2 (tt := ttG) (imm := imm119) follows ttG_ok depth6 func119 (by kernel_rfl) ?_; (conv => whnf))
  unfold inZ
  refine ⟨fun h => ?_, fun h => ?_⟩
  · (conv => whnf)
    have h : n ≥ lo := h
    rw [decide_eq_true (show lo ≤ n by omega)]
    refine ⟨fun h2 => ?_, fun h2 => ?_⟩
    · (conv => whnf)
      rw [decide_eq_true h2]
      exact ⟨rfl, rfl⟩
    · (conv => whnf)
      rw [decide_eq_false h2]
      exact ⟨rfl, rfl⟩
  · (conv => whnf)
    have h : ¬ n ≥ lo := h
    rw [decide_eq_false (show ¬ lo ≤ n by omega)]
    exact ⟨rfl, rfl⟩
theorem c75 (n : Int) : Pure prog 75 [.int .i64 n] (.bool (inZ n 0 1073741824)) := by
  intro H
  (refine callOk_of_pFun2 (tt := ttG) (imm := imm75) follows ttG_ok depth6 func75 (by kernel_rfl) ?_; (conv => whnf))
  (refine callK_pure ((c119 n 0 1073741824)) ?_; try (conv => whnf))
  exact ⟨rfl, rfl⟩
theorem c118 (n : Nat) (cs : List PV) (o : Option Nat) : Pure prog 118 [.slice n cs o] (.bool (inZ n 1 800)) := by
  intro H
  (refine callOk_of_pFun2 (tt := ttG) (imm := imm118) follows ttG_ok depth6 func118 (by kernel_rfl) ?_; (conv => whnf))
  (refine callK_pure ((c119 n 1 800)) ?_; try (conv => whnf))
  exact ⟨rfl, rfl⟩
theorem c63 (l : List Int) (hl : l.length ≤ 1000) : Pure prog 63 [.slice l.length (l.map (.int .i64)) none] (.bool (l.all fun n => inZ n 0 1073741824)) := by
  intro H
  (refine callOk_of_pFun2 (tt := ttG) (imm := imm63) follows ttG_ok depth6 func63 (by kernel_rfl) ?_; (conv => whnf))
  refine loopK_of CoS (fun x => [(5, .slice l.length (l.map (.int .i64)) none), (6, .int .i64 l.length), (7, .int .i64 x.k)]) (fun _ => H) (fun x => x.k ≤ l.length ∧ (l.take x.k).all (fun n => inZ n 0 1073741824) = true) (fun x => l.length - x.k)
    ⟨⟨0⟩, ⟨Nat.zero_le _, rfl⟩, ⟨rfl, rfl, rfl, trivial⟩, rfl⟩ ?_
  rintro ⟨k⟩ ⟨hk, hall⟩
  have hk : k ≤ l.length := hk
  have hall : (l.take k).all (fun n => inZ n 0 1073741824) = true := hall
  (conv => whnf)
  refine ⟨fun h => ?_, fun h => ?_⟩
  · (conv => whnf)
    have h : (k : Int) < l.length := h
    have hi : k < l.length := by omega
    refine ⟨⟨by show (0 : Int) ≤ (k : Int); omega, h⟩, [.int .i64 l[k]], fun j c hj => ?_, ?_⟩
    · match j with
      | 0 =>
        have hj : some (PV.int .i64 l[k]) = some c := hj
        show (l.map (PV.int .i64))[(k : Int).toNat * 1 + 0]? = _
        rw [← hj]
        simp [hi]
      | j + 1 => simp at hj
    (conv => whnf)
    refine callK_pure (c119 l[k] 0 1073741824) ?_
    cases hb : inZ l[k] 0 1073741824
    · (conv => whnf)
      refine ⟨?_, rfl⟩
      have : (l.all fun n => inZ n 0 1073741824) = false := by
        cases hc : (l.all fun n => inZ n 0 1073741824) with
        | false => rfl
        | true => rw [List.all_eq_true.1 hc _ (List.getElem_mem hi)] at hb; cases hb
      rw [this]; rfl
    · (conv => whnf)
      refine ⟨⟨k + 1⟩, ⟨by show k + 1 ≤ l.length; omega, ?_⟩, ⟨rfl, rfl, ?_, trivial⟩, rfl, by show l.length - (k + 1) < l.length - k; omega⟩
      · show (l.take (k + 1)).all (fun n => inZ n 0 1073741824) = true
        rw [List.take_succ_eq_append_getElem hi, List.all_append, hall]
        simp [hb]
      · show PV.int _ (IntKind.i64.wrap ((k : Int) + 1)) = PV.int _ ((k + 1 : Nat) : Int)
        rw [wrap64 (by omega) (by omega)]; rfl
  · (conv => whnf)
    have h : ¬ (k : Int) < l.length := h
    rw [List.take_of_length_le (by omega)] at hall
    rw [hall]
    exact ⟨rfl, rfl⟩
def tickB (r n : List UInt8) (kv : Int) (bl : Nat) : Bool := isPrincB r n && inZ kv 1 255 && inZ bl 1 800
theorem c117 (r n : List UInt8) (kv : Int) (b : List UInt8) (o : Option Nat) (hr : r.length ≤ 1099511627775) (hn : n.length ≤ 1099511627775) :
    Pure prog 117 [.agg [.str r, .str n, .int .i64 kv, slo b o]] (.bool (tickB r n kv b.length)) := by
  intro H
  (refine callOk_of_pFun2 (tt := ttG) (imm := imm117) follows ttG_ok depth6 func117 (by kernel_rfl) ?_; (conv => whnf))
  refine callK_pure (c61 r n hr hn) ?_
  unfold tickB
  cases isPrincB r n
  · (conv => whnf)
    exact ⟨rfl, rfl⟩
  · (conv => whnf)
    refine callK_pure (c119 kv 1 255) ?_
    cases inZ kv 1 255
    · (conv => whnf)
      exact ⟨rfl, rfl⟩
    · (conv => whnf)
      refine callK_pure (c118 b.length _ _) ?_
      cases inZ b.length 1 800
      · (conv => whnf)
        exact ⟨rfl, rfl⟩
      · (conv => whnf)
        exact ⟨rfl, rfl⟩
def noTk (r n : List UInt8) (kv : Int) (bl : Nat) : Bool := decide (r = [] ∧ n = []) && decide (kv = 0) && decide (bl = 0)
theorem fitG (a b : List UInt8) : FitP ttG 6 24 [.str a, .str b] := ⟨rfl, ⟨by show 1 ≤ 2; omega, a, rfl⟩, rfl, ⟨by show 1 ≤ 1; omega, b, rfl⟩, rfl⟩
theorem pr_eq {r n : List UInt8} : ([PV.str r, PV.str n] = [PV.str [], PV.str []]) ↔ (r = [] ∧ n = []) := by simp
theorem c154 (r n : List UInt8) (kv : Int) (b : List UInt8) (o : Option Nat) : Pure prog 154 [.agg [.str r, .str n, .int .i64 kv, slo b o]] (.bool (noTk r n kv b.length)) := by
  intro H
  (refine callOk_of_pFun2 (tt := ttG) (imm := imm154) follows ttG_ok depth6 func154 (by kernel_rfl) ?_; (conv => whnf))
  refine ⟨⟨fitG _ _, fitG [] []⟩, ?_⟩
  (conv => whnf)
  unfold noTk
  refine ⟨fun h => ?_, fun h => ?_⟩
  · have h : [PV.str r, PV.str n] = [PV.str [], PV.str []] := h
    rw [decide_eq_true (pr_eq.1 h)]
    (conv => whnf)
    refine ⟨fun h => ?_, fun h => ?_⟩
    · have h : kv = 0 := h
      rw [decide_eq_true h]
      (conv => whnf)
      refine ⟨fun h => ?_, fun h => ?_⟩
      · have h : (b.length : Int) = 0 := h
        rw [decide_eq_true (show b.length = 0 by omega)]
        (conv => whnf)
        exact ⟨rfl, rfl⟩
      · have h : ¬ (b.length : Int) = 0 := h
        rw [decide_eq_false (show ¬ b.length = 0 by omega)]
        (conv => whnf)
        exact ⟨rfl, rfl⟩
    · have h : ¬ kv = 0 := h
      rw [decide_eq_false h]
      (conv => whnf)
      exact ⟨rfl, rfl⟩
  · have h : ¬ [PV.str r, PV.str n] = [PV.str [], PV.str []] := h
    rw [decide_eq_false fun hh => h (pr_eq.2 hh)]
    (conv => whnf)
    exact ⟨rfl, rfl⟩
end Go.Proofs.Tryz

set_option maxRecDepth 100000
set_option linter.unusedVariables false
set_option linter.unusedSimpArgs false
namespace Go.Proofs.Tryz
open Go Ps
structure Msg where
  kind : Int
  a1 : List UInt8
  a2 : List UInt8
  a3 : List UInt8
  a4 : List UInt8
  aTill : Int
  aNonce : Int
  t1 : List UInt8
  t2 : List UInt8
  tKv : Int
  tB : List UInt8
  tBo : Option Nat
  tAu : List UInt8
  tAuo : Option Nat
  t3 : List UInt8
  t4 : List UInt8
  tTill : Int
  tNonce : Int
  r1 : List UInt8
  r2 : List UInt8
  r3 : List UInt8
  r4 : List UInt8
  rKv : Int
  rB : List UInt8
  rBo : Option Nat
  rBl : List UInt8
  rBlo : Option Nat
  p1 : List UInt8
  p2 : List UInt8
  pKv : Int
  pB : List UInt8
  pBo : Option Nat
  pAu : List UInt8
  pAuo : Option Nat
  fErr : Int
  fNonce : Int
def Msg.as (m : Msg) : List PV := [.str m.a1, .str m.a2, .str m.a3, .str m.a4, .int .i64 m.aTill, .int .i64 m.aNonce]
def Msg.tgs (m : Msg) : List PV := [.str m.t1, .str m.t2, .int .i64 m.tKv, slo m.tB m.tBo, slo m.tAu m.tAuo, .str m.t3, .str m.t4, .int .i64 m.tTill, .int .i64 m.tNonce]
def Msg.rep (m : Msg) : List PV := [.str m.r1, .str m.r2, .str m.r3, .str m.r4, .int .i64 m.rKv, slo m.rB m.rBo, slo m.rBl m.rBlo]
def Msg.ap (m : Msg) : List PV := [.str m.p1, .str m.p2, .int .i64 m.pKv, slo m.pB m.pBo, slo m.pAu m.pAuo]
def Msg.fail (m : Msg) : List PV := [.int .i64 m.fErr, .int .i64 m.fNonce]
def Msg.cells (m : Msg) : List PV := [.int .i64 m.kind] ++ m.as ++ m.tgs ++ m.rep ++ m.ap ++ m.fail
def noAs (m : Msg) : Bool := decide (m.a1 = [] ∧ m.a2 = [] ∧ m.a3 = [] ∧ m.a4 = [] ∧ m.aTill = 0 ∧ m.aNonce = 0)
def noTgs (m : Msg) : Bool := noTk m.t1 m.t2 m.tKv m.tB.length && decide (m.tAu.length = 0) && decide (m.t3 = [] ∧ m.t4 = []) && decide (m.tTill = 0) && decide (m.tNonce = 0)
def noRep (m : Msg) : Bool := decide (m.r1 = [] ∧ m.r2 = []) && noTk m.r3 m.r4 m.rKv m.rB.length && decide (m.rBl.length = 0)
def noAp (m : Msg) : Bool := noTk m.p1 m.p2 m.pKv m.pB.length && decide (m.pAu.length = 0)
def noFail (m : Msg) : Bool := decide (m.fErr = 0 ∧ m.fNonce = 0)
def othersB (m : Msg) : Bool := (decide (m.kind = 1) || noAs m) && (decide (m.kind = 2) || noTgs m) && (decide (m.kind = 3) || noRep m) && (decide (m.kind = 4) || noAp m) && (decide (m.kind = 5) || noFail m)
theorem app_get (H l : PH) (i : Nat) : (H ++ l)[H.length + i]? = l[i]? := by rw [List.getElem?_append_right (by omega)]; congr 1; omega
theorem app_set (H l : PH) (i : Nat) (o : PObj) : (H ++ l).set (H.length + i) o = H ++ l.set i o := by rw [List.set_append_right _ _ (by omega)]; congr 2; omega
def z55 : PObj := ⟨30, [.str [], .str [], .int .i64 0, .slice 0 [] (some 5), .slice 0 [] (some 5), .str [], .str [], .int .i64 0, .int .i64 0], 0⟩
def z57 : PObj := ⟨32, [.str [], .str [], .str [], .str [], .int .i64 0, .slice 0 [] (some 5), .slice 0 [] (some 5)], 0⟩
def z59 : PObj := ⟨34, [.str [], .str [], .int .i64 0, .slice 0 [] (some 5), .slice 0 [] (some 5)], 0⟩
def D120 (n : Nat) : Draw := { imp := [9, 10, 11], robs := [z55, z57, z59], res := [(6, 0), (7, 1), (8, 2)], base := n, win := [(2, 0, 1), (3, 0, 1), (4, 0, 2), (5, 0, 2), (10, 1, 1), (11, 2, 2)] }
theorem fitA (a b c d : List UInt8) (x y : Int) : FitP ttG 6 26 [.str a, .str b, .str c, .str d, .int .i64 x, .int .i64 y] :=
  ⟨rfl, ⟨by show 2 ≤ 6; omega, ⟨rfl, ⟨by show 1 ≤ 2; omega, a, rfl⟩, rfl, ⟨by show 1 ≤ 1; omega, b, rfl⟩, rfl⟩⟩, rfl, ⟨by show 2 ≤ 4; omega, ⟨rfl, ⟨by show 1 ≤ 2; omega, c, rfl⟩, rfl, ⟨by show 1 ≤ 1; omega, d, rfl⟩, rfl⟩⟩, rfl, ⟨by show 1 ≤ 2; omega, x, rfl⟩, rfl, ⟨by show 1 ≤ 1; omega, y, rfl⟩, rfl⟩
theorem fitF (x y : Int) : FitP ttG 6 37 [.int .i64 x, .int .i64 y] := ⟨rfl, ⟨by show 1 ≤ 2; omega, x, rfl⟩, rfl, ⟨by show 1 ≤ 1; omega, y, rfl⟩, rfl⟩
theorem as_eq {a b c d : List UInt8} {x y : Int} : ([PV.str a, PV.str b, PV.str c, PV.str d, PV.int .i64 x, PV.int .i64 y] = [PV.str [], PV.str [], PV.str [], PV.str [], PV.int .i64 0, PV.int .i64 0]) ↔ (a = [] ∧ b = [] ∧ c = [] ∧ d = [] ∧ x = 0 ∧ y = 0) := by simp
theorem fl_eq {x y : Int} : ([PV.int .i64 x, PV.int .i64 y] = [PV.int .i64 0, PV.int .i64 0]) ↔ (x = 0 ∧ y = 0) := by simp
theorem nat0 {n : Nat} : ((n : Int) = 0) ↔ n = 0 := by omega
theorem c120x (m : Msg) (H : PH) : CallOk prog 120 [.agg m.cells] H fun r H' => r = .bool (othersB m) ∧ ∃ ext, H' = H ++ ext := by
  (refine callOk_of_pFun2 (tt := ttG) (imm := imm120) follows ttG_ok depth6 func120 (by kernel_rfl) ?_; (conv => whnf))
  refine drawK_of2 (D120 H.length) [H ++ [z55, z57, z59], H ++ [PObj.mk 30 (m.tgs.map dem) 1, z57, z59], H ++ [PObj.mk 30 (m.tgs.map dem) 1, PObj.mk 32 (m.rep.map dem) 1, z59], H ++ [PObj.mk 30 (m.tgs.map dem) 1, PObj.mk 32 (m.rep.map dem) 1, PObj.mk 34 (m.ap.map dem) 1]] (by kernel_rfl) ⟨rfl, rfl⟩ trivial ?_
  (conv => whnf)
  (apply Exists.intro; apply And.intro; (focus ((conv => whnf); first | exact ⟨rfl, rfl, trivial⟩ | (refine ⟨by omega, ?_⟩; (conv => whnf); exact ⟨rfl, rfl, trivial⟩))); (conv => whnf))
  (apply Exists.intro; apply And.intro; (focus ((conv => whnf); first | exact ⟨rfl, rfl, trivial⟩ | (refine ⟨by omega, ?_⟩; (conv => whnf); exact ⟨rfl, rfl, trivial⟩))); (conv => whnf))
  (apply Exists.intro; apply And.intro; (focus ((conv => whnf); apply And.intro; (focus ((conv => whnf); first | exact ⟨rfl, rfl, trivial⟩ | (refine ⟨by omega, ?_⟩; (conv => whnf); exact ⟨rfl, rfl, trivial⟩))); ((conv => whnf); first | exact ⟨rfl, rfl, trivial⟩ | (refine ⟨by omega, ?_⟩; (conv => whnf); exact ⟨rfl, rfl, trivial⟩)))); (conv => whnf))
  (apply Exists.intro; apply And.intro; (focus ((conv => whnf); apply And.intro; (focus ((conv => whnf); first | exact ⟨rfl, rfl, trivial⟩ | (refine ⟨by omega, ?_⟩; (conv => whnf); exact ⟨rfl, rfl, trivial⟩))); ((conv => whnf); first | exact ⟨rfl, rfl, trivial⟩ | (refine ⟨by omega, ?_⟩; (conv => whnf); exact ⟨rfl, rfl, trivial⟩)))); (conv => whnf))
  (apply Exists.intro; apply And.intro; (focus ((conv => whnf); apply And.intro; (focus ((conv => whnf); first | exact ⟨rfl, rfl, trivial⟩ | (refine ⟨by omega, ?_⟩; (conv => whnf); exact ⟨rfl, rfl, trivial⟩))); (conv => whnf); apply And.intro; (focus ((conv => whnf); first | exact ⟨rfl, rfl, trivial⟩ | (refine ⟨by omega, ?_⟩; (conv => whnf); exact ⟨rfl, rfl, trivial⟩))); ((conv => whnf); first | exact ⟨rfl, rfl, trivial⟩ | (refine ⟨by omega, ?_⟩; (conv => whnf); exact ⟨rfl, rfl, trivial⟩)))); (conv => whnf))
  (apply Exists.intro; apply And.intro; (focus ((conv => whnf); apply And.intro; (focus ((conv => whnf); first | exact ⟨rfl, rfl, trivial⟩ | (refine ⟨by omega, ?_⟩; (conv => whnf); exact ⟨rfl, rfl, trivial⟩))); (conv => whnf); apply And.intro; (focus ((conv => whnf); first | exact ⟨rfl, rfl, trivial⟩ | (refine ⟨by omega, ?_⟩; (conv => whnf); exact ⟨rfl, rfl, trivial⟩))); ((conv => whnf); first | exact ⟨rfl, rfl, trivial⟩ | (refine ⟨by omega, ?_⟩; (conv => whnf); exact ⟨rfl, rfl, trivial⟩)))); (conv => whnf))
  refine ⟨_, ⟨⟨rfl, rfl, trivial⟩, app_get H [z55, z57, z59] 0⟩, ?_⟩
  (conv => whnf)
  refine ⟨_, ⟨⟨rfl, rfl, trivial⟩, app_get H [z55, z57, z59] 1⟩, ?_⟩
  (conv => whnf)
  refine ⟨_, ⟨⟨rfl, rfl, trivial⟩, app_get H [z55, z57, z59] 2⟩, ?_⟩
  (conv => whnf)
  apply Exists.intro
  apply And.intro
  focus
    (conv => whnf)
    ((conv in (_[_]?) => tactic => exact app_get H [z55, z57, z59] 0); (conv => whnf))
    (conv => whnf)
    exact ⟨rfl, app_set H [z55, z57, z59] 0 (PObj.mk 30 (m.tgs.map dem) 1), trivial⟩
  (conv => whnf)
  apply Exists.intro
  apply And.intro
  focus
    (conv => whnf)
    ((conv in (_[_]?) => tactic => exact app_get H [PObj.mk 30 (m.tgs.map dem) 1, z57, z59] 1); (conv => whnf))
    (conv => whnf)
    exact ⟨rfl, app_set H [PObj.mk 30 (m.tgs.map dem) 1, z57, z59] 1 (PObj.mk 32 (m.rep.map dem) 1), trivial⟩
  (conv => whnf)
  apply Exists.intro
  apply And.intro
  focus
    (conv => whnf)
    ((conv in (_[_]?) => tactic => exact app_get H [PObj.mk 30 (m.tgs.map dem) 1, PObj.mk 32 (m.rep.map dem) 1, z59] 2); (conv => whnf))
    (conv => whnf)
    exact ⟨rfl, app_set H [PObj.mk 30 (m.tgs.map dem) 1, PObj.mk 32 (m.rep.map dem) 1, z59] 2 (PObj.mk 34 (m.ap.map dem) 1), trivial⟩
  (conv => whnf)
  by_cases h1 : m.kind = 1
  · have hk := h1
    have n2 : ¬ m.kind = 2 := by omega
    have n3 : ¬ m.kind = 3 := by omega
    have n4 : ¬ m.kind = 4 := by omega
    have n5 : ¬ m.kind = 5 := by omega
    have e1 : decide (m.kind = 1) = true := decide_eq_true hk
    have e2 : decide (m.kind = 2) = false := decide_eq_false n2
    have e3 : decide (m.kind = 3) = false := decide_eq_false n3
    have e4 : decide (m.kind = 4) = false := decide_eq_false n4
    have e5 : decide (m.kind = 5) = false := decide_eq_false n5
    refine ⟨fun h => ?_, fun h => ?_⟩
    rotate_left
    · exact (h hk).elim
    (conv => whnf)
    refine ⟨fun h => ?_, fun h => ?_⟩
    · exact (n2 h).elim
    (conv => whnf)
    ((conv in (_[_]?) => tactic => exact app_get H [PObj.mk 30 (m.tgs.map dem) 1, PObj.mk 32 (m.rep.map dem) 1, PObj.mk 34 (m.ap.map dem) 1] 0); (conv => whnf))
    refine callK_pure (c154 m.t1 m.t2 m.tKv m.tB none) ?_
    cases f1 : noTk m.t1 m.t2 m.tKv m.tB.length
    · (conv => whnf)
      exact ⟨congrArg PV.bool (by unfold othersB noTgs noRep noAp noFail; simp only [e1, e2, e3, e4, e5, f1, Bool.and_true, Bool.true_and, Bool.or_false, Bool.false_or, Bool.true_or, Bool.or_true, Bool.and_false, Bool.false_and]), _, rfl⟩
    (conv => whnf)
    ((conv in (_[_]?) => tactic => exact app_get H [PObj.mk 30 (m.tgs.map dem) 1, PObj.mk 32 (m.rep.map dem) 1, PObj.mk 34 (m.ap.map dem) 1] 0); (conv => whnf))
    refine ⟨fun h => ?_, fun h => ?_⟩
    rotate_left
    · have f2 : decide (m.tAu.length = 0) = false := decide_eq_false fun hh => h (Iff.mpr nat0 hh)
      (conv => whnf)
      exact ⟨congrArg PV.bool (by unfold othersB noTgs noRep noAp noFail; simp only [e1, e2, e3, e4, e5, f1, f2, Bool.and_true, Bool.true_and, Bool.or_false, Bool.false_or, Bool.true_or, Bool.or_true, Bool.and_false, Bool.false_and]), _, rfl⟩
    have f2 : decide (m.tAu.length = 0) = true := decide_eq_true (Iff.mp nat0 h)
    (conv => whnf)
    ((conv in (_[_]?) => tactic => exact app_get H [PObj.mk 30 (m.tgs.map dem) 1, PObj.mk 32 (m.rep.map dem) 1, PObj.mk 34 (m.ap.map dem) 1] 0); (conv => whnf))
    refine ⟨⟨fitG _ _, fitG [] []⟩, ?_⟩
    (conv => whnf)
    refine ⟨fun h => ?_, fun h => ?_⟩
    rotate_left
    · have f3 : decide (m.t3 = [] ∧ m.t4 = []) = false := decide_eq_false fun hh => h (Iff.mpr pr_eq hh)
      (conv => whnf)
      exact ⟨congrArg PV.bool (by unfold othersB noTgs noRep noAp noFail; simp only [e1, e2, e3, e4, e5, f1, f2, f3, Bool.and_true, Bool.true_and, Bool.or_false, Bool.false_or, Bool.true_or, Bool.or_true, Bool.and_false, Bool.false_and]), _, rfl⟩
    have f3 : decide (m.t3 = [] ∧ m.t4 = []) = true := decide_eq_true (Iff.mp pr_eq h)
    (conv => whnf)
    ((conv in (_[_]?) => tactic => exact app_get H [PObj.mk 30 (m.tgs.map dem) 1, PObj.mk 32 (m.rep.map dem) 1, PObj.mk 34 (m.ap.map dem) 1] 0); (conv => whnf))
    refine ⟨fun h => ?_, fun h => ?_⟩
    rotate_left
    · have f4 : decide (m.tTill = 0) = false := decide_eq_false fun hh => h (Iff.mpr Iff.rfl hh)
      (conv => whnf)
      exact ⟨congrArg PV.bool (by unfold othersB noTgs noRep noAp noFail; simp only [e1, e2, e3, e4, e5, f1, f2, f3, f4, Bool.and_true, Bool.true_and, Bool.or_false, Bool.false_or, Bool.true_or, Bool.or_true, Bool.and_false, Bool.false_and]), _, rfl⟩
    have f4 : decide (m.tTill = 0) = true := decide_eq_true (Iff.mp Iff.rfl h)
    (conv => whnf)
    ((conv in (_[_]?) => tactic => exact app_get H [PObj.mk 30 (m.tgs.map dem) 1, PObj.mk 32 (m.rep.map dem) 1, PObj.mk 34 (m.ap.map dem) 1] 0); (conv => whnf))
    refine ⟨fun h => ?_, fun h => ?_⟩
    rotate_left
    · have f5 : decide (m.tNonce = 0) = false := decide_eq_false fun hh => h (Iff.mpr Iff.rfl hh)
      (conv => whnf)
      exact ⟨congrArg PV.bool (by unfold othersB noTgs noRep noAp noFail; simp only [e1, e2, e3, e4, e5, f1, f2, f3, f4, f5, Bool.and_true, Bool.true_and, Bool.or_false, Bool.false_or, Bool.true_or, Bool.or_true, Bool.and_false, Bool.false_and]), _, rfl⟩
    have f5 : decide (m.tNonce = 0) = true := decide_eq_true (Iff.mp Iff.rfl h)
    (conv => whnf)
    refine ⟨fun h => ?_, fun h => ?_⟩
    · exact (n3 h).elim
    (conv => whnf)
    ((conv in (_[_]?) => tactic => exact app_get H [PObj.mk 30 (m.tgs.map dem) 1, PObj.mk 32 (m.rep.map dem) 1, PObj.mk 34 (m.ap.map dem) 1] 1); (conv => whnf))
    refine ⟨⟨fitG _ _, fitG [] []⟩, ?_⟩
    (conv => whnf)
    refine ⟨fun h => ?_, fun h => ?_⟩
    rotate_left
    · have f6 : decide (m.r1 = [] ∧ m.r2 = []) = false := decide_eq_false fun hh => h (Iff.mpr pr_eq hh)
      (conv => whnf)
      exact ⟨congrArg PV.bool (by unfold othersB noTgs noRep noAp noFail; simp only [e1, e2, e3, e4, e5, f1, f2, f3, f4, f5, f6, Bool.and_true, Bool.true_and, Bool.or_false, Bool.false_or, Bool.true_or, Bool.or_true, Bool.and_false, Bool.false_and]), _, rfl⟩
    have f6 : decide (m.r1 = [] ∧ m.r2 = []) = true := decide_eq_true (Iff.mp pr_eq h)
    (conv => whnf)
    ((conv in (_[_]?) => tactic => exact app_get H [PObj.mk 30 (m.tgs.map dem) 1, PObj.mk 32 (m.rep.map dem) 1, PObj.mk 34 (m.ap.map dem) 1] 1); (conv => whnf))
    refine callK_pure (c154 m.r3 m.r4 m.rKv m.rB none) ?_
    cases f7 : noTk m.r3 m.r4 m.rKv m.rB.length
    · (conv => whnf)
      exact ⟨congrArg PV.bool (by unfold othersB noTgs noRep noAp noFail; simp only [e1, e2, e3, e4, e5, f1, f2, f3, f4, f5, f6, f7, Bool.and_true, Bool.true_and, Bool.or_false, Bool.false_or, Bool.true_or, Bool.or_true, Bool.and_false, Bool.false_and]), _, rfl⟩
    (conv => whnf)
    ((conv in (_[_]?) => tactic => exact app_get H [PObj.mk 30 (m.tgs.map dem) 1, PObj.mk 32 (m.rep.map dem) 1, PObj.mk 34 (m.ap.map dem) 1] 1); (conv => whnf))
    refine ⟨fun h => ?_, fun h => ?_⟩
    rotate_left
    · have f8 : decide (m.rBl.length = 0) = false := decide_eq_false fun hh => h (Iff.mpr nat0 hh)
      (conv => whnf)
      exact ⟨congrArg PV.bool (by unfold othersB noTgs noRep noAp noFail; simp only [e1, e2, e3, e4, e5, f1, f2, f3, f4, f5, f6, f7, f8, Bool.and_true, Bool.true_and, Bool.or_false, Bool.false_or, Bool.true_or, Bool.or_true, Bool.and_false, Bool.false_and]), _, rfl⟩
    have f8 : decide (m.rBl.length = 0) = true := decide_eq_true (Iff.mp nat0 h)
    (conv => whnf)
    refine ⟨fun h => ?_, fun h => ?_⟩
    · exact (n4 h).elim
    (conv => whnf)
    ((conv in (_[_]?) => tactic => exact app_get H [PObj.mk 30 (m.tgs.map dem) 1, PObj.mk 32 (m.rep.map dem) 1, PObj.mk 34 (m.ap.map dem) 1] 2); (conv => whnf))
    refine callK_pure (c154 m.p1 m.p2 m.pKv m.pB none) ?_
    cases f9 : noTk m.p1 m.p2 m.pKv m.pB.length
    · (conv => whnf)
      exact ⟨congrArg PV.bool (by unfold othersB noTgs noRep noAp noFail; simp only [e1, e2, e3, e4, e5, f1, f2, f3, f4, f5, f6, f7, f8, f9, Bool.and_true, Bool.true_and, Bool.or_false, Bool.false_or, Bool.true_or, Bool.or_true, Bool.and_false, Bool.false_and]), _, rfl⟩
    (conv => whnf)
    ((conv in (_[_]?) => tactic => exact app_get H [PObj.mk 30 (m.tgs.map dem) 1, PObj.mk 32 (m.rep.map dem) 1, PObj.mk 34 (m.ap.map dem) 1] 2); (conv => whnf))
    refine ⟨fun h => ?_, fun h => ?_⟩
    rotate_left
    · have f10 : decide (m.pAu.length = 0) = false := decide_eq_false fun hh => h (Iff.mpr nat0 hh)
      (conv => whnf)
      exact ⟨congrArg PV.bool (by unfold othersB noTgs noRep noAp noFail; simp only [e1, e2, e3, e4, e5, f1, f2, f3, f4, f5, f6, f7, f8, f9, f10, Bool.and_true, Bool.true_and, Bool.or_false, Bool.false_or, Bool.true_or, Bool.or_true, Bool.and_false, Bool.false_and]), _, rfl⟩
    have f10 : decide (m.pAu.length = 0) = true := decide_eq_true (Iff.mp nat0 h)
    (conv => whnf)
    refine ⟨fun h => ?_, fun h => ?_⟩
    · exact (n5 h).elim
    (conv => whnf)
    refine ⟨⟨fitF _ _, fitF 0 0⟩, ?_⟩
    (conv => whnf)
    refine ⟨fun h => ?_, fun h => ?_⟩
    rotate_left
    · have f11 : decide (m.fErr = 0 ∧ m.fNonce = 0) = false := decide_eq_false fun hh => h (Iff.mpr fl_eq hh)
      (conv => whnf)
      exact ⟨congrArg PV.bool (by unfold othersB noTgs noRep noAp noFail; simp only [e1, e2, e3, e4, e5, f1, f2, f3, f4, f5, f6, f7, f8, f9, f10, f11, Bool.and_true, Bool.true_and, Bool.or_false, Bool.false_or, Bool.true_or, Bool.or_true, Bool.and_false, Bool.false_and]), _, rfl⟩
    have f11 : decide (m.fErr = 0 ∧ m.fNonce = 0) = true := decide_eq_true (Iff.mp fl_eq h)
    (conv => whnf)
    exact ⟨congrArg PV.bool (by unfold othersB noTgs noRep noAp noFail; simp only [e1, e2, e3, e4, e5, f1, f2, f3, f4, f5, f6, f7, f8, f9, f10, f11, Bool.and_true, Bool.true_and, Bool.or_false, Bool.false_or, Bool.true_or, Bool.or_true, Bool.and_false, Bool.false_and]), _, rfl⟩
  by_cases h2 : m.kind = 2
  · have hk := h2
    have n1 : ¬ m.kind = 1 := by omega
    have n3 : ¬ m.kind = 3 := by omega
    have n4 : ¬ m.kind = 4 := by omega
    have n5 : ¬ m.kind = 5 := by omega
    have e1 : decide (m.kind = 1) = false := decide_eq_false n1
    have e2 : decide (m.kind = 2) = true := decide_eq_true hk
    have e3 : decide (m.kind = 3) = false := decide_eq_false n3
    have e4 : decide (m.kind = 4) = false := decide_eq_false n4
    have e5 : decide (m.kind = 5) = false := decide_eq_false n5
    refine ⟨fun h => ?_, fun h => ?_⟩
    · exact (n1 h).elim
    (conv => whnf)
    refine ⟨⟨fitA _ _ _ _ _ _, fitA [] [] [] [] 0 0⟩, ?_⟩
    (conv => whnf)
    refine ⟨fun h => ?_, fun h => ?_⟩
    rotate_left
    · have f12 : noAs m = false := decide_eq_false fun hh => h (Iff.mpr as_eq hh)
      (conv => whnf)
      exact ⟨congrArg PV.bool (by unfold othersB noTgs noRep noAp noFail; simp only [e1, e2, e3, e4, e5, f12, Bool.and_true, Bool.true_and, Bool.or_false, Bool.false_or, Bool.true_or, Bool.or_true, Bool.and_false, Bool.false_and]), _, rfl⟩
    have f12 : noAs m = true := decide_eq_true (Iff.mp as_eq h)
    (conv => whnf)
    refine ⟨fun h => ?_, fun h => ?_⟩
    rotate_left
    · exact (h hk).elim
    (conv => whnf)
    refine ⟨fun h => ?_, fun h => ?_⟩
    · exact (n3 h).elim
    (conv => whnf)
    ((conv in (_[_]?) => tactic => exact app_get H [PObj.mk 30 (m.tgs.map dem) 1, PObj.mk 32 (m.rep.map dem) 1, PObj.mk 34 (m.ap.map dem) 1] 1); (conv => whnf))
    refine ⟨⟨fitG _ _, fitG [] []⟩, ?_⟩
    (conv => whnf)
    refine ⟨fun h => ?_, fun h => ?_⟩
    rotate_left
    · have f13 : decide (m.r1 = [] ∧ m.r2 = []) = false := decide_eq_false fun hh => h (Iff.mpr pr_eq hh)
      (conv => whnf)
      exact ⟨congrArg PV.bool (by unfold othersB noTgs noRep noAp noFail; simp only [e1, e2, e3, e4, e5, f12, f13, Bool.and_true, Bool.true_and, Bool.or_false, Bool.false_or, Bool.true_or, Bool.or_true, Bool.and_false, Bool.false_and]), _, rfl⟩
    have f13 : decide (m.r1 = [] ∧ m.r2 = []) = true := decide_eq_true (Iff.mp pr_eq h)
    (conv => whnf)
    ((conv in (_[_]?) => tactic => exact app_get H [PObj.mk 30 (m.tgs.map dem) 1, PObj.mk 32 (m.rep.map dem) 1, PObj.mk 34 (m.ap.map dem) 1] 1); (conv => whnf))
    refine callK_pure (c154 m.r3 m.r4 m.rKv m.rB none) ?_
    cases f14 : noTk m.r3 m.r4 m.rKv m.rB.length
    · (conv => whnf)
      exact ⟨congrArg PV.bool (by unfold othersB noTgs noRep noAp noFail; simp only [e1, e2, e3, e4, e5, f12, f13, f14, Bool.and_true, Bool.true_and, Bool.or_false, Bool.false_or, Bool.true_or, Bool.or_true, Bool.and_false, Bool.false_and]), _, rfl⟩
    (conv => whnf)
    ((conv in (_[_]?) => tactic => exact app_get H [PObj.mk 30 (m.tgs.map dem) 1, PObj.mk 32 (m.rep.map dem) 1, PObj.mk 34 (m.ap.map dem) 1] 1); (conv => whnf))
    refine ⟨fun h => ?_, fun h => ?_⟩
    rotate_left
    · have f15 : decide (m.rBl.length = 0) = false := decide_eq_false fun hh => h (Iff.mpr nat0 hh)
      (conv => whnf)
      exact ⟨congrArg PV.bool (by unfold othersB noTgs noRep noAp noFail; simp only [e1, e2, e3, e4, e5, f12, f13, f14, f15, Bool.and_true, Bool.true_and, Bool.or_false, Bool.false_or, Bool.true_or, Bool.or_true, Bool.and_false, Bool.false_and]), _, rfl⟩
    have f15 : decide (m.rBl.length = 0) = true := decide_eq_true (Iff.mp nat0 h)
    (conv => whnf)
    refine ⟨fun h => ?_, fun h => ?_⟩
    · exact (n4 h).elim
    (conv => whnf)
    ((conv in (_[_]?) => tactic => exact app_get H [PObj.mk 30 (m.tgs.map dem) 1, PObj.mk 32 (m.rep.map dem) 1, PObj.mk 34 (m.ap.map dem) 1] 2); (conv => whnf))
    refine callK_pure (c154 m.p1 m.p2 m.pKv m.pB none) ?_
    cases f16 : noTk m.p1 m.p2 m.pKv m.pB.length
    · (conv => whnf)
      exact ⟨congrArg PV.bool (by unfold othersB noTgs noRep noAp noFail; simp only [e1, e2, e3, e4, e5, f12, f13, f14, f15, f16, Bool.and_true, Bool.true_and, Bool.or_false, Bool.false_or, Bool.true_or, Bool.or_true, Bool.and_false, Bool.false_and]), _, rfl⟩
    (conv => whnf)
    ((conv in (_[_]?) => tactic => exact app_get H [PObj.mk 30 (m.tgs.map dem) 1, PObj.mk 32 (m.rep.map dem) 1, PObj.mk 34 (m.ap.map dem) 1] 2); (conv => whnf))
    refine ⟨fun h => ?_, fun h => ?_⟩
    rotate_left
    · have f17 : decide (m.pAu.length = 0) = false := decide_eq_false fun hh => h (Iff.mpr nat0 hh)
      (conv => whnf)
      exact ⟨congrArg PV.bool (by unfold othersB noTgs noRep noAp noFail; simp only [e1, e2, e3, e4, e5, f12, f13, f14, f15, f16, f17, Bool.and_true, Bool.true_and, Bool.or_false, Bool.false_or, Bool.true_or, Bool.or_true, Bool.and_false, Bool.false_and]), _, rfl⟩
    have f17 : decide (m.pAu.length = 0) = true := decide_eq_true (Iff.mp nat0 h)
    (conv => whnf)
    refine ⟨fun h => ?_, fun h => ?_⟩
    · exact (n5 h).elim
    (conv => whnf)
    refine ⟨⟨fitF _ _, fitF 0 0⟩, ?_⟩
    (conv => whnf)
    refine ⟨fun h => ?_, fun h => ?_⟩
    rotate_left
    · have f18 : decide (m.fErr = 0 ∧ m.fNonce = 0) = false := decide_eq_false fun hh => h (Iff.mpr fl_eq hh)
      (conv => whnf)
      exact ⟨congrArg PV.bool (by unfold othersB noTgs noRep noAp noFail; simp only [e1, e2, e3, e4, e5, f12, f13, f14, f15, f16, f17, f18, Bool.and_true, Bool.true_and, Bool.or_false, Bool.false_or, Bool.true_or, Bool.or_true, Bool.and_false, Bool.false_and]), _, rfl⟩
    have f18 : decide (m.fErr = 0 ∧ m.fNonce = 0) = true := decide_eq_true (Iff.mp fl_eq h)
    (conv => whnf)
    exact ⟨congrArg PV.bool (by unfold othersB noTgs noRep noAp noFail; simp only [e1, e2, e3, e4, e5, f12, f13, f14, f15, f16, f17, f18, Bool.and_true, Bool.true_and, Bool.or_false, Bool.false_or, Bool.true_or, Bool.or_true, Bool.and_false, Bool.false_and]), _, rfl⟩
  by_cases h3 : m.kind = 3
  · have hk := h3
    have n1 : ¬ m.kind = 1 := by omega
    have n2 : ¬ m.kind = 2 := by omega
    have n4 : ¬ m.kind = 4 := by omega
    have n5 : ¬ m.kind = 5 := by omega
    have e1 : decide (m.kind = 1) = false := decide_eq_false n1
    have e2 : decide (m.kind = 2) = false := decide_eq_false n2
    have e3 : decide (m.kind = 3) = true := decide_eq_true hk
    have e4 : decide (m.kind = 4) = false := decide_eq_false n4
    have e5 : decide (m.kind = 5) = false := decide_eq_false n5
    refine ⟨fun h => ?_, fun h => ?_⟩
    · exact (n1 h).elim
    (conv => whnf)
    refine ⟨⟨fitA _ _ _ _ _ _, fitA [] [] [] [] 0 0⟩, ?_⟩
    (conv => whnf)
    refine ⟨fun h => ?_, fun h => ?_⟩
    rotate_left
    · have f19 : noAs m = false := decide_eq_false fun hh => h (Iff.mpr as_eq hh)
      (conv => whnf)
      exact ⟨congrArg PV.bool (by unfold othersB noTgs noRep noAp noFail; simp only [e1, e2, e3, e4, e5, f19, Bool.and_true, Bool.true_and, Bool.or_false, Bool.false_or, Bool.true_or, Bool.or_true, Bool.and_false, Bool.false_and]), _, rfl⟩
    have f19 : noAs m = true := decide_eq_true (Iff.mp as_eq h)
    (conv => whnf)
    refine ⟨fun h => ?_, fun h => ?_⟩
    · exact (n2 h).elim
    (conv => whnf)
    ((conv in (_[_]?) => tactic => exact app_get H [PObj.mk 30 (m.tgs.map dem) 1, PObj.mk 32 (m.rep.map dem) 1, PObj.mk 34 (m.ap.map dem) 1] 0); (conv => whnf))
    refine callK_pure (c154 m.t1 m.t2 m.tKv m.tB none) ?_
    cases f20 : noTk m.t1 m.t2 m.tKv m.tB.length
    · (conv => whnf)
      exact ⟨congrArg PV.bool (by unfold othersB noTgs noRep noAp noFail; simp only [e1, e2, e3, e4, e5, f19, f20, Bool.and_true, Bool.true_and, Bool.or_false, Bool.false_or, Bool.true_or, Bool.or_true, Bool.and_false, Bool.false_and]), _, rfl⟩
    (conv => whnf)
    ((conv in (_[_]?) => tactic => exact app_get H [PObj.mk 30 (m.tgs.map dem) 1, PObj.mk 32 (m.rep.map dem) 1, PObj.mk 34 (m.ap.map dem) 1] 0); (conv => whnf))
    refine ⟨fun h => ?_, fun h => ?_⟩
    rotate_left
    · have f21 : decide (m.tAu.length = 0) = false := decide_eq_false fun hh => h (Iff.mpr nat0 hh)
      (conv => whnf)
      exact ⟨congrArg PV.bool (by unfold othersB noTgs noRep noAp noFail; simp only [e1, e2, e3, e4, e5, f19, f20, f21, Bool.and_true, Bool.true_and, Bool.or_false, Bool.false_or, Bool.true_or, Bool.or_true, Bool.and_false, Bool.false_and]), _, rfl⟩
    have f21 : decide (m.tAu.length = 0) = true := decide_eq_true (Iff.mp nat0 h)
    (conv => whnf)
    ((conv in (_[_]?) => tactic => exact app_get H [PObj.mk 30 (m.tgs.map dem) 1, PObj.mk 32 (m.rep.map dem) 1, PObj.mk 34 (m.ap.map dem) 1] 0); (conv => whnf))
    refine ⟨⟨fitG _ _, fitG [] []⟩, ?_⟩
    (conv => whnf)
    refine ⟨fun h => ?_, fun h => ?_⟩
    rotate_left
    · have f22 : decide (m.t3 = [] ∧ m.t4 = []) = false := decide_eq_false fun hh => h (Iff.mpr pr_eq hh)
      (conv => whnf)
      exact ⟨congrArg PV.bool (by unfold othersB noTgs noRep noAp noFail; simp only [e1, e2, e3, e4, e5, f19, f20, f21, f22, Bool.and_true, Bool.true_and, Bool.or_false, Bool.false_or, Bool.true_or, Bool.or_true, Bool.and_false, Bool.false_and]), _, rfl⟩
    have f22 : decide (m.t3 = [] ∧ m.t4 = []) = true := decide_eq_true (Iff.mp pr_eq h)
    (conv => whnf)
    ((conv in (_[_]?) => tactic => exact app_get H [PObj.mk 30 (m.tgs.map dem) 1, PObj.mk 32 (m.rep.map dem) 1, PObj.mk 34 (m.ap.map dem) 1] 0); (conv => whnf))
    refine ⟨fun h => ?_, fun h => ?_⟩
    rotate_left
    · have f23 : decide (m.tTill = 0) = false := decide_eq_false fun hh => h (Iff.mpr Iff.rfl hh)
      (conv => whnf)
      exact ⟨congrArg PV.bool (by unfold othersB noTgs noRep noAp noFail; simp only [e1, e2, e3, e4, e5, f19, f20, f21, f22, f23, Bool.and_true, Bool.true_and, Bool.or_false, Bool.false_or, Bool.true_or, Bool.or_true, Bool.and_false, Bool.false_and]), _, rfl⟩
    have f23 : decide (m.tTill = 0) = true := decide_eq_true (Iff.mp Iff.rfl h)
    (conv => whnf)
    ((conv in (_[_]?) => tactic => exact app_get H [PObj.mk 30 (m.tgs.map dem) 1, PObj.mk 32 (m.rep.map dem) 1, PObj.mk 34 (m.ap.map dem) 1] 0); (conv => whnf))
    refine ⟨fun h => ?_, fun h => ?_⟩
    rotate_left
    · have f24 : decide (m.tNonce = 0) = false := decide_eq_false fun hh => h (Iff.mpr Iff.rfl hh)
      (conv => whnf)
      exact ⟨congrArg PV.bool (by unfold othersB noTgs noRep noAp noFail; simp only [e1, e2, e3, e4, e5, f19, f20, f21, f22, f23, f24, Bool.and_true, Bool.true_and, Bool.or_false, Bool.false_or, Bool.true_or, Bool.or_true, Bool.and_false, Bool.false_and]), _, rfl⟩
    have f24 : decide (m.tNonce = 0) = true := decide_eq_true (Iff.mp Iff.rfl h)
    (conv => whnf)
    refine ⟨fun h => ?_, fun h => ?_⟩
    rotate_left
    · exact (h hk).elim
    (conv => whnf)
    refine ⟨fun h => ?_, fun h => ?_⟩
    · exact (n4 h).elim
    (conv => whnf)
    ((conv in (_[_]?) => tactic => exact app_get H [PObj.mk 30 (m.tgs.map dem) 1, PObj.mk 32 (m.rep.map dem) 1, PObj.mk 34 (m.ap.map dem) 1] 2); (conv => whnf))
    refine callK_pure (c154 m.p1 m.p2 m.pKv m.pB none) ?_
    cases f25 : noTk m.p1 m.p2 m.pKv m.pB.length
    · (conv => whnf)
      exact ⟨congrArg PV.bool (by unfold othersB noTgs noRep noAp noFail; simp only [e1, e2, e3, e4, e5, f19, f20, f21, f22, f23, f24, f25, Bool.and_true, Bool.true_and, Bool.or_false, Bool.false_or, Bool.true_or, Bool.or_true, Bool.and_false, Bool.false_and]), _, rfl⟩
    (conv => whnf)
    ((conv in (_[_]?) => tactic => exact app_get H [PObj.mk 30 (m.tgs.map dem) 1, PObj.mk 32 (m.rep.map dem) 1, PObj.mk 34 (m.ap.map dem) 1] 2); (conv => whnf))
    refine ⟨fun h => ?_, fun h => ?_⟩
    rotate_left
    · have f26 : decide (m.pAu.length = 0) = false := decide_eq_false fun hh => h (Iff.mpr nat0 hh)
      (conv => whnf)
      exact ⟨congrArg PV.bool (by unfold othersB noTgs noRep noAp noFail; simp only [e1, e2, e3, e4, e5, f19, f20, f21, f22, f23, f24, f25, f26, Bool.and_true, Bool.true_and, Bool.or_false, Bool.false_or, Bool.true_or, Bool.or_true, Bool.and_false, Bool.false_and]), _, rfl⟩
    have f26 : decide (m.pAu.length = 0) = true := decide_eq_true (Iff.mp nat0 h)
    (conv => whnf)
    refine ⟨fun h => ?_, fun h => ?_⟩
    · exact (n5 h).elim
    (conv => whnf)
    refine ⟨⟨fitF _ _, fitF 0 0⟩, ?_⟩
    (conv => whnf)
    refine ⟨fun h => ?_, fun h => ?_⟩
    rotate_left
    · have f27 : decide (m.fErr = 0 ∧ m.fNonce = 0) = false := decide_eq_false fun hh => h (Iff.mpr fl_eq hh)
      (conv => whnf)
      exact ⟨congrArg PV.bool (by unfold othersB noTgs noRep noAp noFail; simp only [e1, e2, e3, e4, e5, f19, f20, f21, f22, f23, f24, f25, f26, f27, Bool.and_true, Bool.true_and, Bool.or_false, Bool.false_or, Bool.true_or, Bool.or_true, Bool.and_false, Bool.false_and]), _, rfl⟩
    have f27 : decide (m.fErr = 0 ∧ m.fNonce = 0) = true := decide_eq_true (Iff.mp fl_eq h)
    (conv => whnf)
    exact ⟨congrArg PV.bool (by unfold othersB noTgs noRep noAp noFail; simp only [e1, e2, e3, e4, e5, f19, f20, f21, f22, f23, f24, f25, f26, f27, Bool.and_true, Bool.true_and, Bool.or_false, Bool.false_or, Bool.true_or, Bool.or_true, Bool.and_false, Bool.false_and]), _, rfl⟩
  by_cases h4 : m.kind = 4
  · have hk := h4
    have n1 : ¬ m.kind = 1 := by omega
    have n2 : ¬ m.kind = 2 := by omega
    have n3 : ¬ m.kind = 3 := by omega
    have n5 : ¬ m.kind = 5 := by omega
    have e1 : decide (m.kind = 1) = false := decide_eq_false n1
    have e2 : decide (m.kind = 2) = false := decide_eq_false n2
    have e3 : decide (m.kind = 3) = false := decide_eq_false n3
    have e4 : decide (m.kind = 4) = true := decide_eq_true hk
    have e5 : decide (m.kind = 5) = false := decide_eq_false n5
    refine ⟨fun h => ?_, fun h => ?_⟩
    · exact (n1 h).elim
    (conv => whnf)
    refine ⟨⟨fitA _ _ _ _ _ _, fitA [] [] [] [] 0 0⟩, ?_⟩
    (conv => whnf)
    refine ⟨fun h => ?_, fun h => ?_⟩
    rotate_left
    · have f28 : noAs m = false := decide_eq_false fun hh => h (Iff.mpr as_eq hh)
      (conv => whnf)
      exact ⟨congrArg PV.bool (by unfold othersB noTgs noRep noAp noFail; simp only [e1, e2, e3, e4, e5, f28, Bool.and_true, Bool.true_and, Bool.or_false, Bool.false_or, Bool.true_or, Bool.or_true, Bool.and_false, Bool.false_and]), _, rfl⟩
    have f28 : noAs m = true := decide_eq_true (Iff.mp as_eq h)
    (conv => whnf)
    refine ⟨fun h => ?_, fun h => ?_⟩
    · exact (n2 h).elim
    (conv => whnf)
    ((conv in (_[_]?) => tactic => exact app_get H [PObj.mk 30 (m.tgs.map dem) 1, PObj.mk 32 (m.rep.map dem) 1, PObj.mk 34 (m.ap.map dem) 1] 0); (conv => whnf))
    refine callK_pure (c154 m.t1 m.t2 m.tKv m.tB none) ?_
    cases f29 : noTk m.t1 m.t2 m.tKv m.tB.length
    · (conv => whnf)
      exact ⟨congrArg PV.bool (by unfold othersB noTgs noRep noAp noFail; simp only [e1, e2, e3, e4, e5, f28, f29, Bool.and_true, Bool.true_and, Bool.or_false, Bool.false_or, Bool.true_or, Bool.or_true, Bool.and_false, Bool.false_and]), _, rfl⟩
    (conv => whnf)
    ((conv in (_[_]?) => tactic => exact app_get H [PObj.mk 30 (m.tgs.map dem) 1, PObj.mk 32 (m.rep.map dem) 1, PObj.mk 34 (m.ap.map dem) 1] 0); (conv => whnf))
    refine ⟨fun h => ?_, fun h => ?_⟩
    rotate_left
    · have f30 : decide (m.tAu.length = 0) = false := decide_eq_false fun hh => h (Iff.mpr nat0 hh)
      (conv => whnf)
      exact ⟨congrArg PV.bool (by unfold othersB noTgs noRep noAp noFail; simp only [e1, e2, e3, e4, e5, f28, f29, f30, Bool.and_true, Bool.true_and, Bool.or_false, Bool.false_or, Bool.true_or, Bool.or_true, Bool.and_false, Bool.false_and]), _, rfl⟩
    have f30 : decide (m.tAu.length = 0) = true := decide_eq_true (Iff.mp nat0 h)
    (conv => whnf)
    ((conv in (_[_]?) => tactic => exact app_get H [PObj.mk 30 (m.tgs.map dem) 1, PObj.mk 32 (m.rep.map dem) 1, PObj.mk 34 (m.ap.map dem) 1] 0); (conv => whnf))
    refine ⟨⟨fitG _ _, fitG [] []⟩, ?_⟩
    (conv => whnf)
    refine ⟨fun h => ?_, fun h => ?_⟩
    rotate_left
    · have f31 : decide (m.t3 = [] ∧ m.t4 = []) = false := decide_eq_false fun hh => h (Iff.mpr pr_eq hh)
      (conv => whnf)
      exact ⟨congrArg PV.bool (by unfold othersB noTgs noRep noAp noFail; simp only [e1, e2, e3, e4, e5, f28, f29, f30, f31, Bool.and_true, Bool.true_and, Bool.or_false, Bool.false_or, Bool.true_or, Bool.or_true, Bool.and_false, Bool.false_and]), _, rfl⟩
    have f31 : decide (m.t3 = [] ∧ m.t4 = []) = true := decide_eq_true (Iff.mp pr_eq h)
    (conv => whnf)
    ((conv in (_[_]?) => tactic => exact app_get H [PObj.mk 30 (m.tgs.map dem) 1, PObj.mk 32 (m.rep.map dem) 1, PObj.mk 34 (m.ap.map dem) 1] 0); (conv => whnf))
    refine ⟨fun h => ?_, fun h => ?_⟩
    rotate_left
    · have f32 : decide (m.tTill = 0) = false := decide_eq_false fun hh => h (Iff.mpr Iff.rfl hh)
      (conv => whnf)
      exact ⟨congrArg PV.bool (by unfold othersB noTgs noRep noAp noFail; simp only [e1, e2, e3, e4, e5, f28, f29, f30, f31, f32, Bool.and_true, Bool.true_and, Bool.or_false, Bool.false_or, Bool.true_or, Bool.or_true, Bool.and_false, Bool.false_and]), _, rfl⟩
    have f32 : decide (m.tTill = 0) = true := decide_eq_true (Iff.mp Iff.rfl h)
    (conv => whnf)
    ((conv in (_[_]?) => tactic => exact app_get H [PObj.mk 30 (m.tgs.map dem) 1, PObj.mk 32 (m.rep.map dem) 1, PObj.mk 34 (m.ap.map dem) 1] 0); (conv => whnf))
    refine ⟨fun h => ?_, fun h => ?_⟩
    rotate_left
    · have f33 : decide (m.tNonce = 0) = false := decide_eq_false fun hh => h (Iff.mpr Iff.rfl hh)
      (conv => whnf)
      exact ⟨congrArg PV.bool (by unfold othersB noTgs noRep noAp noFail; simp only [e1, e2, e3, e4, e5, f28, f29, f30, f31, f32, f33, Bool.and_true, Bool.true_and, Bool.or_false, Bool.false_or, Bool.true_or, Bool.or_true, Bool.and_false, Bool.false_and]), _, rfl⟩
    have f33 : decide (m.tNonce = 0) = true := decide_eq_true (Iff.mp Iff.rfl h)
    (conv => whnf)
    refine ⟨fun h => ?_, fun h => ?_⟩
    · exact (n3 h).elim
    (conv => whnf)
    ((conv in (_[_]?) => tactic => exact app_get H [PObj.mk 30 (m.tgs.map dem) 1, PObj.mk 32 (m.rep.map dem) 1, PObj.mk 34 (m.ap.map dem) 1] 1); (conv => whnf))
    refine ⟨⟨fitG _ _, fitG [] []⟩, ?_⟩
    (conv => whnf)
    refine ⟨fun h => ?_, fun h => ?_⟩
    rotate_left
    · have f34 : decide (m.r1 = [] ∧ m.r2 = []) = false := decide_eq_false fun hh => h (Iff.mpr pr_eq hh)
      (conv => whnf)
      exact ⟨congrArg PV.bool (by unfold othersB noTgs noRep noAp noFail; simp only [e1, e2, e3, e4, e5, f28, f29, f30, f31, f32, f33, f34, Bool.and_true, Bool.true_and, Bool.or_false, Bool.false_or, Bool.true_or, Bool.or_true, Bool.and_false, Bool.false_and]), _, rfl⟩
    have f34 : decide (m.r1 = [] ∧ m.r2 = []) = true := decide_eq_true (Iff.mp pr_eq h)
    (conv => whnf)
    ((conv in (_[_]?) => tactic => exact app_get H [PObj.mk 30 (m.tgs.map dem) 1, PObj.mk 32 (m.rep.map dem) 1, PObj.mk 34 (m.ap.map dem) 1] 1); (conv => whnf))
    refine callK_pure (c154 m.r3 m.r4 m.rKv m.rB none) ?_
    cases f35 : noTk m.r3 m.r4 m.rKv m.rB.length
    · (conv => whnf)
      exact ⟨congrArg PV.bool (by unfold othersB noTgs noRep noAp noFail; simp only [e1, e2, e3, e4, e5, f28, f29, f30, f31, f32, f33, f34, f35, Bool.and_true, Bool.true_and, Bool.or_false, Bool.false_or, Bool.true_or, Bool.or_true, Bool.and_false, Bool.false_and]), _, rfl⟩
    (conv => whnf)
    ((conv in (_[_]?) => tactic => exact app_get H [PObj.mk 30 (m.tgs.map dem) 1, PObj.mk 32 (m.rep.map dem) 1, PObj.mk 34 (m.ap.map dem) 1] 1); (conv => whnf))
    refine ⟨fun h => ?_, fun h => ?_⟩
    rotate_left
    · have f36 : decide (m.rBl.length = 0) = false := decide_eq_false fun hh => h (Iff.mpr nat0 hh)
      (conv => whnf)
      exact ⟨congrArg PV.bool (by unfold othersB noTgs noRep noAp noFail; simp only [e1, e2, e3, e4, e5, f28, f29, f30, f31, f32, f33, f34, f35, f36, Bool.and_true, Bool.true_and, Bool.or_false, Bool.false_or, Bool.true_or, Bool.or_true, Bool.and_false, Bool.false_and]), _, rfl⟩
    have f36 : decide (m.rBl.length = 0) = true := decide_eq_true (Iff.mp nat0 h)
    (conv => whnf)
    refine ⟨fun h => ?_, fun h => ?_⟩
    rotate_left
    · exact (h hk).elim
    (conv => whnf)
    refine ⟨fun h => ?_, fun h => ?_⟩
    · exact (n5 h).elim
    (conv => whnf)
    refine ⟨⟨fitF _ _, fitF 0 0⟩, ?_⟩
    (conv => whnf)
    refine ⟨fun h => ?_, fun h => ?_⟩
    rotate_left
    · have f37 : decide (m.fErr = 0 ∧ m.fNonce = 0) = false := decide_eq_false fun hh => h (Iff.mpr fl_eq hh)
      (conv => whnf)
      exact ⟨congrArg PV.bool (by unfold othersB noTgs noRep noAp noFail; simp only [e1, e2, e3, e4, e5, f28, f29, f30, f31, f32, f33, f34, f35, f36, f37, Bool.and_true, Bool.true_and, Bool.or_false, Bool.false_or, Bool.true_or, Bool.or_true, Bool.and_false, Bool.false_and]), _, rfl⟩
    have f37 : decide (m.fErr = 0 ∧ m.fNonce = 0) = true := decide_eq_true (Iff.mp fl_eq h)
    (conv => whnf)
    exact ⟨congrArg PV.bool (by unfold othersB noTgs noRep noAp noFail; simp only [e1, e2, e3, e4, e5, f28, f29, f30, f31, f32, f33, f34, f35, f36, f37, Bool.and_true, Bool.true_and, Bool.or_false, Bool.false_or, Bool.true_or, Bool.or_true, Bool.and_false, Bool.false_and]), _, rfl⟩
  by_cases h5 : m.kind = 5
  · have hk := h5
    have n1 : ¬ m.kind = 1 := by omega
    have n2 : ¬ m.kind = 2 := by omega
    have n3 : ¬ m.kind = 3 := by omega
    have n4 : ¬ m.kind = 4 := by omega
    have e1 : decide (m.kind = 1) = false := decide_eq_false n1
    have e2 : decide (m.kind = 2) = false := decide_eq_false n2
    have e3 : decide (m.kind = 3) = false := decide_eq_false n3
    have e4 : decide (m.kind = 4) = false := decide_eq_false n4
    have e5 : decide (m.kind = 5) = true := decide_eq_true hk
    refine ⟨fun h => ?_, fun h => ?_⟩
    · exact (n1 h).elim
    (conv => whnf)
    refine ⟨⟨fitA _ _ _ _ _ _, fitA [] [] [] [] 0 0⟩, ?_⟩
    (conv => whnf)
    refine ⟨fun h => ?_, fun h => ?_⟩
    rotate_left
    · have f38 : noAs m = false := decide_eq_false fun hh => h (Iff.mpr as_eq hh)
      (conv => whnf)
      exact ⟨congrArg PV.bool (by unfold othersB noTgs noRep noAp noFail; simp only [e1, e2, e3, e4, e5, f38, Bool.and_true, Bool.true_and, Bool.or_false, Bool.false_or, Bool.true_or, Bool.or_true, Bool.and_false, Bool.false_and]), _, rfl⟩
    have f38 : noAs m = true := decide_eq_true (Iff.mp as_eq h)
    (conv => whnf)
    refine ⟨fun h => ?_, fun h => ?_⟩
    · exact (n2 h).elim
    (conv => whnf)
    ((conv in (_[_]?) => tactic => exact app_get H [PObj.mk 30 (m.tgs.map dem) 1, PObj.mk 32 (m.rep.map dem) 1, PObj.mk 34 (m.ap.map dem) 1] 0); (conv => whnf))
    refine callK_pure (c154 m.t1 m.t2 m.tKv m.tB none) ?_
    cases f39 : noTk m.t1 m.t2 m.tKv m.tB.length
    · (conv => whnf)
      exact ⟨congrArg PV.bool (by unfold othersB noTgs noRep noAp noFail; simp only [e1, e2, e3, e4, e5, f38, f39, Bool.and_true, Bool.true_and, Bool.or_false, Bool.false_or, Bool.true_or, Bool.or_true, Bool.and_false, Bool.false_and]), _, rfl⟩
    (conv => whnf)
    ((conv in (_[_]?) => tactic => exact app_get H [PObj.mk 30 (m.tgs.map dem) 1, PObj.mk 32 (m.rep.map dem) 1, PObj.mk 34 (m.ap.map dem) 1] 0); (conv => whnf))
    refine ⟨fun h => ?_, fun h => ?_⟩
    rotate_left
    · have f40 : decide (m.tAu.length = 0) = false := decide_eq_false fun hh => h (Iff.mpr nat0 hh)
      (conv => whnf)
      exact ⟨congrArg PV.bool (by unfold othersB noTgs noRep noAp noFail; simp only [e1, e2, e3, e4, e5, f38, f39, f40, Bool.and_true, Bool.true_and, Bool.or_false, Bool.false_or, Bool.true_or, Bool.or_true, Bool.and_false, Bool.false_and]), _, rfl⟩
    have f40 : decide (m.tAu.length = 0) = true := decide_eq_true (Iff.mp nat0 h)
    (conv => whnf)
    ((conv in (_[_]?) => tactic => exact app_get H [PObj.mk 30 (m.tgs.map dem) 1, PObj.mk 32 (m.rep.map dem) 1, PObj.mk 34 (m.ap.map dem) 1] 0); (conv => whnf))
    refine ⟨⟨fitG _ _, fitG [] []⟩, ?_⟩
    (conv => whnf)
    refine ⟨fun h => ?_, fun h => ?_⟩
    rotate_left
    · have f41 : decide (m.t3 = [] ∧ m.t4 = []) = false := decide_eq_false fun hh => h (Iff.mpr pr_eq hh)
      (conv => whnf)
      exact ⟨congrArg PV.bool (by unfold othersB noTgs noRep noAp noFail; simp only [e1, e2, e3, e4, e5, f38, f39, f40, f41, Bool.and_true, Bool.true_and, Bool.or_false, Bool.false_or, Bool.true_or, Bool.or_true, Bool.and_false, Bool.false_and]), _, rfl⟩
    have f41 : decide (m.t3 = [] ∧ m.t4 = []) = true := decide_eq_true (Iff.mp pr_eq h)
    (conv => whnf)
    ((conv in (_[_]?) => tactic => exact app_get H [PObj.mk 30 (m.tgs.map dem) 1, PObj.mk 32 (m.rep.map dem) 1, PObj.mk 34 (m.ap.map dem) 1] 0); (conv => whnf))
    refine ⟨fun h => ?_, fun h => ?_⟩
    rotate_left
    · have f42 : decide (m.tTill = 0) = false := decide_eq_false fun hh => h (Iff.mpr Iff.rfl hh)
      (conv => whnf)
      exact ⟨congrArg PV.bool (by unfold othersB noTgs noRep noAp noFail; simp only [e1, e2, e3, e4, e5, f38, f39, f40, f41, f42, Bool.and_true, Bool.true_and, Bool.or_false, Bool.false_or, Bool.true_or, Bool.or_true, Bool.and_false, Bool.false_and]), _, rfl⟩
    have f42 : decide (m.tTill = 0) = true := decide_eq_true (Iff.mp Iff.rfl h)
    (conv => whnf)
    ((conv in (_[_]?) => tactic => exact app_get H [PObj.mk 30 (m.tgs.map dem) 1, PObj.mk 32 (m.rep.map dem) 1, PObj.mk 34 (m.ap.map dem) 1] 0); (conv => whnf))
    refine ⟨fun h => ?_, fun h => ?_⟩
    rotate_left
    · have f43 : decide (m.tNonce = 0) = false := decide_eq_false fun hh => h (Iff.mpr Iff.rfl hh)
      (conv => whnf)
      exact ⟨congrArg PV.bool (by unfold othersB noTgs noRep noAp noFail; simp only [e1, e2, e3, e4, e5, f38, f39, f40, f41, f42, f43, Bool.and_true, Bool.true_and, Bool.or_false, Bool.false_or, Bool.true_or, Bool.or_true, Bool.and_false, Bool.false_and]), _, rfl⟩
    have f43 : decide (m.tNonce = 0) = true := decide_eq_true (Iff.mp Iff.rfl h)
    (conv => whnf)
    refine ⟨fun h => ?_, fun h => ?_⟩
    · exact (n3 h).elim
    (conv => whnf)
    ((conv in (_[_]?) => tactic => exact app_get H [PObj.mk 30 (m.tgs.map dem) 1, PObj.mk 32 (m.rep.map dem) 1, PObj.mk 34 (m.ap.map dem) 1] 1); (conv => whnf))
    refine ⟨⟨fitG _ _, fitG [] []⟩, ?_⟩
    (conv => whnf)
    refine ⟨fun h => ?_, fun h => ?_⟩
    rotate_left
    · have f44 : decide (m.r1 = [] ∧ m.r2 = []) = false := decide_eq_false fun hh => h (Iff.mpr pr_eq hh)
      (conv => whnf)
      exact ⟨congrArg PV.bool (by unfold othersB noTgs noRep noAp noFail; simp only [e1, e2, e3, e4, e5, f38, f39, f40, f41, f42, f43, f44, Bool.and_true, Bool.true_and, Bool.or_false, Bool.false_or, Bool.true_or, Bool.or_true, Bool.and_false, Bool.false_and]), _, rfl⟩
    have f44 : decide (m.r1 = [] ∧ m.r2 = []) = true := decide_eq_true (Iff.mp pr_eq h)
    (conv => whnf)
    ((conv in (_[_]?) => tactic => exact app_get H [PObj.mk 30 (m.tgs.map dem) 1, PObj.mk 32 (m.rep.map dem) 1, PObj.mk 34 (m.ap.map dem) 1] 1); (conv => whnf))
    refine callK_pure (c154 m.r3 m.r4 m.rKv m.rB none) ?_
    cases f45 : noTk m.r3 m.r4 m.rKv m.rB.length
    · (conv => whnf)
      exact ⟨congrArg PV.bool (by unfold othersB noTgs noRep noAp noFail; simp only [e1, e2, e3, e4, e5, f38, f39, f40, f41, f42, f43, f44, f45, Bool.and_true, Bool.true_and, Bool.or_false, Bool.false_or, Bool.true_or, Bool.or_true, Bool.and_false, Bool.false_and]), _, rfl⟩
    (conv => whnf)
    ((conv in (_[_]?) => tactic => exact app_get H [PObj.mk 30 (m.tgs.map dem) 1, PObj.mk 32 (m.rep.map dem) 1, PObj.mk 34 (m.ap.map dem) 1] 1); (conv => whnf))
    refine ⟨fun h => ?_, fun h => ?_⟩
    rotate_left
    · have f46 : decide (m.rBl.length = 0) = false := decide_eq_false fun hh => h (Iff.mpr nat0 hh)
      (conv => whnf)
      exact ⟨congrArg PV.bool (by unfold othersB noTgs noRep noAp noFail; simp only [e1, e2, e3, e4, e5, f38, f39, f40, f41, f42, f43, f44, f45, f46, Bool.and_true, Bool.true_and, Bool.or_false, Bool.false_or, Bool.true_or, Bool.or_true, Bool.and_false, Bool.false_and]), _, rfl⟩
    have f46 : decide (m.rBl.length = 0) = true := decide_eq_true (Iff.mp nat0 h)
    (conv => whnf)
    refine ⟨fun h => ?_, fun h => ?_⟩
    · exact (n4 h).elim
    (conv => whnf)
    ((conv in (_[_]?) => tactic => exact app_get H [PObj.mk 30 (m.tgs.map dem) 1, PObj.mk 32 (m.rep.map dem) 1, PObj.mk 34 (m.ap.map dem) 1] 2); (conv => whnf))
    refine callK_pure (c154 m.p1 m.p2 m.pKv m.pB none) ?_
    cases f47 : noTk m.p1 m.p2 m.pKv m.pB.length
    · (conv => whnf)
      exact ⟨congrArg PV.bool (by unfold othersB noTgs noRep noAp noFail; simp only [e1, e2, e3, e4, e5, f38, f39, f40, f41, f42, f43, f44, f45, f46, f47, Bool.and_true, Bool.true_and, Bool.or_false, Bool.false_or, Bool.true_or, Bool.or_true, Bool.and_false, Bool.false_and]), _, rfl⟩
    (conv => whnf)
    ((conv in (_[_]?) => tactic => exact app_get H [PObj.mk 30 (m.tgs.map dem) 1, PObj.mk 32 (m.rep.map dem) 1, PObj.mk 34 (m.ap.map dem) 1] 2); (conv => whnf))
    refine ⟨fun h => ?_, fun h => ?_⟩
    rotate_left
    · have f48 : decide (m.pAu.length = 0) = false := decide_eq_false fun hh => h (Iff.mpr nat0 hh)
      (conv => whnf)
      exact ⟨congrArg PV.bool (by unfold othersB noTgs noRep noAp noFail; simp only [e1, e2, e3, e4, e5, f38, f39, f40, f41, f42, f43, f44, f45, f46, f47, f48, Bool.and_true, Bool.true_and, Bool.or_false, Bool.false_or, Bool.true_or, Bool.or_true, Bool.and_false, Bool.false_and]), _, rfl⟩
    have f48 : decide (m.pAu.length = 0) = true := decide_eq_true (Iff.mp nat0 h)
    (conv => whnf)
    refine ⟨fun h => ?_, fun h => ?_⟩
    rotate_left
    · exact (h hk).elim
    (conv => whnf)
    exact ⟨congrArg PV.bool (by unfold othersB noTgs noRep noAp noFail; simp only [e1, e2, e3, e4, e5, f38, f39, f40, f41, f42, f43, f44, f45, f46, f47, f48, Bool.and_true, Bool.true_and, Bool.or_false, Bool.false_or, Bool.true_or, Bool.or_true, Bool.and_false, Bool.false_and]), _, rfl⟩
  have n1 : ¬ m.kind = 1 := h1
  have n2 : ¬ m.kind = 2 := h2
  have n3 : ¬ m.kind = 3 := h3
  have n4 : ¬ m.kind = 4 := h4
  have n5 : ¬ m.kind = 5 := h5
  have e1 : decide (m.kind = 1) = false := decide_eq_false n1
  have e2 : decide (m.kind = 2) = false := decide_eq_false n2
  have e3 : decide (m.kind = 3) = false := decide_eq_false n3
  have e4 : decide (m.kind = 4) = false := decide_eq_false n4
  have e5 : decide (m.kind = 5) = false := decide_eq_false n5
  refine ⟨fun h => ?_, fun h => ?_⟩
  · exact (n1 h).elim
  (conv => whnf)
  refine ⟨⟨fitA _ _ _ _ _ _, fitA [] [] [] [] 0 0⟩, ?_⟩
  (conv => whnf)
  refine ⟨fun h => ?_, fun h => ?_⟩
  rotate_left
  · have f49 : noAs m = false := decide_eq_false fun hh => h (Iff.mpr as_eq hh)
    (conv => whnf)
    exact ⟨congrArg PV.bool (by unfold othersB noTgs noRep noAp noFail; simp only [e1, e2, e3, e4, e5, f49, Bool.and_true, Bool.true_and, Bool.or_false, Bool.false_or, Bool.true_or, Bool.or_true, Bool.and_false, Bool.false_and]), _, rfl⟩
  have f49 : noAs m = true := decide_eq_true (Iff.mp as_eq h)
  (conv => whnf)
  refine ⟨fun h => ?_, fun h => ?_⟩
  · exact (n2 h).elim
  (conv => whnf)
  ((conv in (_[_]?) => tactic => exact app_get H [PObj.mk 30 (m.tgs.map dem) 1, PObj.mk 32 (m.rep.map dem) 1, PObj.mk 34 (m.ap.map dem) 1] 0); (conv => whnf))
  refine callK_pure (c154 m.t1 m.t2 m.tKv m.tB none) ?_
  cases f50 : noTk m.t1 m.t2 m.tKv m.tB.length
  · (conv => whnf)
    exact ⟨congrArg PV.bool (by unfold othersB noTgs noRep noAp noFail; simp only [e1, e2, e3, e4, e5, f49, f50, Bool.and_true, Bool.true_and, Bool.or_false, Bool.false_or, Bool.true_or, Bool.or_true, Bool.and_false, Bool.false_and]), _, rfl⟩
  (conv => whnf)
  ((conv in (_[_]?) => tactic => exact app_get H [PObj.mk 30 (m.tgs.map dem) 1, PObj.mk 32 (m.rep.map dem) 1, PObj.mk 34 (m.ap.map dem) 1] 0); (conv => whnf))
  refine ⟨fun h => ?_, fun h => ?_⟩
  rotate_left
  · have f51 : decide (m.tAu.length = 0) = false := decide_eq_false fun hh => h (Iff.mpr nat0 hh)
    (conv => whnf)
    exact ⟨congrArg PV.bool (by unfold othersB noTgs noRep noAp noFail; simp only [e1, e2, e3, e4, e5, f49, f50, f51, Bool.and_true, Bool.true_and, Bool.or_false, Bool.false_or, Bool.true_or, Bool.or_true, Bool.and_false, Bool.false_and]), _, rfl⟩
  have f51 : decide (m.tAu.length = 0) = true := decide_eq_true (Iff.mp nat0 h)
  (conv => whnf)
  ((conv in (_[_]?) => tactic => exact app_get H [PObj.mk 30 (m.tgs.map dem) 1, PObj.mk 32 (m.rep.map dem) 1, PObj.mk 34 (m.ap.map dem) 1] 0); (conv => whnf))
  refine ⟨⟨fitG _ _, fitG [] []⟩, ?_⟩
  (conv => whnf)
  refine ⟨fun h => ?_, fun h => ?_⟩
  rotate_left
  · have f52 : decide (m.t3 = [] ∧ m.t4 = []) = false := decide_eq_false fun hh => h (Iff.mpr pr_eq hh)
    (conv => whnf)
    exact ⟨congrArg PV.bool (by unfold othersB noTgs noRep noAp noFail; simp only [e1, e2, e3, e4, e5, f49, f50, f51, f52, Bool.and_true, Bool.true_and, Bool.or_false, Bool.false_or, Bool.true_or, Bool.or_true, Bool.and_false, Bool.false_and]), _, rfl⟩
  have f52 : decide (m.t3 = [] ∧ m.t4 = []) = true := decide_eq_true (Iff.mp pr_eq h)
  (conv => whnf)
  ((conv in (_[_]?) => tactic => exact app_get H [PObj.mk 30 (m.tgs.map dem) 1, PObj.mk 32 (m.rep.map dem) 1, PObj.mk 34 (m.ap.map dem) 1] 0); (conv => whnf))
  refine ⟨fun h => ?_, fun h => ?_⟩
  rotate_left
  · have f53 : decide (m.tTill = 0) = false := decide_eq_false fun hh => h (Iff.mpr Iff.rfl hh)
    (conv => whnf)
    exact ⟨congrArg PV.bool (by unfold othersB noTgs noRep noAp noFail; simp only [e1, e2, e3, e4, e5, f49, f50, f51, f52, f53, Bool.and_true, Bool.true_and, Bool.or_false, Bool.false_or, Bool.true_or, Bool.or_true, Bool.and_false, Bool.false_and]), _, rfl⟩
  have f53 : decide (m.tTill = 0) = true := decide_eq_true (Iff.mp Iff.rfl h)
  (conv => whnf)
  ((conv in (_[_]?) => tactic => exact app_get H [PObj.mk 30 (m.tgs.map dem) 1, PObj.mk 32 (m.rep.map dem) 1, PObj.mk 34 (m.ap.map dem) 1] 0); (conv => whnf))
  refine ⟨fun h => ?_, fun h => ?_⟩
  rotate_left
  · have f54 : decide (m.tNonce = 0) = false := decide_eq_false fun hh => h (Iff.mpr Iff.rfl hh)
    (conv => whnf)
    exact ⟨congrArg PV.bool (by unfold othersB noTgs noRep noAp noFail; simp only [e1, e2, e3, e4, e5, f49, f50, f51, f52, f53, f54, Bool.and_true, Bool.true_and, Bool.or_false, Bool.false_or, Bool.true_or, Bool.or_true, Bool.and_false, Bool.false_and]), _, rfl⟩
  have f54 : decide (m.tNonce = 0) = true := decide_eq_true (Iff.mp Iff.rfl h)
  (conv => whnf)
  refine ⟨fun h => ?_, fun h => ?_⟩
  · exact (n3 h).elim
  (conv => whnf)
  ((conv in (_[_]?) => tactic => exact app_get H [PObj.mk 30 (m.tgs.map dem) 1, PObj.mk 32 (m.rep.map dem) 1, PObj.mk 34 (m.ap.map dem) 1] 1); (conv => whnf))
  refine ⟨⟨fitG _ _, fitG [] []⟩, ?_⟩
  (conv => whnf)
  refine ⟨fun h => ?_, fun h => ?_⟩
  rotate_left
  · have f55 : decide (m.r1 = [] ∧ m.r2 = []) = false := decide_eq_false fun hh => h (Iff.mpr pr_eq hh)
    (conv => whnf)
    exact ⟨congrArg PV.bool (by unfold othersB noTgs noRep noAp noFail; simp only [e1, e2, e3, e4, e5, f49, f50, f51, f52, f53, f54, f55, Bool.and_true, Bool.true_and, Bool.or_false, Bool.false_or, Bool.true_or, Bool.or_true, Bool.and_false, Bool.false_and]), _, rfl⟩
  have f55 : decide (m.r1 = [] ∧ m.r2 = []) = true := decide_eq_true (Iff.mp pr_eq h)
  (conv => whnf)
  ((conv in (_[_]?) => tactic => exact app_get H [PObj.mk 30 (m.tgs.map dem) 1, PObj.mk 32 (m.rep.map dem) 1, PObj.mk 34 (m.ap.map dem) 1] 1); (conv => whnf))
  refine callK_pure (c154 m.r3 m.r4 m.rKv m.rB none) ?_
  cases f56 : noTk m.r3 m.r4 m.rKv m.rB.length
  · (conv => whnf)
    exact ⟨congrArg PV.bool (by unfold othersB noTgs noRep noAp noFail; simp only [e1, e2, e3, e4, e5, f49, f50, f51, f52, f53, f54, f55, f56, Bool.and_true, Bool.true_and, Bool.or_false, Bool.false_or, Bool.true_or, Bool.or_true, Bool.and_false, Bool.false_and]), _, rfl⟩
  (conv => whnf)
  ((conv in (_[_]?) => tactic => exact app_get H [PObj.mk 30 (m.tgs.map dem) 1, PObj.mk 32 (m.rep.map dem) 1, PObj.mk 34 (m.ap.map dem) 1] 1); (conv => whnf))
  refine ⟨fun h => ?_, fun h => ?_⟩
  rotate_left
  · have f57 : decide (m.rBl.length = 0) = false := decide_eq_false fun hh => h (Iff.mpr nat0 hh)
    (conv => whnf)
    exact ⟨congrArg PV.bool (by unfold othersB noTgs noRep noAp noFail; simp only [e1, e2, e3, e4, e5, f49, f50, f51, f52, f53, f54, f55, f56, f57, Bool.and_true, Bool.true_and, Bool.or_false, Bool.false_or, Bool.true_or, Bool.or_true, Bool.and_false, Bool.false_and]), _, rfl⟩
  have f57 : decide (m.rBl.length = 0) = true := decide_eq_true (Iff.mp nat0 h)
  (conv => whnf)
  refine ⟨fun h => ?_, fun h => ?_⟩
  · exact (n4 h).elim
  (conv => whnf)
  ((conv in (_[_]?) => tactic => exact app_get H [PObj.mk 30 (m.tgs.map dem) 1, PObj.mk 32 (m.rep.map dem) 1, PObj.mk 34 (m.ap.map dem) 1] 2); (conv => whnf))
  refine callK_pure (c154 m.p1 m.p2 m.pKv m.pB none) ?_
  cases f58 : noTk m.p1 m.p2 m.pKv m.pB.length
  · (conv => whnf)
    exact ⟨congrArg PV.bool (by unfold othersB noTgs noRep noAp noFail; simp only [e1, e2, e3, e4, e5, f49, f50, f51, f52, f53, f54, f55, f56, f57, f58, Bool.and_true, Bool.true_and, Bool.or_false, Bool.false_or, Bool.true_or, Bool.or_true, Bool.and_false, Bool.false_and]), _, rfl⟩
  (conv => whnf)
  ((conv in (_[_]?) => tactic => exact app_get H [PObj.mk 30 (m.tgs.map dem) 1, PObj.mk 32 (m.rep.map dem) 1, PObj.mk 34 (m.ap.map dem) 1] 2); (conv => whnf))
  refine ⟨fun h => ?_, fun h => ?_⟩
  rotate_left
  · have f59 : decide (m.pAu.length = 0) = false := decide_eq_false fun hh => h (Iff.mpr nat0 hh)
    (conv => whnf)
    exact ⟨congrArg PV.bool (by unfold othersB noTgs noRep noAp noFail; simp only [e1, e2, e3, e4, e5, f49, f50, f51, f52, f53, f54, f55, f56, f57, f58, f59, Bool.and_true, Bool.true_and, Bool.or_false, Bool.false_or, Bool.true_or, Bool.or_true, Bool.and_false, Bool.false_and]), _, rfl⟩
  have f59 : decide (m.pAu.length = 0) = true := decide_eq_true (Iff.mp nat0 h)
  (conv => whnf)
  refine ⟨fun h => ?_, fun h => ?_⟩
  · exact (n5 h).elim
  (conv => whnf)
  refine ⟨⟨fitF _ _, fitF 0 0⟩, ?_⟩
  (conv => whnf)
  refine ⟨fun h => ?_, fun h => ?_⟩
  rotate_left
  · have f60 : decide (m.fErr = 0 ∧ m.fNonce = 0) = false := decide_eq_false fun hh => h (Iff.mpr fl_eq hh)
    (conv => whnf)
    exact ⟨congrArg PV.bool (by unfold othersB noTgs noRep noAp noFail; simp only [e1, e2, e3, e4, e5, f49, f50, f51, f52, f53, f54, f55, f56, f57, f58, f59, f60, Bool.and_true, Bool.true_and, Bool.or_false, Bool.false_or, Bool.true_or, Bool.or_true, Bool.and_false, Bool.false_and]), _, rfl⟩
  have f60 : decide (m.fErr = 0 ∧ m.fNonce = 0) = true := decide_eq_true (Iff.mp fl_eq h)
  (conv => whnf)
  exact ⟨congrArg PV.bool (by unfold othersB noTgs noRep noAp noFail; simp only [e1, e2, e3, e4, e5, f49, f50, f51, f52, f53, f54, f55, f56, f57, f58, f59, f60, Bool.and_true, Bool.true_and, Bool.or_false, Bool.false_or, Bool.true_or, Bool.or_true, Bool.and_false, Bool.false_and]), _, rfl⟩
theorem c120 (m : Msg) : Pure prog 120 [.agg m.cells] (.bool (othersB m)) := Pure.of_gc rfl (c120x m)
end Go.Proofs.Tryz

set_option maxRecDepth 100000
set_option linter.unusedVariables false
set_option linter.unusedSimpArgs false
namespace Go.Proofs.Tryz
open Go Ps
def Msg.fits (m : Msg) : Prop := m.a1.length ≤ 1099511620000 ∧ m.a2.length ≤ 1099511620000 ∧ m.a3.length ≤ 1099511620000 ∧ m.a4.length ≤ 1099511620000 ∧ m.t1.length ≤ 1099511620000 ∧ m.t2.length ≤ 1099511620000 ∧ m.t3.length ≤ 1099511620000 ∧ m.t4.length ≤ 1099511620000 ∧ m.r1.length ≤ 1099511620000 ∧ m.r2.length ≤ 1099511620000 ∧ m.r3.length ≤ 1099511620000 ∧ m.r4.length ≤ 1099511620000 ∧ m.p1.length ≤ 1099511620000 ∧ m.p2.length ≤ 1099511620000
def isB (m : Msg) : Bool :=
  (if m.kind = 1 then isPrincB m.a1 m.a2 && isPrincB m.a3 m.a4 && inZ m.aTill 0 1073741824 && inZ m.aNonce 0 1073741824
   else if m.kind = 2 then tickB m.t1 m.t2 m.tKv m.tB.length && inZ m.tAu.length 1 800 && isPrincB m.t3 m.t4 && inZ m.tTill 0 1073741824 && inZ m.tNonce 0 1073741824
   else if m.kind = 3 then isPrincB m.r1 m.r2 && tickB m.r3 m.r4 m.rKv m.rB.length && inZ m.rBl.length 1 800
   else if m.kind = 4 then tickB m.p1 m.p2 m.pKv m.pB.length && inZ m.pAu.length 1 800
   else if m.kind = 5 then inZ m.fErr 1 255 && inZ m.fNonce 0 1073741824
   else false) && othersB m
/-- The same of no owner. -/
def Msg.d (m : Msg) : Msg := { m with tBo := none, tAuo := none, rBo := none, rBlo := none, pBo := none, pAuo := none }
theorem od {m : Msg} : othersB m.d = othersB m := rfl
theorem c63a (n : Int) : Pure prog 63 [.slice 1 [.int .i64 n] none] (.bool (inZ n 0 1073741824)) := (c63 [n] (by show 1 ≤ _; omega)).of_eq (by show PV.bool (inZ n 0 1073741824 && true) = _; rw [Bool.and_true])
theorem c58x (m : Msg) (hm : m.fits) (H : PH) : CallOk prog 58 [.agg m.cells] H fun r H' => r = .bool (isB m) ∧ ∃ ext, H' = H ++ ext := by
  (refine callOk_of_pFun2 (tt := ttG) (imm := imm58) follows ttG_ok depth6 func58 (by kernel_rfl) ?_; (conv => whnf))
  (conv => whnf)
  by_cases h1 : m.kind = 1
  · have hk := h1
    have n2 : ¬ m.kind = 2 := by omega
    have n3 : ¬ m.kind = 3 := by omega
    have n4 : ¬ m.kind = 4 := by omega
    have n5 : ¬ m.kind = 5 := by omega
    refine ⟨fun h => ?_, fun h => ?_⟩
    rotate_left
    · exact (h hk).elim
    (conv => whnf)
    ((conv in (_[_]?) => tactic => exact get_last _ _); (conv => whnf))
    ((conv in (_[_]?) => tactic => exact get_set (get_last _ _)); (conv => whnf))
    refine callK_pure (c61 m.a1 m.a2 (by have := hm.1; omega) (by have := hm.2.1; omega)) ?_
    cases f1 : isPrincB m.a1 m.a2
    · (conv => whnf)
      exact ⟨congrArg PV.bool (by unfold isB; rw [if_pos hk]; simp only [f1, od, Bool.and_true, Bool.true_and, Bool.and_false, Bool.false_and]), (Ext.refl _).push _ |>.set (Ext.refl _).len _⟩
    (conv => whnf)
    ((conv in (_[_]?) => tactic => exact get_set (get_last _ _)); (conv => whnf))
    refine callK_pure (c61 m.a3 m.a4 (by have := hm.2.2.1; omega) (by have := hm.2.2.2.1; omega)) ?_
    cases f2 : isPrincB m.a3 m.a4
    · (conv => whnf)
      exact ⟨congrArg PV.bool (by unfold isB; rw [if_pos hk]; simp only [f1, f2, od, Bool.and_true, Bool.true_and, Bool.and_false, Bool.false_and]), (Ext.refl _).push _ |>.set (Ext.refl _).len _⟩
    (conv => whnf)
    ((conv in (_[_]?) => tactic => exact get_set (get_last _ _)); (conv => whnf))
    refine callK_pure (c63a m.aTill) ?_
    cases f3 : inZ m.aTill 0 1073741824
    · (conv => whnf)
      exact ⟨congrArg PV.bool (by unfold isB; rw [if_pos hk]; simp only [f1, f2, f3, od, Bool.and_true, Bool.true_and, Bool.and_false, Bool.false_and]), (Ext.refl _).push _ |>.set (Ext.refl _).len _⟩
    (conv => whnf)
    ((conv in (_[_]?) => tactic => exact get_set (get_last _ _)); (conv => whnf))
    refine callK_pure (c75 m.aNonce) ?_
    cases f4 : inZ m.aNonce 0 1073741824
    · (conv => whnf)
      exact ⟨congrArg PV.bool (by unfold isB; rw [if_pos hk]; simp only [f1, f2, f3, f4, od, Bool.and_true, Bool.true_and, Bool.and_false, Bool.false_and]), (Ext.refl _).push _ |>.set (Ext.refl _).len _⟩
    (conv => whnf)
    refine callK_pure (c120 m.d) ?_
    (conv => whnf)
    exact ⟨congrArg PV.bool (by unfold isB; rw [if_pos hk]; simp only [f1, f2, f3, f4, od, Bool.and_true, Bool.true_and, Bool.and_false, Bool.false_and]), (Ext.refl _).push _ |>.set (Ext.refl _).len _⟩
  by_cases h2 : m.kind = 2
  · have hk := h2
    have n1 : ¬ m.kind = 1 := by omega
    have n3 : ¬ m.kind = 3 := by omega
    have n4 : ¬ m.kind = 4 := by omega
    have n5 : ¬ m.kind = 5 := by omega
    refine ⟨fun h => ?_, fun h => ?_⟩
    · exact (n1 h).elim
    (conv => whnf)
    refine ⟨fun h => ?_, fun h => ?_⟩
    rotate_left
    · exact (h hk).elim
    (conv => whnf)
    ((conv in (_[_]?) => tactic => exact get_last _ _); (conv => whnf))
    ((conv in (_[_]?) => tactic => exact get_set (get_last _ _)); (conv => whnf))
    refine callK_pure (c117 m.t1 m.t2 m.tKv m.tB none (by have := hm.2.2.2.2.1; omega) (by have := hm.2.2.2.2.2.1; omega)) ?_
    cases f5 : tickB m.t1 m.t2 m.tKv m.tB.length
    · (conv => whnf)
      exact ⟨congrArg PV.bool (by unfold isB; rw [if_neg n1]; rw [if_pos hk]; simp only [f5, od, Bool.and_true, Bool.true_and, Bool.and_false, Bool.false_and]), (Ext.refl _).push _ |>.set (Ext.refl _).len _⟩
    (conv => whnf)
    ((conv in (_[_]?) => tactic => exact get_set (get_last _ _)); (conv => whnf))
    refine callK_pure (c118 m.tAu.length _ _) ?_
    cases f6 : inZ m.tAu.length 1 800
    · (conv => whnf)
      exact ⟨congrArg PV.bool (by unfold isB; rw [if_neg n1]; rw [if_pos hk]; simp only [f5, f6, od, Bool.and_true, Bool.true_and, Bool.and_false, Bool.false_and]), (Ext.refl _).push _ |>.set (Ext.refl _).len _⟩
    (conv => whnf)
    ((conv in (_[_]?) => tactic => exact get_set (get_last _ _)); (conv => whnf))
    refine callK_pure (c61 m.t3 m.t4 (by have := hm.2.2.2.2.2.2.1; omega) (by have := hm.2.2.2.2.2.2.2.1; omega)) ?_
    cases f7 : isPrincB m.t3 m.t4
    · (conv => whnf)
      exact ⟨congrArg PV.bool (by unfold isB; rw [if_neg n1]; rw [if_pos hk]; simp only [f5, f6, f7, od, Bool.and_true, Bool.true_and, Bool.and_false, Bool.false_and]), (Ext.refl _).push _ |>.set (Ext.refl _).len _⟩
    (conv => whnf)
    ((conv in (_[_]?) => tactic => exact get_set (get_last _ _)); (conv => whnf))
    refine callK_pure (c63a m.tTill) ?_
    cases f8 : inZ m.tTill 0 1073741824
    · (conv => whnf)
      exact ⟨congrArg PV.bool (by unfold isB; rw [if_neg n1]; rw [if_pos hk]; simp only [f5, f6, f7, f8, od, Bool.and_true, Bool.true_and, Bool.and_false, Bool.false_and]), (Ext.refl _).push _ |>.set (Ext.refl _).len _⟩
    (conv => whnf)
    ((conv in (_[_]?) => tactic => exact get_set (get_last _ _)); (conv => whnf))
    refine callK_pure (c75 m.tNonce) ?_
    cases f9 : inZ m.tNonce 0 1073741824
    · (conv => whnf)
      exact ⟨congrArg PV.bool (by unfold isB; rw [if_neg n1]; rw [if_pos hk]; simp only [f5, f6, f7, f8, f9, od, Bool.and_true, Bool.true_and, Bool.and_false, Bool.false_and]), (Ext.refl _).push _ |>.set (Ext.refl _).len _⟩
    (conv => whnf)
    refine callK_pure (c120 m.d) ?_
    (conv => whnf)
    exact ⟨congrArg PV.bool (by unfold isB; rw [if_neg n1]; rw [if_pos hk]; simp only [f5, f6, f7, f8, f9, od, Bool.and_true, Bool.true_and, Bool.and_false, Bool.false_and]), (Ext.refl _).push _ |>.set (Ext.refl _).len _⟩
  by_cases h3 : m.kind = 3
  · have hk := h3
    have n1 : ¬ m.kind = 1 := by omega
    have n2 : ¬ m.kind = 2 := by omega
    have n4 : ¬ m.kind = 4 := by omega
    have n5 : ¬ m.kind = 5 := by omega
    refine ⟨fun h => ?_, fun h => ?_⟩
    · exact (n1 h).elim
    (conv => whnf)
    refine ⟨fun h => ?_, fun h => ?_⟩
    · exact (n2 h).elim
    (conv => whnf)
    refine ⟨fun h => ?_, fun h => ?_⟩
    rotate_left
    · exact (h hk).elim
    (conv => whnf)
    refine callK_pure (c61 m.r1 m.r2 (by have := hm.2.2.2.2.2.2.2.2.1; omega) (by have := hm.2.2.2.2.2.2.2.2.2.1; omega)) ?_
    cases f10 : isPrincB m.r1 m.r2
    · (conv => whnf)
      exact ⟨congrArg PV.bool (by unfold isB; rw [if_neg n1]; rw [if_neg n2]; rw [if_pos hk]; simp only [f10, od, Bool.and_true, Bool.true_and, Bool.and_false, Bool.false_and]), Ext.refl _⟩
    (conv => whnf)
    refine callK_pure (c117 m.r3 m.r4 m.rKv m.rB none (by have := hm.2.2.2.2.2.2.2.2.2.2.1; omega) (by have := hm.2.2.2.2.2.2.2.2.2.2.2.1; omega)) ?_
    cases f11 : tickB m.r3 m.r4 m.rKv m.rB.length
    · (conv => whnf)
      exact ⟨congrArg PV.bool (by unfold isB; rw [if_neg n1]; rw [if_neg n2]; rw [if_pos hk]; simp only [f10, f11, od, Bool.and_true, Bool.true_and, Bool.and_false, Bool.false_and]), Ext.refl _⟩
    (conv => whnf)
    refine callK_pure (c118 m.rBl.length _ _) ?_
    cases f12 : inZ m.rBl.length 1 800
    · (conv => whnf)
      exact ⟨congrArg PV.bool (by unfold isB; rw [if_neg n1]; rw [if_neg n2]; rw [if_pos hk]; simp only [f10, f11, f12, od, Bool.and_true, Bool.true_and, Bool.and_false, Bool.false_and]), Ext.refl _⟩
    (conv => whnf)
    refine callK_pure (c120 m.d) ?_
    (conv => whnf)
    exact ⟨congrArg PV.bool (by unfold isB; rw [if_neg n1]; rw [if_neg n2]; rw [if_pos hk]; simp only [f10, f11, f12, od, Bool.and_true, Bool.true_and, Bool.and_false, Bool.false_and]), Ext.refl _⟩
  by_cases h4 : m.kind = 4
  · have hk := h4
    have n1 : ¬ m.kind = 1 := by omega
    have n2 : ¬ m.kind = 2 := by omega
    have n3 : ¬ m.kind = 3 := by omega
    have n5 : ¬ m.kind = 5 := by omega
    refine ⟨fun h => ?_, fun h => ?_⟩
    · exact (n1 h).elim
    (conv => whnf)
    refine ⟨fun h => ?_, fun h => ?_⟩
    · exact (n2 h).elim
    (conv => whnf)
    refine ⟨fun h => ?_, fun h => ?_⟩
    · exact (n3 h).elim
    (conv => whnf)
    refine ⟨fun h => ?_, fun h => ?_⟩
    rotate_left
    · exact (h hk).elim
    (conv => whnf)
    refine callK_pure (c117 m.p1 m.p2 m.pKv m.pB none (by have := hm.2.2.2.2.2.2.2.2.2.2.2.2.1; omega) (by have := hm.2.2.2.2.2.2.2.2.2.2.2.2.2; omega)) ?_
    cases f13 : tickB m.p1 m.p2 m.pKv m.pB.length
    · (conv => whnf)
      exact ⟨congrArg PV.bool (by unfold isB; rw [if_neg n1]; rw [if_neg n2]; rw [if_neg n3]; rw [if_pos hk]; simp only [f13, od, Bool.and_true, Bool.true_and, Bool.and_false, Bool.false_and]), Ext.refl _⟩
    (conv => whnf)
    refine callK_pure (c118 m.pAu.length _ _) ?_
    cases f14 : inZ m.pAu.length 1 800
    · (conv => whnf)
      exact ⟨congrArg PV.bool (by unfold isB; rw [if_neg n1]; rw [if_neg n2]; rw [if_neg n3]; rw [if_pos hk]; simp only [f13, f14, od, Bool.and_true, Bool.true_and, Bool.and_false, Bool.false_and]), Ext.refl _⟩
    (conv => whnf)
    refine callK_pure (c120 m.d) ?_
    (conv => whnf)
    exact ⟨congrArg PV.bool (by unfold isB; rw [if_neg n1]; rw [if_neg n2]; rw [if_neg n3]; rw [if_pos hk]; simp only [f13, f14, od, Bool.and_true, Bool.true_and, Bool.and_false, Bool.false_and]), Ext.refl _⟩
  by_cases h5 : m.kind = 5
  · have hk := h5
    have n1 : ¬ m.kind = 1 := by omega
    have n2 : ¬ m.kind = 2 := by omega
    have n3 : ¬ m.kind = 3 := by omega
    have n4 : ¬ m.kind = 4 := by omega
    refine ⟨fun h => ?_, fun h => ?_⟩
    · exact (n1 h).elim
    (conv => whnf)
    refine ⟨fun h => ?_, fun h => ?_⟩
    · exact (n2 h).elim
    (conv => whnf)
    refine ⟨fun h => ?_, fun h => ?_⟩
    · exact (n3 h).elim
    (conv => whnf)
    refine ⟨fun h => ?_, fun h => ?_⟩
    · exact (n4 h).elim
    (conv => whnf)
    refine ⟨fun h => ?_, fun h => ?_⟩
    rotate_left
    · exact (h hk).elim
    (conv => whnf)
    refine callK_pure (c119 m.fErr 1 255) ?_
    cases f15 : inZ m.fErr 1 255
    · (conv => whnf)
      exact ⟨congrArg PV.bool (by unfold isB; rw [if_neg n1]; rw [if_neg n2]; rw [if_neg n3]; rw [if_neg n4]; rw [if_pos hk]; simp only [f15, od, Bool.and_true, Bool.true_and, Bool.and_false, Bool.false_and]), Ext.refl _⟩
    (conv => whnf)
    refine callK_pure (c75 m.fNonce) ?_
    cases f16 : inZ m.fNonce 0 1073741824
    · (conv => whnf)
      exact ⟨congrArg PV.bool (by unfold isB; rw [if_neg n1]; rw [if_neg n2]; rw [if_neg n3]; rw [if_neg n4]; rw [if_pos hk]; simp only [f15, f16, od, Bool.and_true, Bool.true_and, Bool.and_false, Bool.false_and]), Ext.refl _⟩
    (conv => whnf)
    refine callK_pure (c120 m.d) ?_
    (conv => whnf)
    exact ⟨congrArg PV.bool (by unfold isB; rw [if_neg n1]; rw [if_neg n2]; rw [if_neg n3]; rw [if_neg n4]; rw [if_pos hk]; simp only [f15, f16, od, Bool.and_true, Bool.true_and, Bool.and_false, Bool.false_and]), Ext.refl _⟩
  have n1 : ¬ m.kind = 1 := h1
  have n2 : ¬ m.kind = 2 := h2
  have n3 : ¬ m.kind = 3 := h3
  have n4 : ¬ m.kind = 4 := h4
  have n5 : ¬ m.kind = 5 := h5
  refine ⟨fun h => ?_, fun h => ?_⟩
  · exact (n1 h).elim
  (conv => whnf)
  refine ⟨fun h => ?_, fun h => ?_⟩
  · exact (n2 h).elim
  (conv => whnf)
  refine ⟨fun h => ?_, fun h => ?_⟩
  · exact (n3 h).elim
  (conv => whnf)
  refine ⟨fun h => ?_, fun h => ?_⟩
  · exact (n4 h).elim
  (conv => whnf)
  refine ⟨fun h => ?_, fun h => ?_⟩
  · exact (n5 h).elim
  (conv => whnf)
  exact ⟨congrArg PV.bool (by unfold isB; rw [if_neg n1]; rw [if_neg n2]; rw [if_neg n3]; rw [if_neg n4]; rw [if_neg n5]; simp only [od, Bool.and_true, Bool.true_and, Bool.and_false, Bool.false_and]), Ext.refl _⟩
theorem c58 (m : Msg) (hm : m.fits) : Pure prog 58 [.agg m.cells] (.bool (isB m)) := Pure.of_gc rfl (c58x m hm)
end Go.Proofs.Tryz

set_option maxRecDepth 100000
set_option linter.unusedVariables false
set_option linter.unusedSimpArgs false
namespace Go.Proofs.Tryz
open Go Ps
def imm111 : List Nat := []
def imm151 : List Nat := []
def imm150 : List Nat := [1]
def imm147 : List Nat := [1]
def imm148 : List Nat := [1]
def imm149 : List Nat := [1]
def imm101 : List Nat := [1, 1000002, 1000003, 1000004]
theorem c111 (n lo hi : Int) : Pure prog 111 [.int .i64 n, .int .i64 lo, .int .i64 hi] (.bool (inZ n lo hi)) := by
  intro H
  (refine callOk_of_pFun2 (tt := ttG) (imm := imm111) follows ttG_ok depth6 func111 (by kernel_rfl) ?_; (conv => whnf))
  unfold inZ
  refine ⟨fun h => ?_, fun h => ?_⟩
  · (conv => whnf)
    have h : n ≥ lo := h
    rw [decide_eq_true (show lo ≤ n by omega)]
    refine ⟨fun h2 => ?_, fun h2 => ?_⟩
    · (conv => whnf)
      rw [decide_eq_true h2]
      exact ⟨rfl, rfl⟩
    · (conv => whnf)
      rw [decide_eq_false h2]
      exact ⟨rfl, rfl⟩
  · (conv => whnf)
    have h : ¬ n ≥ lo := h
    rw [decide_eq_false (show ¬ lo ≤ n by omega)]
    exact ⟨rfl, rfl⟩
theorem c151 (n : Nat) (cs : List PV) (o : Option Nat) : Pure prog 151 [.slice n cs o] (.bool (inZ n 1 800)) := by
  intro H
  (refine callOk_of_pFun2 (tt := ttG) (imm := imm151) follows ttG_ok depth6 func151 (by kernel_rfl) ?_; (conv => whnf))
  (refine callK_pure ((c111 n 1 800)) ?_; try (conv => whnf))
  exact ⟨rfl, rfl⟩
theorem c150 (r n : List UInt8) (kv : Int) (b : List UInt8) (o : Option Nat) (hr : r.length ≤ 1099511627775) (hn : n.length ≤ 1099511627775) :
    Pure prog 150 [.agg [.str r, .str n, .int .i64 kv, slo b o]] (.bool (tickB r n kv b.length)) := by
  intro H
  (refine callOk_of_pFun2 (tt := ttG) (imm := imm150) follows ttG_ok depth6 func150 (by kernel_rfl) ?_; (conv => whnf))
  refine callK_pure (c88 r n hr hn) ?_
  cases f1 : isPrincB r n
  · (conv => whnf)
    exact ⟨congrArg PV.bool (by unfold tickB; simp only [f1, Bool.and_true, Bool.true_and, Bool.and_false, Bool.false_and]), rfl⟩
  (conv => whnf)
  refine callK_pure (c111 kv 1 255) ?_
  cases f2 : inZ kv 1 255
  · (conv => whnf)
    exact ⟨congrArg PV.bool (by unfold tickB; simp only [f1, f2, Bool.and_true, Bool.true_and, Bool.and_false, Bool.false_and]), rfl⟩
  (conv => whnf)
  refine callK_pure (c151 b.length _ _) ?_
  cases f3 : inZ b.length 1 800
  · (conv => whnf)
    exact ⟨congrArg PV.bool (by unfold tickB; simp only [f1, f2, f3, Bool.and_true, Bool.true_and, Bool.and_false, Bool.false_and]), rfl⟩
  (conv => whnf)
  exact ⟨congrArg PV.bool (by unfold tickB; simp only [f1, f2, f3, Bool.and_true, Bool.true_and, Bool.and_false, Bool.false_and]), rfl⟩
theorem c147 (r n : List UInt8) (kv : Int) (b : List UInt8) (o : Option Nat) : Pure prog 147 [.agg [.str r, .str n, .int .i64 kv, slo b o]] (.bool (noTk r n kv b.length)) := by
  intro H
  (refine callOk_of_pFun2 (tt := ttG) (imm := imm147) follows ttG_ok depth6 func147 (by kernel_rfl) ?_; (conv => whnf))
  refine ⟨⟨fitG _ _, fitG [] []⟩, ?_⟩
  (conv => whnf)
  refine ⟨fun h => ?_, fun h => ?_⟩
  rotate_left
  · have f4 : decide (r = [] ∧ n = []) = false := decide_eq_false fun hh => h (Iff.mpr pr_eq hh)
    (conv => whnf)
    exact ⟨congrArg PV.bool (by unfold noTk; simp only [f4, Bool.and_true, Bool.true_and, Bool.and_false, Bool.false_and]), rfl⟩
  have f4 : decide (r = [] ∧ n = []) = true := decide_eq_true (Iff.mp pr_eq h)
  (conv => whnf)
  refine ⟨fun h => ?_, fun h => ?_⟩
  rotate_left
  · have f5 : decide (kv = 0) = false := decide_eq_false fun hh => h (Iff.mpr Iff.rfl hh)
    (conv => whnf)
    exact ⟨congrArg PV.bool (by unfold noTk; simp only [f4, f5, Bool.and_true, Bool.true_and, Bool.and_false, Bool.false_and]), rfl⟩
  have f5 : decide (kv = 0) = true := decide_eq_true (Iff.mp Iff.rfl h)
  (conv => whnf)
  refine ⟨fun h => ?_, fun h => ?_⟩
  rotate_left
  · have f6 : decide (b.length = 0) = false := decide_eq_false fun hh => h (Iff.mpr nat0 hh)
    (conv => whnf)
    exact ⟨congrArg PV.bool (by unfold noTk; simp only [f4, f5, f6, Bool.and_true, Bool.true_and, Bool.and_false, Bool.false_and]), rfl⟩
  have f6 : decide (b.length = 0) = true := decide_eq_true (Iff.mp nat0 h)
  (conv => whnf)
  exact ⟨congrArg PV.bool (by unfold noTk; simp only [f4, f5, f6, Bool.and_true, Bool.true_and, Bool.and_false, Bool.false_and]), rfl⟩
def asB (m : Msg) : Bool := isPrincB m.a1 m.a2 && isPrincB m.a3 m.a4 && inZ m.aTill 0 1073741824 && inZ m.aNonce 0 1073741824
theorem c148 (m : Msg) (hm : m.fits) : Pure prog 148 [.agg m.as] (.bool (asB m)) := by
  intro H
  (refine callOk_of_pFun2 (tt := ttG) (imm := imm148) follows ttG_ok depth6 func148 (by kernel_rfl) ?_; (conv => whnf))
  refine callK_pure (c88 m.a1 m.a2 (by have := hm.1; omega) (by have := hm.2.1; omega)) ?_
  cases f7 : isPrincB m.a1 m.a2
  · (conv => whnf)
    exact ⟨congrArg PV.bool (by unfold asB; simp only [f7, Bool.and_true, Bool.true_and, Bool.and_false, Bool.false_and]), rfl⟩
  (conv => whnf)
  refine callK_pure (c88 m.a3 m.a4 (by have := hm.2.2.1; omega) (by have := hm.2.2.2.1; omega)) ?_
  cases f8 : isPrincB m.a3 m.a4
  · (conv => whnf)
    exact ⟨congrArg PV.bool (by unfold asB; simp only [f7, f8, Bool.and_true, Bool.true_and, Bool.and_false, Bool.false_and]), rfl⟩
  (conv => whnf)
  refine callK_pure (c111 m.aTill 0 1073741824) ?_
  cases f9 : inZ m.aTill 0 1073741824
  · (conv => whnf)
    exact ⟨congrArg PV.bool (by unfold asB; simp only [f7, f8, f9, Bool.and_true, Bool.true_and, Bool.and_false, Bool.false_and]), rfl⟩
  (conv => whnf)
  refine callK_pure (c111 m.aNonce 0 1073741824) ?_
  cases f10 : inZ m.aNonce 0 1073741824
  · (conv => whnf)
    exact ⟨congrArg PV.bool (by unfold asB; simp only [f7, f8, f9, f10, Bool.and_true, Bool.true_and, Bool.and_false, Bool.false_and]), rfl⟩
  (conv => whnf)
  exact ⟨congrArg PV.bool (by unfold asB; simp only [f7, f8, f9, f10, Bool.and_true, Bool.true_and, Bool.and_false, Bool.false_and]), rfl⟩
def tgsB (m : Msg) : Bool := tickB m.t1 m.t2 m.tKv m.tB.length && inZ m.tAu.length 1 800 && isPrincB m.t3 m.t4 && inZ m.tTill 0 1073741824 && inZ m.tNonce 0 1073741824
theorem c149 (m : Msg) (hm : m.fits) : Pure prog 149 [.agg m.tgs] (.bool (tgsB m)) := by
  intro H
  (refine callOk_of_pFun2 (tt := ttG) (imm := imm149) follows ttG_ok depth6 func149 (by kernel_rfl) ?_; (conv => whnf))
  refine callK_pure (c150 m.t1 m.t2 m.tKv m.tB none (by have := hm.2.2.2.2.1; omega) (by have := hm.2.2.2.2.2.1; omega)) ?_
  cases f11 : tickB m.t1 m.t2 m.tKv m.tB.length
  · (conv => whnf)
    exact ⟨congrArg PV.bool (by unfold tgsB; simp only [f11, Bool.and_true, Bool.true_and, Bool.and_false, Bool.false_and]), rfl⟩
  (conv => whnf)
  refine callK_pure (c151 m.tAu.length _ _) ?_
  cases f12 : inZ m.tAu.length 1 800
  · (conv => whnf)
    exact ⟨congrArg PV.bool (by unfold tgsB; simp only [f11, f12, Bool.and_true, Bool.true_and, Bool.and_false, Bool.false_and]), rfl⟩
  (conv => whnf)
  refine callK_pure (c88 m.t3 m.t4 (by have := hm.2.2.2.2.2.2.1; omega) (by have := hm.2.2.2.2.2.2.2.1; omega)) ?_
  cases f13 : isPrincB m.t3 m.t4
  · (conv => whnf)
    exact ⟨congrArg PV.bool (by unfold tgsB; simp only [f11, f12, f13, Bool.and_true, Bool.true_and, Bool.and_false, Bool.false_and]), rfl⟩
  (conv => whnf)
  refine callK_pure (c111 m.tTill 0 1073741824) ?_
  cases f14 : inZ m.tTill 0 1073741824
  · (conv => whnf)
    exact ⟨congrArg PV.bool (by unfold tgsB; simp only [f11, f12, f13, f14, Bool.and_true, Bool.true_and, Bool.and_false, Bool.false_and]), rfl⟩
  (conv => whnf)
  refine callK_pure (c111 m.tNonce 0 1073741824) ?_
  cases f15 : inZ m.tNonce 0 1073741824
  · (conv => whnf)
    exact ⟨congrArg PV.bool (by unfold tgsB; simp only [f11, f12, f13, f14, f15, Bool.and_true, Bool.true_and, Bool.and_false, Bool.false_and]), rfl⟩
  (conv => whnf)
  exact ⟨congrArg PV.bool (by unfold tgsB; simp only [f11, f12, f13, f14, f15, Bool.and_true, Bool.true_and, Bool.and_false, Bool.false_and]), rfl⟩
end Go.Proofs.Tryz
