import Derived.Test.YtbejjlmdmakdfaaDoorT9
set_option linter.all false
set_option linter.unusedVariables false
set_option linter.unusedSimpArgs false
set_option linter.unnecessarySimpa false
set_option maxRecDepth 100000
set_option linter.unusedVariables false
namespace Go.Proofs.Tryd
open Go Ps
def tt82 : TT := [(3, ⟨.int .i64, 1, 8, [.int .i64 0]⟩), (5, ⟨.int .u8, 1, 1, [.int .u8 0]⟩), (9, ⟨.str, 1, 16, [.str []]⟩), (29, ⟨.slice 9, 1, 24, [.slice 0 [] (some 9)]⟩)]
theorem tt82_ok : ttOk prog tt82 = true := by kernel_rfl
def imm82 : List Nat := []

def okC (b : UInt8) : Bool := decide (65 ≤ b.toNat) && decide (b.toNat ≤ 90)
def okL (s : List UInt8) : Bool := decide (1 ≤ s.length) && (decide (s.length ≤ 8) && s.all okC)
theorem elem_cells (l : List (List UInt8)) {i : Nat} {x : List UInt8} (h : l[i]? = some x) : ∀ (j : Nat) (c : PV), [PV.str x][j]? = some c → (l.map PV.str)[(i : Int).toNat * 1 + j]? = some c := by
  intro j c hj
  cases j with
  | zero => simp at hj; subst hj; simp [h]
  | succ j => simp at hj
theorem c82 (l : List (List UInt8)) (o : Option Nat) (hs : l.length ≤ 1099511627776) : Pure prog 82 [.slice l.length (l.map .str) o] (.bool (l.all okL && (decide (1 ≤ l.length) && decide (l.length ≤ 4)))) := by
  intro H
  (refine callOk_of_pFun2 (tt := tt82) (imm := imm82) follows tt82_ok depth6 func82 (by kernel_rfl) ?_; (conv => whnf))
  refine loopK_of Nat (fun i => [(0, .slice l.length (l.map .str) none), (3, .int .i64 i)]) (fun _ => H) (fun i => i ≤ l.length ∧ ∀ j, j < i → (l[j]?.map okL) = some true) (fun i => l.length - i) ⟨0, ⟨Nat.zero_le _, fun j h => by omega⟩, ⟨?_, rfl, trivial⟩, rfl⟩ ?_
  · cases o <;> rfl
  rintro i ⟨h1, h2⟩
  (conv => whnf)
  refine ⟨fun h => ?_, fun h => ?_⟩
  · (conv => whnf)
    have h : (i : Int) < l.length := h
    have hi : i < l.length := by omega
    have hg := List.getElem?_eq_getElem hi
    refine ⟨⟨by omega, h⟩, [.str l[i]], elem_cells l hg, ?_⟩
    (conv => whnf)
    have hbad : okL l[i] = false → (l.all okL && (decide (1 ≤ l.length) && decide (l.length ≤ 4))) = false := fun hb => by
      have : l.all okL = false := by
        cases ha : l.all okL with
        | false => rfl
        | true => rw [List.all_eq_true.1 ha _ (List.getElem_mem hi)] at hb; cases hb
      rw [this]; rfl
    refine ⟨fun h5 => ?_, fun h5 => ?_⟩
    · (conv => whnf)
      refine ⟨?_, rfl⟩
      rw [hbad (by unfold okL; have : ¬ 1 ≤ l[i].length := by omega
                   simp [this])]; rfl
    (conv => whnf)
    refine ⟨⟨by omega, h⟩, [.str l[i]], elem_cells l hg, ?_⟩
    (conv => whnf)
    refine ⟨fun h6 => ?_, fun h6 => ?_⟩
    · (conv => whnf)
      refine ⟨?_, rfl⟩
      rw [hbad (by unfold okL; have : ¬ l[i].length ≤ 8 := by omega
                   simp [this])]; rfl
    (conv => whnf)
    refine loopK_of Nat (fun k => [(0, .slice l.length (l.map .str) none), (3, .int .i64 i), (4, .int .i64 k)]) (fun _ => H) (fun k => k ≤ l[i].length ∧ ∀ j, j < k → (l[i][j]?.map okC) = some true) (fun k => l[i].length - k) ⟨0, ⟨Nat.zero_le _, fun j h => by omega⟩, ⟨rfl, rfl, rfl, trivial⟩, rfl⟩ ?_
    rintro k ⟨k1, k2⟩
    (conv => whnf)
    refine ⟨⟨by omega, h⟩, [.str l[i]], elem_cells l hg, ?_⟩
    (conv => whnf)
    refine ⟨fun h7 => ?_, fun h7 => ?_⟩
    · (conv => whnf)
      have h7 : (k : Int) < l[i].length := h7
      have hk : k < l[i].length := by omega
      refine ⟨⟨by omega, h⟩, [.str l[i]], elem_cells l hg, ?_⟩
      (conv => whnf)
      refine ⟨⟨by omega, h7⟩, l[i][k], List.getElem?_eq_getElem hk, ?_⟩
      (conv => whnf)
      have hbadc : okC l[i][k] = false → okL l[i] = false := fun hb => by
        unfold okL
        have : l[i].all okC = false := by
          cases ha : l[i].all okC with
          | false => rfl
          | true => rw [List.all_eq_true.1 ha _ (List.getElem_mem hk)] at hb; cases hb
        rw [this]; simp
      refine ⟨fun h8 => ?_, fun h8 => ?_⟩
      · (conv => whnf)
        refine ⟨?_, rfl⟩
        rw [hbad (hbadc (by unfold okC; have : ¬ 65 ≤ l[i][k].toNat := by omega
                            simp [this]))]; rfl
      (conv => whnf)
      refine ⟨⟨by omega, h⟩, [.str l[i]], elem_cells l hg, ?_⟩
      (conv => whnf)
      refine ⟨⟨by omega, h7⟩, l[i][k], List.getElem?_eq_getElem hk, ?_⟩
      (conv => whnf)
      refine ⟨fun h9 => ?_, fun h9 => ?_⟩
      · (conv => whnf)
        refine ⟨?_, rfl⟩
        rw [hbad (hbadc (by unfold okC; have : ¬ l[i][k].toNat ≤ 90 := by omega
                            simp [this]))]; rfl
      (conv => whnf)
      refine ⟨k + 1, ⟨hk, fun j hj => ?_⟩, ⟨rfl, rfl, ?_, trivial⟩, rfl, by show l[i].length - (k + 1) < l[i].length - k; omega⟩
      · by_cases e : j = k
        · subst e
          rw [List.getElem?_eq_getElem hk]
          have a1 : 65 ≤ l[i][j].toNat := by omega
          have a2 : l[i][j].toNat ≤ 90 := by omega
          simp [okC, a1, a2]
        · exact k2 j (by omega)
      · show PV.int _ (IntKind.i64.wrap ((k : Int) + 1)) = PV.int _ ((k + 1 : Nat) : Int)
        rw [wrap64 (by omega) (by omega)]; simp
    · (conv => whnf)
      have h7 : ¬ (k : Int) < l[i].length := h7
      have hok : okL l[i] = true := by
        have ha : l[i].all okC = true := by
          rw [List.all_eq_true]
          intro x hx
          obtain ⟨j, hj, rfl⟩ := List.mem_iff_getElem.1 hx
          have := k2 j (by omega)
          rw [List.getElem?_eq_getElem hj] at this
          simpa using this
        have a1 : 1 ≤ l[i].length := by omega
        have a2 : l[i].length ≤ 8 := by omega
        unfold okL
        rw [ha]; simp [a1, a2]
      refine ⟨i + 1, ⟨hi, fun j hj => ?_⟩, ⟨rfl, ?_, trivial⟩, rfl, by omega⟩
      · by_cases e : j = i
        · subst e
          rw [hg]; simp [hok]
        · exact h2 j (by omega)
      · show PV.int _ (IntKind.i64.wrap ((i : Int) + 1)) = PV.int _ ((i + 1 : Nat) : Int)
        rw [wrap64 (by omega) (by omega)]; simp
  · (conv => whnf)
    have h : ¬ (i : Int) < l.length := h
    have hall : l.all okL = true := by
      rw [List.all_eq_true]
      intro x hx
      obtain ⟨j, hj, rfl⟩ := List.mem_iff_getElem.1 hx
      have := h2 j (by omega)
      rw [List.getElem?_eq_getElem hj] at this
      simpa using this
    rw [hall]
    refine ⟨fun h5 => ?_, fun h5 => ?_⟩
    · (conv => whnf)
      refine ⟨fun h6 => ?_, fun h6 => ?_⟩
      · (conv => whnf)
        refine ⟨?_, rfl⟩
        have a1 : 1 ≤ l.length := by omega
        have a2 : l.length ≤ 4 := by omega
        simp [a1, a2, tupOf]
      · (conv => whnf)
        refine ⟨?_, rfl⟩
        have a2 : ¬ l.length ≤ 4 := by omega
        simp [a2, tupOf]
    · (conv => whnf)
      refine ⟨?_, rfl⟩
      have a1 : ¬ 1 ≤ l.length := by omega
      simp [a1, tupOf]
end Go.Proofs.Tryd
