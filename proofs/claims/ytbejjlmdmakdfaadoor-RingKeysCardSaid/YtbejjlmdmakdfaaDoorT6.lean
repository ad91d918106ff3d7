import Derived.Test.YtbejjlmdmakdfaaDoorT5
set_option linter.all false
set_option linter.unusedVariables false
set_option linter.unusedSimpArgs false
set_option linter.unnecessarySimpa false
set_option maxRecDepth 100000
set_option linter.unusedVariables false
namespace Go.Proofs.Tryd
open Go Ps
theorem tabB_len (p : Nat → Bool) : (tabB p).length = 256 := by simp [tabB]
theorem tabB_set (p : Nat → Bool) (c : UInt8) : setCells (0 + (c.toNat : Int).toNat * 1) [.bool true] (tabB p) = tabB fun k => p k || (c.toNat == k) := by
  have hc : c.toNat < 256 := c.toNat_lt
  apply List.ext_getElem?
  intro j
  rw [setCells_get _ _ _ (by simp [tabB]; omega)]
  simp only [tabB, List.getElem?_map, List.length_cons, List.length_nil]
  by_cases hj : j < 256
  · rw [List.getElem?_range hj]
    by_cases e : j = c.toNat
    · subst e; simp
    · rw [if_neg (by omega)]
      have : (c.toNat == j) = false := by simpa using fun h => e h.symm
      simp [this]
  · have hn : (List.range 256)[j]? = none := List.getElem?_eq_none (by simpa using hj)
    rw [if_neg (by omega), hn]; rfl
theorem tabB_self (p : Nat → Bool) : setCells 0 (cellsOf (.agg (((tabB p).take 256).map dem))) (tabB p) = tabB p := by
  have h : ((tabB p).take 256).map dem = tabB p := by
    rw [List.take_of_length_le (by simp [tabB])]
    simp [tabB, dem]
  rw [h, setCells_eq _ _ _ (by simp [cellsOf])]
  simp [cellsOf]
theorem tabB_dem (p : Nat → Bool) : ((tabB p).take 256).map dem = tabB p := by
  rw [List.take_of_length_le (by simp [tabB])]
  simp [tabB, dem]
theorem tabB_one (p : Nat → Bool) : (cellsOf (.agg (((tabB p).take 256).map dem))).all oneP = true := by
  rw [tabB_dem]; simp [cellsOf, tabB, oneP]
theorem oldPs_tab (p : Nat → Bool) : oldPs (tabB p) = true := by
  unfold tabB
  generalize List.range 256 = l
  induction l with
  | nil => rfl
  | cons a l ih => simp [oldPs, oldP, ih]
def inB (s : List UInt8) (k : Nat) : Bool := s.any fun c => c.toNat == k
theorem c94 (s : List UInt8) (h0 : ∀ c ∈ s, c.toNat < 128) (hs : s.length ≤ 1099511627776) : Pure prog 94 [.str s] (.tup [.agg (tabB (inB s)), .bool true]) := by
  refine Pure.of_gc (by simp [oldR, oldPs, oldP, oldPs_tab]) fun H => ?_
  (refine callOk_of_pFun2 (tt := tt94) (imm := imm94) follows tt94_ok depth6 func94 (by kernel_rfl) ?_; (conv => whnf))
  refine loopK_of Nat (fun i => [(0, .str s), (2, .ptr (some (H.length, 0))), (4, .int .i64 i)]) (fun i => H ++ [⟨162, tabB (inB (s.take i)), i⟩]) (fun i => i ≤ s.length) (fun i => s.length - i) ⟨0, Nat.zero_le _, ⟨rfl, rfl, rfl, trivial⟩, ?_⟩ ?_
  · show H ++ [PObj.mk _ _ _] = H ++ [PObj.mk _ _ _]
    congr 3
  rintro i hi
  (conv => whnf)
  refine ⟨fun h => ?_, fun h => ?_⟩
  · (conv => whnf)
    have h : (i : Int) < s.length := h
    have hi' : i < s.length := by omega
    refine ⟨⟨by omega, h⟩, s[i], List.getElem?_eq_getElem hi', ?_⟩
    (conv => whnf)
    have hc := h0 s[i] (List.getElem_mem hi')
    refine ⟨fun h2 => absurd h2 (by omega), fun _ => ?_⟩
    (conv => whnf)
    refine ⟨⟨by omega, by omega⟩, ?_⟩
    (conv => whnf)
    ((conv in (_[_]?) => tactic => exact (get_last H ⟨162, tabB (inB (s.take i)), i⟩)); (conv => whnf))
    ((conv in (Nat.ble _ _) => tactic => exact (show Nat.ble (0 + (s[i].toNat : Int).toNat * 1 + 1) (tabB (inB (s.take i))).length = true by rw [Nat.ble_eq, tabB_len]; omega)); (conv => whnf))
    refine ⟨i + 1, by omega, ⟨rfl, rfl, ?_, trivial⟩, ?_, by omega⟩
    · show PV.int _ (IntKind.i64.wrap ((i : Int) + 1)) = PV.int _ _
      rw [wrap64 (by omega) (by omega)]; simp
    · show (H ++ [_]).set _ _ = _
      rw [set_last]
      show H ++ [PObj.mk _ (setCells (0 + (s[i].toNat : Int).toNat * 1) [.bool true] (tabB (inB (s.take i)))) _] = H ++ [PObj.mk _ _ _]
      rw [tabB_set]
      have : inB (s.take (i + 1)) = fun k => inB (s.take i) k || (s[i].toNat == k) := by
        funext k
        unfold inB
        rw [List.take_succ_eq_append_getElem hi', List.any_append]
        simp only [List.any_cons, List.any_nil, Bool.or_false]
      rw [this]
  · (conv => whnf)
    have h : ¬ (i : Int) < s.length := h
    have e : s.take i = s := List.take_of_length_le (by omega)
    rw [e, get_last]
    (conv => whnf)
    rw [get_last]
    (conv => whnf)
    have h2 : ((H ++ [PObj.mk 162 (tabB (inB s)) i]).set H.length ⟨162, setCells 0 (cellsOf (.agg (((tabB (inB s)).take 256).map dem))) (tabB (inB s)), i + 1⟩)[H.length]? = some ⟨162, tabB (inB s), i + 1⟩ := by
      rw [set_last, tabB_self, get_last]
    generalize hh : (setH _ _ _ _)[List.length H]? = X
    rw [show X = _ from hh.symm.trans h2]
    (conv => whnf)
    refine ⟨?_, [⟨162, tabB (inB s), i + 1⟩], ?_⟩
    · show PV.tup [.agg (((tabB (inB s)).take 256).map dem), .bool true] = _
      rw [tabB_dem]
    · show (H ++ [PObj.mk 162 (tabB (inB s)) i]).set H.length ⟨162, setCells 0 (cellsOf (.agg (((tabB (inB s)).take 256).map dem))) (tabB (inB s)), i + 1⟩ = _
      rw [set_last, tabB_self]
/-- What is left of a text. -/
def trimB (s set : List UInt8) : List UInt8 := (trimR (fun c => inB set c.toNat) s).dropWhile fun c => inB set c.toNat
theorem c81 (s set : List UInt8) (h0 : ∀ c ∈ set, c.toNat < 128) (h1 : 2 ≤ set.length) (h2 : set.length ≤ 1099511627776) (hs : s.length ≤ 1099511627776) :
    Pure prog 81 [.str s, .str set] (.str (trimB s set)) := by
  refine Pure.of_gc rfl fun H => ?_
  (refine callOk_of_pFun2 (tt := tt81) (imm := imm81) follows tt81_ok depth6 func81 (by kernel_rfl) ?_; (conv => whnf))
  refine ⟨fun h => ?_, fun h => ?_⟩
  · have h : s = [] := h
    subst h
    (conv => whnf)
    exact ⟨rfl, [], by simp⟩
  (conv => whnf)
  refine ⟨fun h => ?_, fun h => ?_⟩
  · have h : set = [] := h
    subst h
    simp at h1
  (conv => whnf)
  refine ⟨fun h => absurd h (by omega), fun h => ?_⟩
  (conv => whnf)
  refine callK_pure (c94 set h0 h2) ?_
  (conv => whnf)
  rw [get_last]
  (conv => whnf)
  have hz : setCells 0 (tabB (inB set)) (List.replicate 256 (PV.bool false)) = tabB (inB set) := by
    rw [setCells_eq _ _ _ (by simp [tabB])]
    simp [tabB]
  have hone : (tabB (inB set)).all oneP = true := by simp [tabB, oneP]
  have hH : (H ++ [PObj.mk 162 (List.replicate 256 (PV.bool false)) 0]).set H.length ⟨162, setCells 0 (tabB (inB set)) (List.replicate 256 (PV.bool false)), 0 + 1⟩ = H ++ [⟨162, tabB (inB set), 0 + 1⟩] := by
    rw [set_last, hz]
  refine callK_of (Q := fun r H' => r = .str (trimR (fun c => inB set c.toNat) s) ∧ H' = H ++ [⟨162, tabB (inB set), 0 + 1⟩]) ?_ ?_
  · show CallOk prog 96 _ ((H ++ [PObj.mk 162 (List.replicate 256 (PV.bool false)) 0]).set H.length ⟨162, setCells 0 (tabB (inB set)) (List.replicate 256 (PV.bool false)), 0 + 1⟩) _
    rw [hH]
    exact c96 (inB set) H.length 162 (0 + 1) s _ (get_last H _) hs
  rintro _ _ ⟨rfl, rfl⟩
  (conv => whnf)
  have hl : (trimR (fun c => inB set c.toNat) s).length ≤ s.length := by
    unfold trimR
    rw [List.length_reverse]
    exact Nat.le_trans (List.dropWhile_sublist _).length_le (by simp)
  refine callK_of (c95 (inB set) H.length 162 (0 + 1) (trimR (fun c => inB set c.toNat) s) _ (get_last H _) (by omega)) ?_
  rintro _ _ ⟨rfl, rfl⟩
  (conv => whnf)
  exact ⟨rfl, _, rfl⟩
theorem takeWhile_mem {p : UInt8 → Bool} {c : UInt8} : ∀ {l : List UInt8}, c ∈ l.takeWhile p → p c = true
  | [], h => by simp at h
  | x :: l, h => by
    rw [List.takeWhile_cons] at h
    split at h
    · rcases List.mem_cons.1 h with rfl | h
      · assumption
      · exact takeWhile_mem h
    · simp at h
theorem dropWhile_nil' (p : UInt8 → Bool) : ∀ l : List UInt8, l.dropWhile p = [] ↔ ∀ x ∈ l, p x = true
  | [] => by simp
  | x :: l => by
    have := dropWhile_nil' p l
    rw [List.dropWhile_cons]
    cases h : p x
    · simp [h]
    · simp [h, this]
theorem trimB_nil (s set : List UInt8) : trimB s set = [] ↔ s.all (fun c => inB set c.toNat) = true := by
  unfold trimB trimR
  rw [dropWhile_nil']
  constructor
  · intro h
    rw [List.all_eq_true]
    intro c hc
    by_cases hd : c ∈ (s.reverse.dropWhile fun c => inB set c.toNat).reverse
    · exact h c hd
    · have : c ∈ s.reverse := by simpa using hc
      rw [← List.takeWhile_append_dropWhile (p := fun c => inB set c.toNat) (l := s.reverse)] at this
      rcases List.mem_append.1 this with h2 | h2
      · exact takeWhile_mem h2
      · exact absurd (by simpa using h2) hd
  · intro h c hc
    rw [List.all_eq_true] at h
    have hc2 : c ∈ s.reverse := (List.dropWhile_sublist _).subset (by simpa using hc)
    exact h c (by simpa using hc2)
end Go.Proofs.Tryd
