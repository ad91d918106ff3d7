import Derived.Test.YtbejjlmdmakdfaaDoorT3
set_option linter.all false
set_option linter.unusedVariables false
set_option linter.unusedSimpArgs false
set_option linter.unnecessarySimpa false
set_option maxRecDepth 100000
set_option linter.unusedVariables false
namespace Go.Proofs.Tryd
open Go Ps
def tt102 : TT := [(3, ⟨.int .i64, 1, 8, [.int .i64 0]⟩), (9, ⟨.str, 1, 16, [.str []]⟩), (29, ⟨.slice 9, 1, 24, [.slice 0 [] (some 9)]⟩)]
theorem tt102_ok : ttOk prog tt102 = true := by kernel_rfl
def imm102 : List Nat := []

def D102 : Draw := { imp := [13, 15], win := [(2, 0, 1), (3, 0, 1), (14, 1, 1), (15, 1, 1)] }
structure RevS where
  i : Nat
  cur : List (List UInt8)
  v : Nat
theorem c102 (id n : Nat) (l : List (List UInt8)) (T v : Nat) (H : PH) (hid : H[id]? = some ⟨T, l.map .str, v⟩) (hn : n = l.length) (hs : l.length ≤ 1099511627776) :
    CallOk prog 102 [.sref id 0 n n] H fun r H' => r = .tup [] ∧ ∃ v', H' = H.set id ⟨T, l.reverse.map .str, v'⟩ := by
  subst hn
  (refine callOk_of_pFun2 (tt := tt102) (imm := imm102) follows tt102_ok depth6 func102 (by kernel_rfl) ?_; (conv => whnf))
  refine loopK_of RevS (fun x => [(0, .sref id 0 l.length l.length), (2, .int .i64 x.i), (3, .int .i64 ((l.length : Int) - 1 - x.i))]) (fun x => H.set id ⟨T, x.cur.map .str, x.v⟩)
    (fun x => x.i ≤ l.length ∧ x.cur.length = l.length ∧ ∀ k, k < l.length → x.cur[k]? = if k < x.i ∨ l.length - x.i ≤ k then l[l.length - 1 - k]? else l[k]?) (fun x => l.length - x.i)
    ⟨⟨0, l, v⟩, ⟨Nat.zero_le _, rfl, fun k hk => by rw [if_neg (by show ¬ (k < 0 ∨ l.length - 0 ≤ k); omega)]⟩, ⟨rfl, rfl, ?_, trivial⟩, (set_self hid).symm⟩ ?_
  · show PV.int _ (IntKind.i64.wrap ((l.length : Int) - 1)) = PV.int _ ((l.length : Int) - 1 - 0)
    rw [wrap64 (by omega) (by omega)]; simp
  rintro ⟨i, cur, v⟩ ⟨h1, h2, h3⟩
  (conv => whnf)
  refine ⟨fun h4 => ?_, fun h4 => ?_⟩
  · (conv => whnf)
    have h4 : (i : Int) < (l.length : Int) - 1 - i := h4
    have h2 : cur.length = l.length := h2
    have hi : i < cur.length := by omega
    have hj : cur.length - 1 - i < cur.length := by omega
    refine drawK_of2 D102 [H.set id ⟨T, cur.map .str, v⟩, H.set id ⟨T, (cur.set i cur[cur.length - 1 - i]).map .str, v + 1⟩, H.set id ⟨T, ((cur.set i cur[cur.length - 1 - i]).set (cur.length - 1 - i) cur[i]).map .str, v + 1 + 1⟩] (by kernel_rfl) rfl trivial ?_
    have g0 := get_set (o' := ⟨T, cur.map .str, v⟩) hid
    have hlen : H.length = H.length := rfl
    (conv => whnf)
    (apply Exists.intro; apply And.intro; (focus ((conv => whnf); first | exact ⟨rfl, rfl, trivial⟩ | (refine ⟨by omega, ?_⟩; (conv => whnf); exact ⟨rfl, rfl, trivial⟩))); (conv => whnf))
    (apply Exists.intro; apply And.intro; (focus ((conv => whnf); first | exact ⟨rfl, rfl, trivial⟩ | (refine ⟨by omega, ?_⟩; (conv => whnf); exact ⟨rfl, rfl, trivial⟩))); (conv => whnf))
    (apply Exists.intro; apply And.intro; (focus ((conv => whnf); apply And.intro; (focus ((conv => whnf); first | exact ⟨rfl, rfl, trivial⟩ | (refine ⟨by omega, ?_⟩; (conv => whnf); exact ⟨rfl, rfl, trivial⟩))); ((conv => whnf); first | exact ⟨rfl, rfl, trivial⟩ | (refine ⟨by omega, ?_⟩; (conv => whnf); exact ⟨rfl, rfl, trivial⟩)))); (conv => whnf))
    (apply Exists.intro; apply And.intro; (focus ((conv => whnf); apply And.intro; (focus ((conv => whnf); first | exact ⟨rfl, rfl, trivial⟩ | (refine ⟨by omega, ?_⟩; (conv => whnf); exact ⟨rfl, rfl, trivial⟩))); ((conv => whnf); first | exact ⟨rfl, rfl, trivial⟩ | (refine ⟨by omega, ?_⟩; (conv => whnf); exact ⟨rfl, rfl, trivial⟩)))); (conv => whnf))
    (apply Exists.intro; apply And.intro; (focus ((conv => whnf); first | exact ⟨rfl, rfl, trivial⟩ | (refine ⟨by omega, ?_⟩; (conv => whnf); exact ⟨rfl, rfl, trivial⟩))); (conv => whnf))
    (apply Exists.intro; apply And.intro; (focus ((conv => whnf); first | exact ⟨rfl, rfl, trivial⟩ | (refine ⟨by omega, ?_⟩; (conv => whnf); exact ⟨rfl, rfl, trivial⟩))); (conv => whnf))
    apply Exists.intro
    apply And.intro
    · (conv => whnf)
      refine ⟨⟨by omega, by omega⟩, rfl, rfl, trivial⟩
    (conv => whnf)
    apply Exists.intro
    apply And.intro
    · (conv => whnf)
      ((conv in (_[_]?) => tactic => exact g0); (conv => whnf))
      have e : ((l.length : Int) - 1 - i).toNat = cur.length - 1 - i := by omega
      have hL : dropN (0 + ((l.length : Int) - 1 - i).toNat * 1) (cur.map PV.str) = PV.str cur[cur.length - 1 - i] :: (cur.drop (cur.length - 1 - i + 1)).map PV.str := by rw [e]; exact dropN_cells PV.str cur (List.getElem?_eq_getElem hj)
      generalize hd : dropN _ _ = L
      rw [show L = _ from hd.symm.trans hL]
      (conv => whnf)
      exact ⟨rfl, rfl, trivial⟩
    (conv => whnf)
    (apply Exists.intro; apply And.intro; (focus ((conv => whnf); first | exact ⟨rfl, rfl, trivial⟩ | (refine ⟨by omega, ?_⟩; (conv => whnf); exact ⟨rfl, rfl, trivial⟩))); (conv => whnf))
    (apply Exists.intro; apply And.intro; (focus ((conv => whnf); first | exact ⟨rfl, rfl, trivial⟩ | (refine ⟨by omega, ?_⟩; (conv => whnf); exact ⟨rfl, rfl, trivial⟩))); (conv => whnf))
    apply Exists.intro
    apply And.intro
    · (conv => whnf)
      refine ⟨⟨by show (0 : Int) ≤ (i : Int); omega, by show (i : Int) < l.length; omega⟩, rfl, rfl, trivial⟩
    (conv => whnf)
    apply Exists.intro
    apply And.intro
    · (conv => whnf)
      ((conv in (_[_]?) => tactic => exact g0); (conv => whnf))
      ((conv in (dropN _ _) => tactic => exact (dropN_cells PV.str cur (List.getElem?_eq_getElem hi))); (conv => whnf))
      exact ⟨rfl, rfl, trivial⟩
    (conv => whnf)
    apply Exists.intro
    apply And.intro
    · (conv => whnf)
      refine ⟨⟨by show (0 : Int) ≤ (i : Int); omega, by show (i : Int) < l.length; omega⟩, rfl, rfl, trivial⟩
    (conv => whnf)
    apply Exists.intro
    apply And.intro
    · (conv => whnf)
      ((conv in (_[_]?) => tactic => exact g0); (conv => whnf))
      ((conv in (Nat.ble _ _) => tactic => exact (show Nat.ble (0 + (i : Int).toNat * 1 + 1) (cur.map PV.str).length = true by rw [Nat.ble_eq]; simp; omega)); (conv => whnf))
      refine ⟨rfl, ?_, trivial⟩
      show (H.set id ⟨T, cur.map .str, v⟩).set id ⟨T, setCells (0 + (i : Int).toNat * 1) [PV.str cur[cur.length - 1 - i]] (cur.map .str), v + 1⟩ = H.set id ⟨T, (cur.set i cur[cur.length - 1 - i]).map .str, v + 1⟩
      rw [List.set_set, ← setCells_map _ _ _ _ hi]
      simp
    (conv => whnf)
    apply Exists.intro
    apply And.intro
    · (conv => whnf)
      refine ⟨⟨by omega, by omega⟩, rfl, rfl, trivial⟩
    (conv => whnf)
    apply Exists.intro
    apply And.intro
    · (conv => whnf)
      ((conv in (_[_]?) => tactic => exact (get_set (o' := ⟨T, (cur.set i cur[cur.length - 1 - i]).map .str, v + 1⟩) hid)); (conv => whnf))
      ((conv in (Nat.ble _ _) => tactic => exact (show Nat.ble (0 + ((l.length : Int) - 1 - i).toNat * 1 + 1) ((cur.set i cur[cur.length - 1 - i]).map PV.str).length = true by rw [Nat.ble_eq]; simp; omega)); (conv => whnf))
      refine ⟨rfl, ?_, trivial⟩
      show (H.set id ⟨T, (cur.set i cur[cur.length - 1 - i]).map .str, v + 1⟩).set id ⟨T, setCells (0 + ((l.length : Int) - 1 - i).toNat * 1) [PV.str cur[i]] ((cur.set i cur[cur.length - 1 - i]).map .str), v + 1 + 1⟩ = H.set id _
      have e : 0 + ((l.length : Int) - 1 - i).toNat * 1 = cur.length - 1 - i := by omega
      rw [List.set_set, e, setCells_map PV.str (cur.set i cur[cur.length - 1 - i]) (cur.length - 1 - i) cur[i] (by simpa using hj)]
    (conv => whnf)
    refine ⟨⟨i + 1, (cur.set i cur[cur.length - 1 - i]).set (cur.length - 1 - i) cur[i], v + 1 + 1⟩, ⟨?_, ?_, ?_⟩, ⟨rfl, ?_, ?_, trivial⟩, rfl, ?_⟩
    · show i + 1 ≤ l.length; omega
    · show List.length _ = _; simp; exact h2
    · intro k hk
      show ((cur.set i _).set _ _)[k]? = if k < i + 1 ∨ l.length - (i + 1) ≤ k then _ else _
      have h3k := h3 k hk
      have h3k : cur[k]? = if k < i ∨ l.length - i ≤ k then l[l.length - 1 - k]? else l[k]? := h3k
      have h3i : cur[i]? = if i < i ∨ l.length - i ≤ i then l[l.length - 1 - i]? else l[i]? := h3 i (by omega)
      have h3j : cur[cur.length - 1 - i]? = if cur.length - 1 - i < i ∨ l.length - i ≤ cur.length - 1 - i then l[l.length - 1 - (cur.length - 1 - i)]? else l[cur.length - 1 - i]? := h3 _ (by omega)
      rw [if_neg (by omega), List.getElem?_eq_getElem hi] at h3i
      rw [if_neg (by omega), List.getElem?_eq_getElem hj] at h3j
      simp only [List.getElem?_set]
      by_cases e1 : cur.length - 1 - i = k
      · subst e1
        rw [if_pos rfl, if_pos (by simpa using hj), if_pos (by omega), h3i]
        congr 1; omega
      · rw [if_neg e1]
        by_cases e2 : i = k
        · subst e2
          rw [if_pos rfl, if_pos hi, if_pos (by omega), h3j]
          congr 1; omega
        · rw [if_neg e2, h3k]
          by_cases e3 : k < i ∨ l.length - i ≤ k
          · rw [if_pos e3, if_pos (by omega)]
          · rw [if_neg e3, if_neg (by omega)]
    · show PV.int _ (IntKind.i64.wrap ((i : Int) + 1)) = PV.int _ _
      rw [wrap64 (by omega) (by omega)]; simp
    · show PV.int _ (IntKind.i64.wrap ((l.length : Int) - 1 - i - 1)) = PV.int _ ((l.length : Int) - 1 - ((i + 1 : Nat) : Int))
      rw [wrap64 (by omega) (by omega)]; congr 1; omega
    · show l.length - (i + 1) < l.length - i
      omega
  · (conv => whnf)
    have h2 : cur.length = l.length := h2
    have h4 : ¬ (i : Int) < (l.length : Int) - 1 - i := h4
    have h1 : i ≤ l.length := h1
    refine ⟨rfl, v, ?_⟩
    have hc : cur = l.reverse := by
      apply List.ext_getElem?
      intro k
      rcases Nat.lt_or_ge k l.length with hk | hk
      · have h3k : cur[k]? = if k < i ∨ l.length - i ≤ k then l[l.length - 1 - k]? else l[k]? := h3 k hk
        rw [h3k, List.getElem?_reverse hk]
        by_cases e3 : k < i ∨ l.length - i ≤ k
        · rw [if_pos e3]
        · rw [if_neg e3]; congr 1; omega
      · rw [List.getElem?_eq_none (by omega), List.getElem?_eq_none (by simpa using hk)]
    show H.set id ⟨T, cur.map PV.str, v⟩ = _
    rw [hc]
end Go.Proofs.Tryd
