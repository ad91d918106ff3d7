import Derived.Test.YtbejjlmdmakdfaaDoorT17
set_option linter.all false
set_option linter.unusedVariables false
set_option linter.unusedSimpArgs false
set_option linter.unnecessarySimpa false
set_option maxRecDepth 100000
set_option linter.unusedVariables false
namespace Go.Proofs.Tryd
open Go Ps
theorem callK_args {P : Program} {f : Nat} {args args' : List PV} {H : PH} {K : PV → PH → Prop} (h : args = args') (k : callK P f args' H K) : callK P f args H K := h ▸ k
def ttF : TT := [(3, ⟨.int .i64, 1, 8, [.int .i64 0]⟩), (5, ⟨.int .u8, 1, 1, [.int .u8 0]⟩), (9, ⟨.str, 1, 16, [.str []]⟩), (23, ⟨.strct [(9, 0), (9, 1)], 2, 32, [.str [], .str []]⟩), (24, ⟨.ptr, 1, 8, [.ptr none]⟩), (26, ⟨.int .i64, 1, 8, [.int .i64 0]⟩), (29, ⟨.slice 9, 1, 24, [.slice 0 [] (some 9)]⟩), (31, ⟨.arr 32 5, 32, 32, List.replicate 32 (.int .u8 0)⟩)]
theorem ttF_ok : ttOk prog ttF = true := by kernel_rfl
def imm3 : List Nat := [3]
def xyz (k : Nat) : List UInt8 := [UInt8.ofNat (120 + k)]
structure FuS where
  i : Nat
  H : PH
  l : List Ent
def fuOk (i : Nat) (l : List Ent) : Prop := l.length = min i 40 ∧ ∀ (j : Nat) (e : Ent), l[j]? = some e → e.r = [65] ∧ e.n = xyz (j % 3) ∧ e.kv = j / 3 + 1 ∧ e.key.length = 32
theorem lastE_take (f : Ent → Bool) (l : List Ent) {m : Nat} (hm : m < l.length) : lastE f (l.take (m + 1)) = if f l[m] then some l[m] else lastE f (l.take m) := by
  rw [List.take_succ_eq_append_getElem hm]; exact lastE_snoc f _ _
theorem xyz_inj : ∀ {a b : Nat}, a < 3 → b < 3 → (xyz a = xyz b ↔ a = b)
  | 0, 0, _, _ => by decide
  | 0, 1, _, _ => by decide
  | 0, 2, _, _ => by decide
  | 1, 0, _, _ => by decide
  | 1, 1, _, _ => by decide
  | 1, 2, _, _ => by decide
  | 2, 0, _, _ => by decide
  | 2, 1, _, _ => by decide
  | 2, 2, _, _ => by decide
theorem fu_last {i : Nat} {l : List Ent} (hi : i < 40) (h : fuOk i l) : nextKv (lastE (isP [65] (xyz (i % 3))) l) = i / 3 + 1 := by
  obtain ⟨hl, he⟩ := h
  have hl : l.length = i := by omega
  have hf : ∀ j (hj : j < l.length), isP [65] (xyz (i % 3)) l[j] = decide (j % 3 = i % 3) := fun j hj => by
    obtain ⟨y1, y2, _, _⟩ := he j _ (List.getElem?_eq_getElem hj)
    unfold isP
    rw [y1, y2]
    have := xyz_inj (Nat.mod_lt j (show 0 < 3 by omega)) (Nat.mod_lt i (show 0 < 3 by omega))
    by_cases hc : j % 3 = i % 3
    · rw [decide_eq_true hc, decide_eq_true ⟨rfl, this.2 hc⟩]
    · rw [decide_eq_false hc, decide_eq_false fun h => hc (this.1 h.2)]
  have h0 : lastE (isP [65] (xyz (i % 3))) l = lastE (isP [65] (xyz (i % 3))) (l.take i) := by rw [List.take_of_length_le (by omega)]
  rw [h0]
  by_cases c1 : i = 0
  · subst c1; simp [lastE, nextKv]
  have s1 : ∀ j, j < i → j % 3 ≠ i % 3 → lastE (isP [65] (xyz (i % 3))) (l.take (j + 1)) = lastE (isP [65] (xyz (i % 3))) (l.take j) := fun j hj hne => by
    rw [lastE_take _ _ (by omega), hf j (by omega), decide_eq_false hne]; rfl
  have e1 := s1 (i - 1) (by omega) (by omega)
  rw [show i - 1 + 1 = i by omega] at e1
  rw [e1]
  by_cases c2 : i = 1
  · subst c2; simp [lastE, nextKv]
  have e2 := s1 (i - 2) (by omega) (by omega)
  rw [show i - 2 + 1 = i - 1 by omega] at e2
  rw [e2]
  by_cases c3 : i = 2
  · subst c3; simp [lastE, nextKv]
  have e4 : lastE (isP [65] (xyz (i % 3))) (l.take (i - 3 + 1)) = some l[i - 3] := by
    rw [lastE_take _ _ (by omega), hf (i - 3) (by omega), decide_eq_true (by omega)]; rfl
  rw [show i - 3 + 1 = i - 2 by omega] at e4
  rw [e4]
  obtain ⟨_, _, y3, _⟩ := he (i - 3) _ (List.getElem?_eq_getElem (by omega))
  show l[i - 3].kv + 1 = _
  omega
theorem c3 (N : Int) (pr pn : List UInt8) (h1 : pr.length ≤ 140737488355328) (h2 : pn.length ≤ 140737488355328) : CallOk prog 3 [.int .i64 N, .agg [.str pr, .str pn]] [] fun r _ => r = .bool true := by
  (refine callOk_of_pFun2 (tt := ttF) (imm := imm3) follows ttF_ok depth6 func3 (by kernel_rfl) ?_; (conv => whnf))
  refine ⟨fun hn => ?_, fun hn => ?_⟩
  · (conv => whnf)
    rfl
  (conv => whnf)
  refine ⟨fun hn2 => ?_, fun hn2 => ?_⟩
  · (conv => whnf)
    rfl
  (conv => whnf)
  refine ⟨fun hs => ?_, fun hs => ?_⟩
  · (conv => whnf)
    rfl
  have hs : ¬ IntKind.i64.wrap ((pr.length : Int) + pn.length) > 200 := hs
  rw [wrap64 (by omega) (by omega)] at hs
  have h1 : pr.length ≤ 1099511627775 := by omega
  have h2 : pn.length ≤ 1099511627775 := by omega
  (conv => whnf)
  refine callK_of (c10 []) ?_
  rintro r H1 ⟨hr1, hH1⟩
  rw [hr1, hH1]
  (conv => whnf)
  obtain ⟨n, rfl⟩ : ∃ n : Nat, N = n := ⟨N.toNat, by omega⟩
  refine loopK_of FuS (fun x => [(0, .int .i64 n), (3, .elem [.str pr, .str pn]), (5, .ptr (some (0, 0))), (6, .int .i64 x.i)]) (fun x => x.H)
    (fun x => x.i ≤ n ∧ (∃ v, x.H[0]? = some (ringO x.l v)) ∧ fuOk x.i x.l) (fun x => n - x.i)
    ⟨⟨0, [ringO [] 0], []⟩, ⟨Nat.zero_le _, ⟨0, rfl⟩, ⟨rfl, fun j e h => by simp at h⟩⟩, ⟨rfl, rfl, rfl, rfl, trivial⟩, rfl⟩ ?_
  rintro ⟨i, H, l⟩ ⟨g1, ⟨v, g2⟩, g3⟩
  have g1 : i ≤ n := g1
  have g2 : H[0]? = some (ringO l v) := g2
  have g3 : fuOk i l := g3
  (conv => whnf)
  refine ⟨fun hin => ?_, fun hin => ?_⟩
  · (conv => whnf)
    have hin : (i : Int) < n := hin
    have e3 : (i : Int).tmod 3 = ((i % 3 : Nat) : Int) := rfl
    have hm : i % 3 < 3 := Nat.mod_lt _ (by omega)
    refine ⟨by decide, ?_⟩
    (conv => whnf)
    refine ⟨⟨by show (0 : Int) ≤ (i : Int).tmod 3; omega, by show (i : Int).tmod 3 < 3; omega⟩, [.str (xyz (i % 3))], fun j c hj => ?_, ?_⟩
    · match j with
      | 0 =>
        have hj : some (PV.str (xyz (i % 3))) = some c := hj
        rw [← hj]
        show [PV.str [120], PV.str [121], PV.str [122]][((i : Int).tmod 3).toNat * 1 + 0]? = _
        rw [e3]
        generalize i % 3 = m at hm
        match m, hm with
        | 0, _ => rfl
        | 1, _ => rfl
        | 2, _ => rfl
      | j + 1 => simp at hj
    (conv => whnf)
    have hi60 : i < 60 := by omega
    have hb : IntKind.u8.wrap (i : Int) = ((UInt8.ofNat i).toNat : Int) := by
      rw [UInt8.toNat_ofNat']
      simp [IntKind.wrap, IntKind.signed, IntKind.bits]
    refine callK_args (args' := [.ptr (some (0, 0)), .agg [.str [65], .str (xyz (i % 3))], .agg ((keyOf1 (UInt8.ofNat i)).map byteC)]) ?_ ?_
    · show [PV.ptr (some (0, 0)), .agg [.str [65], .str (xyz (i % 3))], .agg (PV.int .u8 (IntKind.u8.wrap (i : Int)) :: List.replicate 31 (.int .u8 0))] = _
      rw [hb]; rfl
    have hpr : isPrincB [65] (xyz (i % 3)) = true := by
      generalize i % 3 = m at hm
      match m, hm with
      | 0, _ => rfl
      | 1, _ => rfl
      | 2, _ => rfl
    have hx1 : (xyz (i % 3)).length ≤ 1099511627775 := by show 1 ≤ _; omega
    obtain ⟨gl, ge⟩ := g3
    have hk : ∀ e ∈ l, e.key.length = 32 ∧ e.kv ≤ 254 := fun e he => by
      obtain ⟨j, hj⟩ := List.getElem?_of_mem he
      obtain ⟨_, _, y3, y4⟩ := ge j e hj
      have := (List.getElem?_eq_some_iff.1 hj).1
      exact ⟨y4, by omega⟩
    by_cases h40 : i < 40
    · refine callK_of (c11a g2 (by omega) hk [65] (xyz (i % 3)) (keyOf1 (UInt8.ofNat i)) rfl hpr (by show 1 ≤ _; omega) hx1) ?_
      rintro x H' ⟨hx, ⟨e, v', er, en, ek, ekey, hr'⟩, _, _⟩
      rw [fu_last h40 ⟨gl, ge⟩] at hx ek
      rw [hx]
      (conv => whnf)
      refine ⟨fun hc => absurd hc (by show ¬ (i : Int) ≥ 40; omega), fun _ => ?_⟩
      (conv => whnf)
      refine ⟨fun _ => ?_, fun hc => absurd rfl hc⟩
      (conv => whnf)
      refine ⟨by decide, ?_⟩
      (conv => whnf)
      have hq : IntKind.i64.wrap (IntKind.i64.wrap ((i : Int).tdiv 3) + 1) = ((i / 3 + 1 : Nat) : Int) := by
        rw [show (i : Int).tdiv 3 = ((i / 3 : Nat) : Int) from rfl, show IntKind.i64.wrap ((i / 3 : Nat) : Int) = ((i / 3 : Nat) : Int) from wrap64 (by omega) (by omega), wrap64 (by omega) (by omega)]; rfl
      refine ⟨fun _ => ?_, fun hc => absurd hq.symm hc⟩
      (conv => whnf)
      refine ⟨⟨i + 1, H', l ++ [e]⟩, ⟨by show i + 1 ≤ n; omega, ⟨v', hr'⟩, ?_⟩, ⟨rfl, rfl, rfl, ?_, trivial⟩, rfl, by show n - (i + 1) < n - i; omega⟩
      · refine ⟨by show (l ++ [e]).length = min (i + 1) 40; rw [List.length_append]; show l.length + 1 = _; omega, fun j d hd => ?_⟩
        have hd : (l ++ [e])[j]? = some d := hd
        by_cases hj : j < l.length
        · rw [List.getElem?_append_left hj] at hd
          exact ge j d hd
        · rw [List.getElem?_append_right (by omega)] at hd
          have hj2 : j - l.length = 0 := by
            have := (List.getElem?_eq_some_iff.1 hd).1
            simp at this; omega
          rw [hj2] at hd
          have hd : e = d := by simpa using hd
          subst hd
          have hji : j = i := by omega
          subst hji
          exact ⟨er, en, ek, by rw [ekey]; rfl⟩
      · show PV.int _ (IntKind.i64.wrap ((i : Int) + 1)) = PV.int _ ((i + 1 : Nat) : Int)
        rw [wrap64 (by omega) (by omega)]; rfl
    · refine callK_of (c11 g2 (by omega) (fun e he => ⟨(hk e he).1, by have := (hk e he).2; omega⟩) [65] (xyz (i % 3)) (keyOf1 (UInt8.ofNat i)) rfl (by show 1 ≤ _; omega) hx1) ?_
      have hc : 40 ≤ l.length ∨ 255 < nextKv (lastE (isP [65] (xyz (i % 3))) l) := Or.inl (by omega)
      rintro x H' ⟨hx, hH'⟩
      unfold addR at hx
      unfold addH at hH'
      rw [hpr] at hx hH'
      simp only [if_pos hc] at hx hH'
      rw [hx, hH']
      (conv => whnf)
      refine ⟨fun _ => ?_, fun hc => absurd (show (i : Int) ≥ 40 by omega) hc⟩
      (conv => whnf)
      refine ⟨fun _ => ?_, fun hc => absurd rfl hc⟩
      (conv => whnf)
      refine ⟨fun _ => ?_, fun hc => absurd rfl hc⟩
      (conv => whnf)
      refine ⟨⟨i + 1, H, l⟩, ⟨by show i + 1 ≤ n; omega, ⟨v, g2⟩, ⟨by show l.length = min (i + 1) 40; omega, ge⟩⟩, ⟨rfl, rfl, rfl, ?_, trivial⟩, rfl, by show n - (i + 1) < n - i; omega⟩
      show PV.int _ (IntKind.i64.wrap ((i : Int) + 1)) = PV.int _ ((i + 1 : Nat) : Int)
      rw [wrap64 (by omega) (by omega)]; rfl
  · (conv => whnf)
    have hin : ¬ (i : Int) < n := hin
    have hin : i = n := by omega
    refine callK_pure (c12 pr pn h1 h2) ?_
    obtain ⟨gl, ge⟩ := g3
    have hk : ∀ e ∈ l, e.key.length = 32 ∧ e.kv ≤ 1000 := fun e he => by
      obtain ⟨j, hj⟩ := List.getElem?_of_mem he
      obtain ⟨_, _, y3, y4⟩ := ge j e hj
      have := (List.getElem?_eq_some_iff.1 hj).1
      exact ⟨y4, by omega⟩
    cases hp : isPrincB pr pn
    · (conv => whnf)
      refine callK_of (c11 (key := keyOf1 0) g2 (by omega) hk pr pn rfl h1 h2) ?_
      rintro x H' ⟨hx, hH'⟩
      unfold addR at hx
      rw [hp] at hx
      rw [show x = .tup [.int .i64 0, .int .i64 1] from hx]
      (conv => whnf)
      refine ⟨fun _ => ?_, fun hc => absurd rfl hc⟩
      (conv => whnf)
      refine callK_of (c14 _) ?_
      rintro x H'' hx
      rw [hx]
      (conv => whnf)
      rfl
    · (conv => whnf)
      refine callK_of (c13 g2) ?_
      rintro x H' ⟨hx, hH'⟩
      rw [hx]
      (conv => whnf)
      refine ⟨fun _ => ?_, fun hc => absurd (show (l.length : Int) = min (n : Int) 40 by omega) hc⟩
      (conv => whnf)
      refine callK_of (c14 _) ?_
      rintro x H'' hx
      rw [hx]
      (conv => whnf)
      rfl
end Go.Proofs.Tryd
