import Derived.Test.YtbejjlmdmakdfaaDoorT21
set_option linter.all false
set_option linter.unusedVariables false
set_option linter.unusedSimpArgs false
set_option linter.unnecessarySimpa false
set_option maxRecDepth 100000
set_option linter.unusedVariables false
namespace Go.Proofs.Tryd
open Go Ps
def ttK : TT := [(3, ⟨.int .i64, 1, 8, [.int .i64 0]⟩), (5, ⟨.int .u8, 1, 1, [.int .u8 0]⟩), (9, ⟨.str, 1, 16, [.str []]⟩), (23, ⟨.strct [(9, 0), (9, 1)], 2, 32, [.str [], .str []]⟩), (24, ⟨.ptr, 1, 8, [.ptr none]⟩), (31, ⟨.arr 32 5, 32, 32, List.replicate 32 (.int .u8 0)⟩), (43, ⟨.slice 5, 1, 24, [.slice 0 [] (some 5)]⟩), (44, ⟨.slice 31, 1, 24, [.slice 0 [] (some 31)]⟩)]
theorem ttK_ok : ttOk prog ttK = true := by kernel_rfl
def imm5 : List Nat := []
theorem fitAs_bytes : ∀ (bs : List UInt8), FitAs (FitP ttK 5 5) 1 bs.length (bs.map byteC)
  | [] => rfl
  | b :: bs => ⟨⟨by simp, (b.toNat : Int), rfl⟩, fitAs_bytes bs⟩
theorem fitKey {bs : List UInt8} (h : bs.length = 32) : FitP ttK 6 31 (bs.map byteC) := ⟨by decide, by
  have := fitAs_bytes bs
  rw [h] at this
  exact this⟩
structure KyS where
  i : Nat
  H : PH
  l : List Ent
def kyOk (xs : List UInt8) (i : Nat) (l : List Ent) : Prop := l.length = i ∧ ∀ (j : Nat) (e : Ent), l[j]? = some e → e.r = [65] ∧ e.n = [120] ∧ e.kv = j + 1 ∧ ∃ b, xs[j]? = some b ∧ e.key = keyOf1 b
theorem ky_last {xs : List UInt8} {i : Nat} {l : List Ent} (h : kyOk xs i l) : nextKv (lastE (isP [65] [120]) l) = i + 1 := by
  obtain ⟨hl, he⟩ := h
  cases i with
  | zero =>
    have : l = [] := List.length_eq_zero_iff.1 hl
    subst this; rfl
  | succ i =>
    have hi : i < l.length := by omega
    have e0 : l = l.take i ++ [l[i]] := by
      conv => lhs; rw [← List.take_of_length_le (show l.length ≤ i + 1 by omega)]
      exact List.take_succ_eq_append_getElem hi
    obtain ⟨y1, y2, y3, _⟩ := he i _ (List.getElem?_eq_getElem hi)
    rw [e0, lastE_snoc, if_pos (by unfold isP; rw [y1, y2]; rfl)]
    show l[i].kv + 1 = _
    omega
theorem ky_flat {l : List Ent} (hk : ∀ e ∈ l, e.key.length = 32) {i : Nat} (hi : i < l.length) {cs : List PV} {n : Nat} (hn : l.length * 32 ≤ n) (h : cs.take (l.length * 32) = l.flatMap keyC) : (cs.drop (i * 32)).take 32 = keyC l[i] := by
  have h2 : (cs.drop (i * 32)).take 32 = ((l.flatMap keyC).drop (i * 32)).take 32 := by
    rw [← h, List.drop_take, List.take_take, Nat.min_eq_left (by omega)]
  rw [h2]
  clear h h2 hn
  induction l generalizing i with
  | nil => simp at hi
  | cons e l ih =>
    have he : (keyC e).length = 32 := by simp [keyC, hk e List.mem_cons_self]
    rw [List.flatMap_cons]
    cases i with
    | zero =>
      rw [Nat.zero_mul, List.drop_zero]
      exact take_pre he
    | succ i =>
      rw [show (i + 1) * 32 = 32 + i * 32 by omega, ← List.drop_drop, List.drop_left' he]
      exact ih (fun e he => hk e (List.mem_cons_of_mem _ he)) (by simpa using hi)
theorem c5 (xs : List UInt8) : CallOk prog 5 [.slice xs.length (xs.map byteC) none] [] fun r _ => r = .bool true := by
  (refine callOk_of_pFun2 (tt := ttK) (imm := imm5) follows ttK_ok depth6 func5 (by kernel_rfl) ?_; (conv => whnf))
  refine ⟨fun hn => ?_, fun hn => ?_⟩
  · (conv => whnf)
    rfl
  (conv => whnf)
  refine ⟨fun hn2 => ?_, fun hn2 => ?_⟩
  · (conv => whnf)
    rfl
  (conv => whnf)
  have hn : ¬ (xs.length : Int) < 1 := hn
  have hn2 : ¬ (xs.length : Int) > 40 := hn2
  refine callK_of (c10 []) ?_
  rintro r H1 ⟨hr1, hH1⟩
  rw [hr1, hH1]
  (conv => whnf)
  refine loopK_of KyS (fun x => [(0, .slice xs.length (xs.map byteC) none), (3, .ptr (some (0, 0))), (4, .int .i64 x.i)]) (fun x => x.H)
    (fun x => x.i ≤ xs.length ∧ (∃ v, x.H[0]? = some (ringO x.l v)) ∧ kyOk xs x.i x.l) (fun x => xs.length - x.i)
    ⟨⟨0, [ringO [] 0], []⟩, ⟨Nat.zero_le _, ⟨0, rfl⟩, ⟨rfl, fun j e h => by simp at h⟩⟩, ⟨rfl, rfl, rfl, trivial⟩, rfl⟩ ?_
  rintro ⟨i, H, l⟩ ⟨g1, ⟨v, g2⟩, g3⟩
  have g1 : i ≤ xs.length := g1
  have g2 : H[0]? = some (ringO l v) := g2
  have g3 : kyOk xs i l := g3
  have hk : ∀ e ∈ l, e.key.length = 32 ∧ e.kv ≤ 254 := fun e he => by
    obtain ⟨j, hj⟩ := List.getElem?_of_mem he
    obtain ⟨_, _, y3, b, _, y4⟩ := g3.2 j e hj
    have h1 := (List.getElem?_eq_some_iff.1 hj).1
    have h2 := g3.1
    exact ⟨by rw [y4]; rfl, by omega⟩
  (conv => whnf)
  refine ⟨fun hin => ?_, fun hin => ?_⟩
  · (conv => whnf)
    have hin : (i : Int) < xs.length := hin
    have hi : i < xs.length := by omega
    refine ⟨⟨by show (0 : Int) ≤ (i : Int); omega, hin⟩, [byteC xs[i]], fun j d hd => ?_, ?_⟩
    · match j with
      | 0 =>
        have hd : some (byteC xs[i]) = some d := hd
        show (xs.map byteC)[(i : Int).toNat * 1 + 0]? = _
        rw [← hd]
        simp [hi]
      | j + 1 => simp at hd
    (conv => whnf)
    refine callK_of (c11a (key := keyOf1 xs[i]) g2 (by have := g3.1; omega) hk [65] [120] rfl rfl (by show 1 ≤ _; omega) (by show 1 ≤ _; omega)) ?_
    rintro x H' ⟨hx, ⟨e, v', er, en, ek, ekey, hr'⟩, _, _⟩
    rw [ky_last g3] at hx ek
    rw [hx]
    (conv => whnf)
    refine ⟨⟨i + 1, H', l ++ [e]⟩, ⟨by show i + 1 ≤ xs.length; omega, ⟨v', hr'⟩, ?_⟩, ⟨rfl, rfl, ?_, trivial⟩, rfl, by show xs.length - (i + 1) < xs.length - i; omega⟩
    · refine ⟨by show (l ++ [e]).length = i + 1; rw [List.length_append]; show l.length + 1 = _; rw [g3.1], fun j d hd => ?_⟩
      have hd : (l ++ [e])[j]? = some d := hd
      have hgl := g3.1
      by_cases hj : j < l.length
      · rw [List.getElem?_append_left hj] at hd
        exact g3.2 j d hd
      · rw [List.getElem?_append_right (by omega)] at hd
        have hj2 : j - l.length = 0 := by
          have := (List.getElem?_eq_some_iff.1 hd).1
          simp at this; omega
        rw [hj2] at hd
        have hd : e = d := by simpa using hd
        subst hd
        have hji : j = i := by omega
        subst hji
        exact ⟨er, en, ek, xs[j], List.getElem?_eq_getElem hi, ekey⟩
    · show PV.int _ (IntKind.i64.wrap ((i : Int) + 1)) = PV.int _ ((i + 1 : Nat) : Int)
      rw [wrap64 (by omega) (by omega)]; rfl
  · (conv => whnf)
    have hin : ¬ (i : Int) < xs.length := hin
    have hin : i = xs.length := by omega
    subst hin
    have hll : l.length = xs.length := g3.1
    have hk32 : ∀ e ∈ l, e.key.length = 32 := fun e he => (hk e he).1
    refine callK_of (c16 (l := l) g2 (by omega) hk32) ?_
    rintro x H' ⟨hext, hky⟩
    rcases hky with ⟨h0, _⟩ | ⟨_, id, cap, o, rfl, hid, hob, ⟨hcap, hlen⟩, htk⟩
    · omega
    have hid0 : 0 < id := by have := (List.getElem?_eq_some_iff.1 g2).1; omega
    (conv => whnf)
    refine ⟨fun _ => ?_, fun hc => absurd (show (l.length : Int) = xs.length by omega) hc⟩
    (conv => whnf)
    rw [List.take_of_length_le (Nat.le_refl _)] at htk
    have h0x : 0 < xs.length := by omega
    refine ⟨⟨by omega, by show (0 : Int) < xs.length; omega⟩, [byteC xs[0]], fun j d hd => ?_, ?_⟩
    · match j with
      | 0 =>
        have hd : some (byteC xs[0]) = some d := hd
        show (xs.map byteC)[0]? = _
        rw [← hd]
        simp [h0x]
      | j + 1 => simp at hd
    (conv => whnf)
    refine ⟨⟨by omega, by show (0 : Int) < l.length; omega⟩, ?_⟩
    (conv => whnf)
    ((conv in (_[_]?) => tactic => exact hob); (conv => whnf))
    ((conv in (Nat.ble _ _) => tactic => exact (show Nat.ble (0 + Int.toNat 0 * 32 + 32) o.cs.length = true by rw [Nat.ble_eq]; simp; omega)); (conv => whnf))
    have hw0 : ∀ o', (H'.set id o')[0]? = some (ringO l v) := fun o' => by
      rw [List.getElem?_set_ne (by omega)]; exact hext.get g2
    refine callK_of (c16 (l := l) (hw0 _) (by omega) hk32) ?_
    rintro x H3 ⟨hext3, hky3⟩
    rcases hky3 with ⟨h0, _⟩ | ⟨_, id2, cap2, o2, rfl, hid2, hob2, ⟨hcap2, hlen2⟩, htk2⟩
    · omega
    rw [List.take_of_length_le (Nat.le_refl _)] at htk2
    (conv => whnf)
    clear hext3 hid2 hw0 hext hob htk hlen hcap hid
    refine loopK_of FiS (fun x => [(0, .slice xs.length (xs.map byteC) none), (6, .sref id2 0 l.length cap2), (7, .int .i64 x.k)]) (fun _ => H3) (fun x => x.k ≤ xs.length) (fun x => xs.length - x.k)
      ⟨⟨0⟩, Nat.zero_le _, ⟨rfl, rfl, rfl, trivial⟩, rfl⟩ ?_
    rintro ⟨k⟩ hk
    have hk : k ≤ xs.length := hk
    (conv => whnf)
    refine ⟨fun hkl => ?_, fun hkl => ?_⟩
    · (conv => whnf)
      have hkl : (k : Int) < xs.length := hkl
      have hkl : k < xs.length := by omega
      have hlt : k < l.length := by omega
      obtain ⟨_, _, _, b, hb, hbk⟩ := g3.2 k _ (List.getElem?_eq_getElem hlt)
      have hfl := ky_flat (n := l.length * 32) hk32 hlt (Nat.le_refl _) htk2
      have hkc : keyC l[k] = (keyOf1 b).map byteC := by unfold keyC; rw [hbk]
      rw [hkc] at hfl
      have hlen3 : 32 ≤ (o2.cs.drop (k * 32)).length := by rw [List.length_drop]; omega
      have hge : Nat.ble 32 (dropN (0 + (k : Int).toNat * 32) o2.cs).length = true := by
        rw [Nat.ble_eq, dropN_eq]; simpa using hlen3
      have htk3 : ((dropN (0 + (k : Int).toNat * 32) o2.cs).take 32).map dem = (keyOf1 b).map byteC := by
        rw [dropN_eq]
        simp only [Nat.zero_add, Int.toNat_natCast]
        rw [hfl, List.map_map]; rfl
      refine drawK_pure2 (by kernel_rfl) ?_
      (conv => whnf)
      (apply Exists.intro; apply And.intro; (focus ((conv => whnf); first | exact ⟨rfl, rfl, trivial⟩ | (refine ⟨by omega, ?_⟩; (conv => whnf); exact ⟨rfl, rfl, trivial⟩))); (conv => whnf))
      (apply Exists.intro; apply And.intro; (focus ((conv => whnf); first | exact ⟨rfl, rfl, trivial⟩ | (refine ⟨by omega, ?_⟩; (conv => whnf); exact ⟨rfl, rfl, trivial⟩))); (conv => whnf))
      (apply Exists.intro; apply And.intro; (focus ((conv => whnf); first | exact ⟨rfl, rfl, trivial⟩ | (refine ⟨by omega, ?_⟩; (conv => whnf); exact ⟨rfl, rfl, trivial⟩))); (conv => whnf))
      refine ⟨.bool false, ?_, ?_⟩
      · (conv => whnf)
        refine ⟨fun hc => absurd (show (k : Int) ≥ l.length from hc) (by omega), fun _ => ?_⟩
        (conv => whnf)
        exact ⟨rfl, rfl, trivial⟩
      (conv => whnf)
      (apply Exists.intro; apply And.intro; (focus ((conv => whnf); first | exact ⟨rfl, rfl, trivial⟩ | (refine ⟨by omega, ?_⟩; (conv => whnf); exact ⟨rfl, rfl, trivial⟩))); (conv => whnf))
      (apply Exists.intro; apply And.intro; (focus ((conv => whnf); first | exact ⟨rfl, rfl, trivial⟩ | (refine ⟨by omega, ?_⟩; (conv => whnf); exact ⟨rfl, rfl, trivial⟩))); (conv => whnf))
      (apply Exists.intro; apply And.intro; (focus ((conv => whnf); first | exact ⟨rfl, rfl, trivial⟩ | (refine ⟨by omega, ?_⟩; (conv => whnf); exact ⟨rfl, rfl, trivial⟩))); (conv => whnf))
      apply Exists.intro
      apply And.intro
      · (conv => whnf)
        refine ⟨⟨by show (0 : Int) ≤ (k : Int); omega, by show (k : Int) < l.length; omega⟩, ?_⟩
        (conv => whnf)
        exact ⟨rfl, rfl, trivial⟩
      (conv => whnf)
      refine ⟨.agg ((keyOf1 b).map byteC), ?_, ?_⟩
      · (conv => whnf)
        ((conv in (_[_]?) => tactic => exact hob2); (conv => whnf))
        ((conv in (Nat.ble _ _) => tactic => exact hge); (conv => whnf))
        exact ⟨congrArg PV.agg htk3, rfl, trivial⟩
      (conv => whnf)
      (apply Exists.intro; apply And.intro; (focus ((conv => whnf); first | exact ⟨rfl, rfl, trivial⟩ | (refine ⟨by omega, ?_⟩; (conv => whnf); exact ⟨rfl, rfl, trivial⟩))); (conv => whnf))
      (apply Exists.intro; apply And.intro; (focus ((conv => whnf); first | exact ⟨rfl, rfl, trivial⟩ | (refine ⟨by omega, ?_⟩; (conv => whnf); exact ⟨rfl, rfl, trivial⟩))); (conv => whnf))
      apply Exists.intro
      apply And.intro
      · (conv => whnf)
        refine ⟨⟨by show (0 : Int) ≤ (k : Int); omega, by show (k : Int) < xs.length; omega⟩, [byteC b], fun j d hd => ?_, ?_⟩
        · match j with
          | 0 =>
            have hd : some (byteC b) = some d := hd
            show (xs.map byteC)[(k : Int).toNat * 1 + 0]? = _
            rw [← hd]
            simp [hb]
          | j + 1 => simp at hd
        (conv => whnf)
        exact ⟨rfl, rfl, trivial⟩
      (conv => whnf)
      (apply Exists.intro; apply And.intro; (focus ((conv => whnf); first | exact ⟨rfl, rfl, trivial⟩ | (refine ⟨by omega, ?_⟩; (conv => whnf); exact ⟨rfl, rfl, trivial⟩))); (conv => whnf))
      (apply Exists.intro; apply And.intro; (focus ((conv => whnf); first | exact ⟨rfl, rfl, trivial⟩ | (refine ⟨by omega, ?_⟩; (conv => whnf); exact ⟨rfl, rfl, trivial⟩))); (conv => whnf))
      refine ⟨.bool false, ?_, ?_⟩
      · (conv => whnf)
        refine ⟨⟨fitKey rfl, fitKey (bs := keyOf1 b) rfl⟩, ?_⟩
        (conv => whnf)
        refine ⟨fun _ => ?_, fun hc => absurd rfl hc⟩
        (conv => whnf)
        exact ⟨rfl, rfl, trivial⟩
      (conv => whnf)
      (apply Exists.intro; apply And.intro; (focus ((conv => whnf); first | exact ⟨rfl, rfl, trivial⟩ | (refine ⟨by omega, ?_⟩; (conv => whnf); exact ⟨rfl, rfl, trivial⟩))); (conv => whnf))
      refine ⟨⟨k + 1⟩, by show k + 1 ≤ xs.length; omega, ⟨rfl, rfl, ?_, trivial⟩, rfl, by show xs.length - (k + 1) < xs.length - k; omega⟩
      show PV.int _ (IntKind.i64.wrap ((k : Int) + 1)) = PV.int _ ((k + 1 : Nat) : Int)
      rw [wrap64 (by omega) (by omega)]; rfl
    · (conv => whnf)
      refine callK_of (c14 H3) ?_
      rintro x H' rfl
      (conv => whnf)
      rfl
end Go.Proofs.Tryd
