import Derived.Test.YtbejjlmdmakdfaaDoorT17
set_option linter.all false
set_option linter.unusedVariables false
set_option linter.unusedSimpArgs false
set_option linter.unnecessarySimpa false
set_option maxRecDepth 100000
set_option linter.unusedVariables false
namespace Go.Proofs.Tryd
open Go Ps
def ttM : TT := [(3, ⟨.int .i64, 1, 8, [.int .i64 0]⟩), (4, ⟨.bool, 1, 1, [.bool false]⟩), (5, ⟨.int .u8, 1, 1, [.int .u8 0]⟩), (9, ⟨.str, 1, 16, [.str []]⟩), (23, ⟨.strct [(9, 0), (9, 1)], 2, 32, [.str [], .str []]⟩), (24, ⟨.ptr, 1, 8, [.ptr none]⟩), (26, ⟨.int .i64, 1, 8, [.int .i64 0]⟩), (29, ⟨.slice 9, 1, 24, [.slice 0 [] (some 9)]⟩), (31, ⟨.arr 32 5, 32, 32, List.replicate 32 (.int .u8 0)⟩), (36, ⟨.slice 3, 1, 24, [.slice 0 [] (some 3)]⟩), (37, ⟨.arr 4 3, 4, 32, [.int .i64 0, .int .i64 0, .int .i64 0, .int .i64 0]⟩)]
theorem ttM_ok : ttOk prog ttM = true := by kernel_rfl
def imm4 : List Nat := []
theorem added {H : PH} {rid v : Nat} {l : List Ent} (hid : H[rid]? = some (ringO l v)) (hl : l.length < 40) (hk : ∀ e ∈ l, e.kv ≤ 254) (r n key : List UInt8)
    (hp : isPrincB r n = true) : addR l r n = .tup [.int .i64 (nextKv (lastE (isP r n) l)), .int .i64 0] ∧ Added H rid l r n key (addH H rid v l r n key) := by
  have hnk : nextKv (lastE (isP r n) l) ≤ 255 := by
    cases he : lastE (isP r n) l with
    | none => show 1 ≤ 255; omega
    | some e =>
      have := hk e (List.mem_reverse.1 (List.mem_of_find?_eq_some he))
      show e.kv + 1 ≤ 255; omega
  have hc : ¬ (40 ≤ l.length ∨ 255 < nextKv (lastE (isP r n) l)) := by omega
  unfold addR addH
  rw [hp]
  simp only [if_neg hc]
  have hlt : rid < H.length := (List.getElem?_eq_some_iff.1 hid).1
  refine ⟨trivial, ⟨addE H l r n key, v + 2, rfl, rfl, rfl, rfl, ?_⟩, ?_, fun j hj hlt' => ?_⟩
  · rw [List.getElem?_set_self (by simp; omega)]
  · simp
  · rw [List.getElem?_set_ne (Ne.symm hj), List.getElem?_append_left hlt']
def rK (k : Nat) : List UInt8 := [UInt8.ofNat (65 + k % 2)]
def nK (k : Nat) : List UInt8 := [UInt8.ofNat (120 + k / 2)]
theorem and3 (x : Int) : ∃ k : Nat, k < 4 ∧ ibits .and .i64 x 3 = k := by
  refine ⟨(BitVec.ofInt 64 x).toNat % 4, Nat.mod_lt _ (by omega), ?_⟩
  show IntKind.i64.wrap (((BitVec.ofInt 64 x &&& BitVec.ofInt 64 3).toNat : Nat) : Int) = _
  have : (BitVec.ofInt 64 x &&& BitVec.ofInt 64 3).toNat = (BitVec.ofInt 64 x).toNat % 4 := by
    rw [BitVec.toNat_and]
    exact Nat.and_two_pow_sub_one_eq_mod _ 2
  rw [this]
  exact wrap64 (by omega) (by omega)
theorem kK_inj : ∀ {a b : Nat}, a < 4 → b < 4 → ((rK a = rK b ∧ nK a = nK b) ↔ a = b) := by
  intro a b ha hb
  have : ∀ a : Fin 4, ∀ b : Fin 4, ((rK a = rK b ∧ nK a = nK b) ↔ a.val = b.val) := by decide
  exact this ⟨a, ha⟩ ⟨b, hb⟩
theorem prK : ∀ {k : Nat}, k < 4 → isPrincB (rK k) (nK k) = true := by
  intro k hk
  match k, hk with
  | 0, _ => rfl
  | 1, _ => rfl
  | 2, _ => rfl
  | 3, _ => rfl
theorem and1 {k : Nat} (hk : k < 4) : ibits .and .i64 (k : Int) 1 = ((k % 2 : Nat) : Int) := by
  match k, hk with
  | 0, _ => rfl
  | 1, _ => rfl
  | 2, _ => rfl
  | 3, _ => rfl
theorem shr1 {k : Nat} (hk : k < 4) : ishr .i64 (k : Int) 1 = ((k / 2 : Nat) : Int) := by
  match k, hk with
  | 0, _ => rfl
  | 1, _ => rfl
  | 2, _ => rfl
  | 3, _ => rfl
theorem at2 {a b : List UInt8} {m : Nat} (hm : m < 2) {x : List UInt8} (h0 : m = 0 → x = a) (h1 : m = 1 → x = b) (j : Nat) (d : PV) (hd : [PV.str x][j]? = some d) : [PV.str a, PV.str b][(m : Int).toNat * 1 + j]? = some d := by
  match j with
  | 0 =>
    have hd : some (PV.str x) = some d := hd
    rw [← hd]
    match m, hm with
    | 0, _ => rw [h0 rfl]; rfl
    | 1, _ => rw [h1 rfl]; rfl
  | j + 1 => simp at hd
def nuOk (l : List Ent) (c : Nat → Nat) : Prop := ∀ k, k < 4 → (lastE (isP (rK k) (nK k)) l = none ∧ c k = 0) ∨ ∃ e, lastE (isP (rK k) (nK k)) l = some e ∧ e.kv = c k ∧ 0 < c k
theorem nuOk_next {l : List Ent} {c : Nat → Nat} (h : nuOk l c) {k : Nat} (hk : k < 4) : nextKv (lastE (isP (rK k) (nK k)) l) = c k + 1 := by
  rcases h k hk with ⟨h1, h2⟩ | ⟨e, h1, h2, h3⟩
  · rw [h1, h2]; rfl
  · rw [h1, ← h2]; rfl
def bump (c : Nat → Nat) (k : Nat) : Nat → Nat := fun j => if j = k then c j + 1 else c j
theorem nuOk_add {l : List Ent} {c : Nat → Nat} (h : nuOk l c) {k : Nat} (hk : k < 4) {e : Ent} (h1 : e.r = rK k) (h2 : e.n = nK k) (h3 : e.kv = c k + 1) : nuOk (l ++ [e]) (bump c k) := by
  intro j hj
  rw [lastE_snoc]
  unfold isP bump
  rw [h1, h2]
  by_cases hjk : j = k
  · subst hjk
    refine .inr ⟨e, by simp, by simp [h3], by simp⟩
  · have : ¬ (rK k = rK j ∧ nK k = nK j) := fun hh => hjk ((kK_inj hk hj).1 hh).symm
    simp only [this, if_neg hjk, decide_false, Bool.false_eq_true, if_false]
    exact h j hj
def cntO (c : Nat → Nat) (v : Nat) : PObj := ⟨37, [.int .i64 (c 0), .int .i64 (c 1), .int .i64 (c 2), .int .i64 (c 3)], v⟩
structure NuS where
  i : Nat
  H : PH
  l : List Ent
  c : Nat → Nat
def D4 : Draw := { imp := [15], win := [(16, 1, 1), (17, 1, 1), (18, 1, 1), (19, 1, 1), (20, 1, 1)] }
set_option maxHeartbeats 4000000 in
theorem c4 (xs : List Int) : CallOk prog 4 [.slice xs.length (xs.map (.int .i64)) none] [] fun r _ => r = .bool true := by
  (refine callOk_of_pFun2 (tt := ttM) (imm := imm4) follows ttM_ok depth6 func4 (by kernel_rfl) ?_; (conv => whnf))
  refine ⟨fun hn => ?_, fun hn => ?_⟩
  · (conv => whnf)
    rfl
  (conv => whnf)
  have hn : ¬ (xs.length : Int) > 40 := hn
  refine callK_of (c10 []) ?_
  rintro r H1 ⟨hr1, hH1⟩
  rw [hr1, hH1]
  (conv => whnf)
  refine loopK_of NuS (fun x => [(0, .slice xs.length (xs.map (.int .i64)) none), (3, .ptr (some (0, 0))), (4, .ptr (some (1, 0))), (5, .int .i64 x.i)]) (fun x => x.H)
    (fun x => x.i ≤ xs.length ∧ (∃ v, x.H[0]? = some (ringO x.l v)) ∧ (∃ v, x.H[1]? = some (cntO x.c v)) ∧ x.l.length = x.i ∧ nuOk x.l x.c ∧ (∀ k, x.c k ≤ x.i) ∧ ∀ e ∈ x.l, e.key.length = 32 ∧ e.kv ≤ x.i) (fun x => xs.length - x.i)
    ⟨⟨0, [ringO [] 0, cntO (fun _ => 0) 0], [], fun _ => 0⟩, ⟨Nat.zero_le _, ⟨0, rfl⟩, ⟨0, rfl⟩, rfl, fun k hk => .inl ⟨rfl, rfl⟩, fun _ => Nat.le_refl _, fun e he => by cases he⟩, ⟨rfl, rfl, rfl, rfl, trivial⟩, rfl⟩ ?_
  rintro ⟨i, H, l, c⟩ ⟨g1, ⟨v, g2⟩, ⟨v2, g3⟩, g4, g5, g6, g7⟩
  have g1 : i ≤ xs.length := g1
  have g2 : H[0]? = some (ringO l v) := g2
  have g3 : H[1]? = some (cntO c v2) := g3
  have g4 : l.length = i := g4
  have g5 : nuOk l c := g5
  have g6 : ∀ k, c k ≤ i := g6
  have g7 : ∀ e ∈ l, e.key.length = 32 ∧ e.kv ≤ i := g7
  (conv => whnf)
  refine ⟨fun hin => ?_, fun hin => ?_⟩
  · (conv => whnf)
    have hin : (i : Int) < xs.length := hin
    have hi : i < xs.length := by omega
    refine ⟨⟨by show (0 : Int) ≤ (i : Int); omega, hin⟩, [.int .i64 xs[i]], fun j d hd => ?_, ?_⟩
    · match j with
      | 0 =>
        have hd : some (PV.int .i64 xs[i]) = some d := hd
        show (xs.map (PV.int .i64))[(i : Int).toNat * 1 + 0]? = _
        rw [← hd]
        simp [hi]
      | j + 1 => simp at hd
    (conv => whnf)
    obtain ⟨k, hk, hke⟩ := and3 xs[i]
    rw [hke]
    have hb : IntKind.u8.wrap (i : Int) = ((UInt8.ofNat i).toNat : Int) := by
      rw [UInt8.toNat_ofNat']
      simp [IntKind.wrap, IntKind.signed, IntKind.bits]
    have hr0 : k % 2 = 0 → rK k = [65] := fun h => by unfold rK; rw [h]; rfl
    have hr1 : k % 2 = 1 → rK k = [66] := fun h => by unfold rK; rw [h]; rfl
    have hn0 : k / 2 = 0 → nK k = [120] := fun h => by unfold nK; rw [h]; rfl
    have hn1 : k / 2 = 1 → nK k = [121] := fun h => by unfold nK; rw [h]; rfl
    obtain ⟨a1, a2⟩ := added (key := keyOf1 (UInt8.ofNat i)) g2 (by omega) (fun e he => by have := (g7 e he).2; omega) (rK k) (nK k) (prK hk)
    rw [nuOk_next g5 hk] at a1
    refine drawK_of2 D4 [H, addH H 0 v l (rK k) (nK k) (keyOf1 (UInt8.ofNat i))] (by kernel_rfl) rfl trivial ?_
    (conv => whnf)
    (apply Exists.intro; apply And.intro; (focus ((conv => whnf); first | exact ⟨rfl, rfl, trivial⟩ | (refine ⟨by omega, ?_⟩; (conv => whnf); exact ⟨rfl, rfl, trivial⟩))); (conv => whnf))
    (apply Exists.intro; apply And.intro; (focus ((conv => whnf); first | exact ⟨rfl, rfl, trivial⟩ | (refine ⟨by omega, ?_⟩; (conv => whnf); exact ⟨rfl, rfl, trivial⟩))); (conv => whnf))
    (apply Exists.intro; apply And.intro; (focus ((conv => whnf); first | exact ⟨rfl, rfl, trivial⟩ | (refine ⟨by omega, ?_⟩; (conv => whnf); exact ⟨rfl, rfl, trivial⟩))); (conv => whnf))
    (apply Exists.intro; apply And.intro; (focus ((conv => whnf); first | exact ⟨rfl, rfl, trivial⟩ | (refine ⟨by omega, ?_⟩; (conv => whnf); exact ⟨rfl, rfl, trivial⟩))); (conv => whnf))
    rw [and1 hk]
    apply Exists.intro
    apply And.intro
    · (conv => whnf)
      refine ⟨⟨by omega, by show ((k % 2 : Nat) : Int) < 2; omega⟩, [.str (rK k)], fun j d hd => ?_, ?_⟩
      · exact at2 (by omega) hr0 hr1 j d hd
      (conv => whnf)
      exact ⟨rfl, rfl, trivial⟩
    (conv => whnf)
    (apply Exists.intro; apply And.intro; (focus ((conv => whnf); first | exact ⟨rfl, rfl, trivial⟩ | (refine ⟨by omega, ?_⟩; (conv => whnf); exact ⟨rfl, rfl, trivial⟩))); (conv => whnf))
    (apply Exists.intro; apply And.intro; (focus ((conv => whnf); first | exact ⟨rfl, rfl, trivial⟩ | (refine ⟨by omega, ?_⟩; (conv => whnf); exact ⟨rfl, rfl, trivial⟩))); (conv => whnf))
    (apply Exists.intro; apply And.intro; (focus ((conv => whnf); first | exact ⟨rfl, rfl, trivial⟩ | (refine ⟨by omega, ?_⟩; (conv => whnf); exact ⟨rfl, rfl, trivial⟩))); (conv => whnf))
    (apply Exists.intro; apply And.intro; (focus ((conv => whnf); first | exact ⟨rfl, rfl, trivial⟩ | (refine ⟨by omega, ?_⟩; (conv => whnf); exact ⟨rfl, rfl, trivial⟩))); (conv => whnf))
    rw [shr1 hk]
    apply Exists.intro
    apply And.intro
    · (conv => whnf)
      refine ⟨⟨by omega, by show ((k / 2 : Nat) : Int) < 2; omega⟩, [.str (nK k)], fun j d hd => ?_, ?_⟩
      · exact at2 (by omega) hn0 hn1 j d hd
      (conv => whnf)
      exact ⟨rfl, rfl, trivial⟩
    (conv => whnf)
    (apply Exists.intro; apply And.intro; (focus ((conv => whnf); first | exact ⟨rfl, rfl, trivial⟩ | (refine ⟨by omega, ?_⟩; (conv => whnf); exact ⟨rfl, rfl, trivial⟩))); (conv => whnf))
    (apply Exists.intro; apply And.intro; (focus ((conv => whnf); first | exact ⟨rfl, rfl, trivial⟩ | (refine ⟨by omega, ?_⟩; (conv => whnf); exact ⟨rfl, rfl, trivial⟩))); (conv => whnf))
    (apply Exists.intro; apply And.intro; (focus ((conv => whnf); first | exact ⟨rfl, rfl, trivial⟩ | (refine ⟨by omega, ?_⟩; (conv => whnf); exact ⟨rfl, rfl, trivial⟩))); (conv => whnf))
    (apply Exists.intro; apply And.intro; (focus ((conv => whnf); first | exact ⟨rfl, rfl, trivial⟩ | (refine ⟨by omega, ?_⟩; (conv => whnf); exact ⟨rfl, rfl, trivial⟩))); (conv => whnf))
    (apply Exists.intro; apply And.intro; (focus ((conv => whnf); first | exact ⟨rfl, rfl, trivial⟩ | (refine ⟨by omega, ?_⟩; (conv => whnf); exact ⟨rfl, rfl, trivial⟩))); (conv => whnf))
    apply Exists.intro
    apply And.intro
    · (conv => whnf)
      refine callK_args (args' := [.ptr (some (0, 0)), .agg [.str (rK k), .str (nK k)], .agg ((keyOf1 (UInt8.ofNat i)).map byteC)]) ?_ ?_
      · show [PV.ptr (some (0, 0)), .agg [.str (rK k), .str (nK k)], .agg (PV.int .u8 (IntKind.u8.wrap (i : Int)) :: List.replicate 31 (.int .u8 0))] = _
        rw [hb]; rfl
      refine callK_of (c11 g2 (by omega) (fun e he => ⟨(g7 e he).1, by have := (g7 e he).2; omega⟩) (rK k) (nK k) (keyOf1 (UInt8.ofNat i)) rfl (by show 1 ≤ _; omega) (by show 1 ≤ _; omega)) ?_
      rintro x H' ⟨hx, hH'⟩
      rw [a1] at hx
      rw [hx]
      (conv => whnf)
      exact ⟨rfl, hH', trivial⟩
    (conv => whnf)
    (apply Exists.intro; apply And.intro; (focus ((conv => whnf); first | exact ⟨rfl, rfl, trivial⟩ | (refine ⟨by omega, ?_⟩; (conv => whnf); exact ⟨rfl, rfl, trivial⟩))); (conv => whnf))
    (apply Exists.intro; apply And.intro; (focus ((conv => whnf); first | exact ⟨rfl, rfl, trivial⟩ | (refine ⟨by omega, ?_⟩; (conv => whnf); exact ⟨rfl, rfl, trivial⟩))); (conv => whnf))
    (apply Exists.intro; apply And.intro; (focus ((conv => whnf); first | exact ⟨rfl, rfl, trivial⟩ | (refine ⟨by omega, ?_⟩; (conv => whnf); exact ⟨rfl, rfl, trivial⟩))); (conv => whnf))
    (apply Exists.intro; apply And.intro; (focus ((conv => whnf); first | exact ⟨rfl, rfl, trivial⟩ | (refine ⟨by omega, ?_⟩; (conv => whnf); exact ⟨rfl, rfl, trivial⟩))); (conv => whnf))
    (apply Exists.intro; apply And.intro; (focus ((conv => whnf); first | exact ⟨rfl, rfl, trivial⟩ | (refine ⟨by omega, ?_⟩; (conv => whnf); exact ⟨rfl, rfl, trivial⟩))); (conv => whnf))
    generalize hH1 : addH H 0 v l (rK k) (nK k) (keyOf1 (UInt8.ofNat i)) = H1 at a2 ⊢
    obtain ⟨⟨e, v3, er, en, ek, ekey, h0⟩, hlen, hfr⟩ := a2
    have h1 : H1[1]? = some (cntO c v2) := (hfr 1 (by omega) (List.getElem?_eq_some_iff.1 g3).1).trans g3
    rw [nuOk_next g5 hk] at ek
    have hnu := nuOk_add g5 hk er en ek
    have hck := g6 k
    have hw : IntKind.i64.wrap ((c k : Int) + 1) = ((c k + 1 : Nat) : Int) := by rw [wrap64 (by omega) (by omega)]; rfl
    have hs : (H1.set 1 (cntO (bump c k) (v2 + 1)))[1]? = some (cntO (bump c k) (v2 + 1)) := get_set h1
    have hs0 : (H1.set 1 (cntO (bump c k) (v2 + 1)))[0]? = some (ringO (l ++ [e]) v3) := by rw [List.getElem?_set_ne (by omega)]; exact h0
    have hlast : ∀ (E : Env) (H' : PH), subE [(0, .slice xs.length (xs.map (.int .i64)) none), (3, .ptr (some (0, 0))), (4, .ptr (some (1, 0))), (5, .int .i64 (IntKind.i64.wrap ((i : Int) + 1)))] E → H' = H1.set 1 (cntO (bump c k) (v2 + 1)) →
        ∃ s' : NuS, (s'.i ≤ xs.length ∧ (∃ v, s'.H[0]? = some (ringO s'.l v)) ∧ (∃ v, s'.H[1]? = some (cntO s'.c v)) ∧ s'.l.length = s'.i ∧ nuOk s'.l s'.c ∧ (∀ k, s'.c k ≤ s'.i) ∧ ∀ e ∈ s'.l, e.key.length = 32 ∧ e.kv ≤ s'.i) ∧
          subE [(0, .slice xs.length (xs.map (.int .i64)) none), (3, .ptr (some (0, 0))), (4, .ptr (some (1, 0))), (5, .int .i64 s'.i)] E ∧ H' = s'.H ∧ xs.length - s'.i < xs.length - i := by
      intro E H' hE hH'
      rw [wrap64 (by omega) (by omega)] at hE
      refine ⟨⟨i + 1, H1.set 1 (cntO (bump c k) (v2 + 1)), l ++ [e], bump c k⟩, ⟨by show i + 1 ≤ _; omega, ⟨v3, hs0⟩, ⟨v2 + 1, hs⟩, by show (l ++ [e]).length = i + 1; simp [g4], hnu, fun j => ?_, fun d hd => ?_⟩, hE, hH', by show xs.length - (i + 1) < xs.length - i; omega⟩
      · show (if j = k then c j + 1 else c j) ≤ i + 1
        have := g6 j
        split <;> omega
      · rcases List.mem_append.1 hd with hd | hd
        · have := g7 d hd
          exact ⟨this.1, by show d.kv ≤ i + 1; omega⟩
        · have : d = e := List.mem_singleton.1 hd
          subst this
          exact ⟨by rw [ekey]; rfl, by show d.kv ≤ i + 1; omega⟩
    clear hke hr0 hr1 hn0 hn1 a1 hfr hnu er en ekey
    obtain rfl | rfl | rfl | rfl : k = 0 ∨ k = 1 ∨ k = 2 ∨ k = 3 := by omega
    all_goals
      refine ⟨by decide, ?_⟩
      (conv => whnf)
      ((conv in (_[_]?) => tactic => exact h1); (conv => whnf))
      refine ⟨by decide, ?_⟩
      (conv => whnf)
      ((conv in (_[_]?) => tactic => exact h1); (conv => whnf))
      rw [hw]
      (conv => whnf)
      refine ⟨fun _ => ?_, fun hc => absurd rfl hc⟩
      (conv => whnf)
      refine ⟨by decide, ?_⟩
      (conv => whnf)
      ((conv in (_[_]?) => tactic => exact hs); (conv => whnf))
      refine ⟨fun _ => ?_, fun hc => absurd rfl hc⟩
      (conv => whnf)
      exact hlast _ _ ⟨rfl, rfl, rfl, rfl, trivial⟩ rfl
  · (conv => whnf)
    have hc4 : ∀ k, c k ≤ 40 := fun k => by have := g6 k; omega
    have hke : ∀ e ∈ l, e.key.length = 32 := fun e he => (g7 e he).1
    have hll : l.length ≤ 1000 := by omega
    clear g1 g4 g6 g7 hin hH1
    refine loopK_of FiS (fun x => [(0, .slice xs.length (xs.map (.int .i64)) none), (3, .ptr (some (0, 0))), (4, .ptr (some (1, 0))), (9, .int .i64 x.k)]) (fun _ => H) (fun x => x.k ≤ 4) (fun x => 4 - x.k)
      ⟨⟨0⟩, Nat.zero_le _, ⟨rfl, rfl, rfl, rfl, trivial⟩, rfl⟩ ?_
    rintro ⟨k⟩ hk
    have hk : k ≤ 4 := hk
    (conv => whnf)
    refine ⟨fun hk4 => ?_, fun hk4 => ?_⟩
    · (conv => whnf)
      have hk4 : (k : Int) < 4 := hk4
      have hk : k < 4 := by omega
      have hr0 : k % 2 = 0 → rK k = [65] := fun h => by unfold rK; rw [h]; rfl
      have hr1 : k % 2 = 1 → rK k = [66] := fun h => by unfold rK; rw [h]; rfl
      have hn0 : k / 2 = 0 → nK k = [120] := fun h => by unfold nK; rw [h]; rfl
      have hn1 : k / 2 = 1 → nK k = [121] := fun h => by unfold nK; rw [h]; rfl
      have hck := hc4 k
      have hlast : ∀ (E : Env) (H' : PH), subE [(0, .slice xs.length (xs.map (.int .i64)) none), (3, .ptr (some (0, 0))), (4, .ptr (some (1, 0))), (9, .int .i64 (IntKind.i64.wrap ((k : Int) + 1)))] E → H' = H →
        ∃ s' : FiS, s'.k ≤ 4 ∧ subE [(0, .slice xs.length (xs.map (.int .i64)) none), (3, .ptr (some (0, 0))), (4, .ptr (some (1, 0))), (9, .int .i64 s'.k)] E ∧ H' = H ∧ 4 - s'.k < 4 - k := by
        intro E H' hE hH'
        rw [wrap64 (by omega) (by omega)] at hE
        exact ⟨⟨k + 1⟩, by show k + 1 ≤ 4; omega, hE, hH', by show 4 - (k + 1) < 4 - k; omega⟩
      refine drawK_pure2 (by kernel_rfl) ?_
      (conv => whnf)
      (apply Exists.intro; apply And.intro; (focus ((conv => whnf); first | exact ⟨rfl, rfl, trivial⟩ | (refine ⟨by omega, ?_⟩; (conv => whnf); exact ⟨rfl, rfl, trivial⟩))); (conv => whnf))
      (apply Exists.intro; apply And.intro; (focus ((conv => whnf); first | exact ⟨rfl, rfl, trivial⟩ | (refine ⟨by omega, ?_⟩; (conv => whnf); exact ⟨rfl, rfl, trivial⟩))); (conv => whnf))
      (apply Exists.intro; apply And.intro; (focus ((conv => whnf); first | exact ⟨rfl, rfl, trivial⟩ | (refine ⟨by omega, ?_⟩; (conv => whnf); exact ⟨rfl, rfl, trivial⟩))); (conv => whnf))
      (apply Exists.intro; apply And.intro; (focus ((conv => whnf); first | exact ⟨rfl, rfl, trivial⟩ | (refine ⟨by omega, ?_⟩; (conv => whnf); exact ⟨rfl, rfl, trivial⟩))); (conv => whnf))
      rw [and1 hk]
      apply Exists.intro
      apply And.intro
      · (conv => whnf)
        refine ⟨⟨by omega, by show ((k % 2 : Nat) : Int) < 2; omega⟩, [.str (rK k)], fun j d hd => ?_, ?_⟩
        · exact at2 (by omega) hr0 hr1 j d hd
        (conv => whnf)
        exact ⟨rfl, rfl, trivial⟩
      (conv => whnf)
      (apply Exists.intro; apply And.intro; (focus ((conv => whnf); first | exact ⟨rfl, rfl, trivial⟩ | (refine ⟨by omega, ?_⟩; (conv => whnf); exact ⟨rfl, rfl, trivial⟩))); (conv => whnf))
      (apply Exists.intro; apply And.intro; (focus ((conv => whnf); first | exact ⟨rfl, rfl, trivial⟩ | (refine ⟨by omega, ?_⟩; (conv => whnf); exact ⟨rfl, rfl, trivial⟩))); (conv => whnf))
      (apply Exists.intro; apply And.intro; (focus ((conv => whnf); first | exact ⟨rfl, rfl, trivial⟩ | (refine ⟨by omega, ?_⟩; (conv => whnf); exact ⟨rfl, rfl, trivial⟩))); (conv => whnf))
      (apply Exists.intro; apply And.intro; (focus ((conv => whnf); first | exact ⟨rfl, rfl, trivial⟩ | (refine ⟨by omega, ?_⟩; (conv => whnf); exact ⟨rfl, rfl, trivial⟩))); (conv => whnf))
      rw [shr1 hk]
      apply Exists.intro
      apply And.intro
      · (conv => whnf)
        refine ⟨⟨by omega, by show ((k / 2 : Nat) : Int) < 2; omega⟩, [.str (nK k)], fun j d hd => ?_, ?_⟩
        · exact at2 (by omega) hn0 hn1 j d hd
        (conv => whnf)
        exact ⟨rfl, rfl, trivial⟩
      (conv => whnf)
      (apply Exists.intro; apply And.intro; (focus ((conv => whnf); first | exact ⟨rfl, rfl, trivial⟩ | (refine ⟨by omega, ?_⟩; (conv => whnf); exact ⟨rfl, rfl, trivial⟩))); (conv => whnf))
      (apply Exists.intro; apply And.intro; (focus ((conv => whnf); first | exact ⟨rfl, rfl, trivial⟩ | (refine ⟨by omega, ?_⟩; (conv => whnf); exact ⟨rfl, rfl, trivial⟩))); (conv => whnf))
      apply Exists.intro
      apply And.intro
      · (conv => whnf)
        refine callK_of (c15 g2 hll hke (rK k) (nK k)) ?_
        rintro x H' ⟨hx, hH'⟩
        rw [hx, hH']
        exact ⟨rfl, rfl, trivial⟩
      (conv => whnf)
      rcases g5 k hk with ⟨y1, y2⟩ | ⟨e, y1, y2, y3⟩
      · rw [y1]
        clear y1 hk4 hr0 hr1 hn0 hn1
        (apply Exists.intro; apply And.intro; (focus ((conv => whnf); first | exact ⟨rfl, rfl, trivial⟩ | (refine ⟨by omega, ?_⟩; (conv => whnf); exact ⟨rfl, rfl, trivial⟩))); (conv => whnf))
        (apply Exists.intro; apply And.intro; (focus ((conv => whnf); first | exact ⟨rfl, rfl, trivial⟩ | (refine ⟨by omega, ?_⟩; (conv => whnf); exact ⟨rfl, rfl, trivial⟩))); (conv => whnf))
        (apply Exists.intro; apply And.intro; (focus ((conv => whnf); first | exact ⟨rfl, rfl, trivial⟩ | (refine ⟨by omega, ?_⟩; (conv => whnf); exact ⟨rfl, rfl, trivial⟩))); (conv => whnf))
        (apply Exists.intro; apply And.intro; (focus ((conv => whnf); first | exact ⟨rfl, rfl, trivial⟩ | (refine ⟨by omega, ?_⟩; (conv => whnf); exact ⟨rfl, rfl, trivial⟩))); (conv => whnf))
        (apply Exists.intro; apply And.intro; (focus ((conv => whnf); first | exact ⟨rfl, rfl, trivial⟩ | (refine ⟨by omega, ?_⟩; (conv => whnf); exact ⟨rfl, rfl, trivial⟩))); (conv => whnf))
        (apply Exists.intro; apply And.intro; (focus ((conv => whnf); first | exact ⟨rfl, rfl, trivial⟩ | (refine ⟨by omega, ?_⟩; (conv => whnf); exact ⟨rfl, rfl, trivial⟩))); (conv => whnf))
        (apply Exists.intro; apply And.intro; (focus ((conv => whnf); first | exact ⟨rfl, rfl, trivial⟩ | (refine ⟨by omega, ?_⟩; (conv => whnf); exact ⟨rfl, rfl, trivial⟩))); (conv => whnf))
        have y0 : (c k : Int) = 0 := by omega
        obtain rfl | rfl | rfl | rfl : k = 0 ∨ k = 1 ∨ k = 2 ∨ k = 3 := by omega
        all_goals
          refine ⟨by decide, ?_⟩
          (conv => whnf)
          ((conv in (_[_]?) => tactic => exact g3); (conv => whnf))
          refine ⟨fun _ => ?_, fun hc => absurd y0.symm hc⟩
          (conv => whnf)
          refine ⟨fun hc => absurd hc (by decide), fun _ => ?_⟩
          (conv => whnf)
          refine ⟨by decide, ?_⟩
          (conv => whnf)
          ((conv in (_[_]?) => tactic => exact g3); (conv => whnf))
          refine ⟨fun hc => absurd (show (c _ : Int) > 0 from hc) (by omega), fun _ => ?_⟩
          (conv => whnf)
          exact hlast _ _ ⟨rfl, rfl, rfl, rfl, trivial⟩ rfl
      · rw [y1]
        clear y1 hk4 hr0 hr1 hn0 hn1
        (apply Exists.intro; apply And.intro; (focus ((conv => whnf); first | exact ⟨rfl, rfl, trivial⟩ | (refine ⟨by omega, ?_⟩; (conv => whnf); exact ⟨rfl, rfl, trivial⟩))); (conv => whnf))
        (apply Exists.intro; apply And.intro; (focus ((conv => whnf); first | exact ⟨rfl, rfl, trivial⟩ | (refine ⟨by omega, ?_⟩; (conv => whnf); exact ⟨rfl, rfl, trivial⟩))); (conv => whnf))
        (apply Exists.intro; apply And.intro; (focus ((conv => whnf); first | exact ⟨rfl, rfl, trivial⟩ | (refine ⟨by omega, ?_⟩; (conv => whnf); exact ⟨rfl, rfl, trivial⟩))); (conv => whnf))
        (apply Exists.intro; apply And.intro; (focus ((conv => whnf); first | exact ⟨rfl, rfl, trivial⟩ | (refine ⟨by omega, ?_⟩; (conv => whnf); exact ⟨rfl, rfl, trivial⟩))); (conv => whnf))
        (apply Exists.intro; apply And.intro; (focus ((conv => whnf); first | exact ⟨rfl, rfl, trivial⟩ | (refine ⟨by omega, ?_⟩; (conv => whnf); exact ⟨rfl, rfl, trivial⟩))); (conv => whnf))
        (apply Exists.intro; apply And.intro; (focus ((conv => whnf); first | exact ⟨rfl, rfl, trivial⟩ | (refine ⟨by omega, ?_⟩; (conv => whnf); exact ⟨rfl, rfl, trivial⟩))); (conv => whnf))
        (apply Exists.intro; apply And.intro; (focus ((conv => whnf); first | exact ⟨rfl, rfl, trivial⟩ | (refine ⟨by omega, ?_⟩; (conv => whnf); exact ⟨rfl, rfl, trivial⟩))); (conv => whnf))
        have y0 : (e.kv : Int) = c k := by omega
        obtain rfl | rfl | rfl | rfl : k = 0 ∨ k = 1 ∨ k = 2 ∨ k = 3 := by omega
        all_goals
          refine ⟨by decide, ?_⟩
          (conv => whnf)
          ((conv in (_[_]?) => tactic => exact g3); (conv => whnf))
          refine ⟨fun _ => ?_, fun hc => absurd y0 hc⟩
          (conv => whnf)
          refine ⟨fun _ => ?_, fun hc => absurd rfl hc⟩
          (conv => whnf)
          refine ⟨by decide, ?_⟩
          (conv => whnf)
          ((conv in (_[_]?) => tactic => exact g3); (conv => whnf))
          refine ⟨fun _ => ?_, fun hc => absurd (show (c _ : Int) > 0 by omega) hc⟩
          (conv => whnf)
          exact hlast _ _ ⟨rfl, rfl, rfl, rfl, trivial⟩ rfl
    · (conv => whnf)
      refine callK_of (c14 H) ?_
      rintro x H' rfl
      (conv => whnf)
      rfl
end Go.Proofs.Tryd
