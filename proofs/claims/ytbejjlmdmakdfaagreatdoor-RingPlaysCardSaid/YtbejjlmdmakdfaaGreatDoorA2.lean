import Derived.Test.YtbejjlmdmakdfaaGreatDoorA1
import Derived.Test.YtbejjlmdmakdfaaGreatDoorA0
set_option linter.all false
set_option maxRecDepth 100000
set_option maxHeartbeats 4000000
set_option linter.unusedVariables false
set_option linter.unusedSimpArgs false
namespace Go.Proofs.Tryz
open Go Ps
def D145_5 : Draw := { imp := [17], win := [] }
def D145_12 : Draw := { cons := [(14, [6]), (15, [57])], imp := [], win := [], fs := [(0, 14, .slot 6)], looks := [(0, 6)] }
def D145_13 : Draw := { imp := [13], win := [] }
def z27 : List Int := List.replicate 27 0
theorem spN_c (k : List UInt8) (i : Nat) : (spN k i).c = (spN k (i + 1)).b := by rw [spN]
theorem spN_d' (k : List UInt8) (i : Nat) : (spN k i).d = (spN k (i + 1)).c := by rw [spN]
theorem spN_d (k : List UInt8) (i : Nat) : (spN k i).d = (spN k (i + 2)).b := by rw [spN_d', spN_c]
theorem spN_next (k : List UInt8) (i : Nat) : (spN k (i + 1)).d = xor32 (add32 (spN k i).a (rot32 (spN k i).b (-8))) (IntKind.u32.wrap (i : Int)) := by rw [spN]
theorem spN_a (k : List UInt8) (i : Nat) : (spN k (i + 1)).a = xor32 (rot32 (spN k i).a 3) (spN k (i + 1)).d := by rw [spN]
/-- The words behind the first. -/
def spL2 (k : List UInt8) (i : Nat) : List Int := (List.range (i + 3)).map fun j => (spN k j).b
theorem spN_zero (k : List UInt8) : spN k 0 = wN k 16 := by rw [spN]
theorem spL2_zero (k : List UInt8) : spL2 k 0 = [(wN k 16).b, (wN k 16).c, (wN k 16).d] := by
  rw [← spN_zero, spN_c, spN_d]
  generalize hb : (fun j => (spN k j).b) = f
  have e : ∀ j, (spN k j).b = f j := fun j => by rw [← hb]
  unfold spL2
  rw [hb, e, e, e]
  rfl
theorem spL_one (k : List UInt8) : spL k z27 (0 + 1) = (wN k 16).a :: z27.drop 1 := by
  rw [← spN_zero]
  generalize hb : (fun j => (spN k j).a) = f
  have e : (spN k 0).a = f 0 := by rw [← hb]
  unfold spL
  rw [hb, e]
  rfl
theorem spL2_len (k : List UInt8) (i : Nat) : (spL2 k i).length = i + 3 := by unfold spL2; simp
theorem spL2_get (k : List UInt8) (i j : Nat) (h : j < i + 3) : (spL2 k i)[j]? = some (spN k j).b := by
  unfold spL2
  rw [List.getElem?_map, List.getElem?_range h]; rfl
theorem spL2_succ (k : List UInt8) (i : Nat) : spL2 k (i + 1) = spL2 k i ++ [(spN k (i + 3)).b] := by
  unfold spL2
  rw [show i + 1 + 3 = (i + 3) + 1 by omega, List.range_succ, List.map_append]; rfl
theorem spL_at (k : List UInt8) (i j : Nat) (hi : i ≤ 27) (h : j < i) : (spL k z27 i)[j]? = some (spN k j).a := by
  unfold spL
  rw [List.getElem?_append_left (by simp; omega), List.getElem?_map, List.getElem?_range h]; rfl
theorem drop_u32 {l : List Int} {j : Nat} {x : Int} (h : l[j]? = some x) : ∃ r, dropN (0 + (j : Int).toNat * 1) (l.map u32C) = u32C x :: r := by
  have hlt := (List.getElem?_eq_some_iff.1 h).1
  refine ⟨(l.drop (j + 1)).map u32C, ?_⟩
  rw [dropN_eq, Int.toNat_natCast, Nat.mul_one, Nat.zero_add, ← List.map_drop, List.drop_eq_getElem_cons hlt, (List.getElem?_eq_some_iff.1 h).2]; rfl
theorem ext_of {H K : PH} (hl : H.length ≤ K.length) (hf : ∀ j, j < H.length → K[j]? = H[j]?) : ∃ ext, K = H ++ ext := ⟨K.drop H.length, List.ext_getElem? fun j => by
  by_cases h : j < H.length
  · rw [List.getElem?_append_left h]; exact hf j h
  · rw [List.getElem?_append_right (by omega), List.getElem?_drop]
    congr 1; omega⟩
theorem c145x (k : List UInt8) (hk : k.length = 16) (H : PH) : CallOk prog 145 [.agg (k.map byteC)] H fun r H' => r = .agg ((spW k).map u32C) ∧ ∃ ext, H' = H ++ ext := by
  obtain ⟨k0, k1, k2, k3, k4, k5, k6, k7, k8, k9, ka, kb, kc, kd, ke, kf, rfl⟩ := len16 hk
  obtain ⟨kk, hkk⟩ : ∃ kk : List UInt8, kk = [k0, k1, k2, k3, k4, k5, k6, k7, k8, k9, ka, kb, kc, kd, ke, kf] := ⟨_, rfl⟩
  rw [← hkk]
  (refine callOk_of_pFun2 (tt := ttQ2) (imm := imm145) follows ttQ2_ok depth6 func145 (by kernel_rfl) ?_; (conv => whnf))
  obtain ⟨H1, hH1⟩ : ∃ H1 : PH, H1 = H ++ [⟨218, z27.map u32C, 0⟩] := ⟨_, rfl⟩
  have hl1 : H1.length = H.length + 1 := by rw [hH1]; simp
  have hr1 : H1[H.length]? = some ⟨218, z27.map u32C, 0⟩ := by rw [hH1]; exact get_last H _
  refine loopK_of Nat (fun x => [(1, .elem (kk.map byteC)), (2, .ptr (some (H.length, 0))), (3, .ptr (some (H1.length, 0))), (4, .int .i64 x)]) (fun x => H1 ++ [(wN kk x).O4 x]) (fun x => x ≤ 16) (fun x => 16 - x) ⟨0, Nat.zero_le _, ⟨rfl, rfl, ?_, rfl, trivial⟩, ?_⟩ ?_
  · subst hH1; rfl
  · subst hH1; rfl
  intro i hi
  match i, hi with
  | 0, _ =>
    (conv => whnf)
    refine ⟨fun _ => ?_, fun h => absurd (show ((0 : Nat) : Int) < 16 by decide) h⟩
    (conv => whnf)
    generalize hz : wN kk 0 = z
    refine drawK_of2 D145_5 [H1 ++ [z.O4 0], H1 ++ [S4.O4 { z with a := orB z.a k0 0 } 1]] (by kernel_rfl) rfl trivial ?_
    (conv => whnf)
    (apply Exists.intro; apply And.intro; (focus ((conv => whnf); first | exact ⟨rfl, rfl, trivial⟩ | (refine ⟨by omega, ?_⟩; (conv => whnf); exact ⟨rfl, rfl, trivial⟩))); (conv => whnf))
    apply Exists.intro
    apply And.intro
    · (conv => whnf)
      first | exact ⟨rfl, rfl, trivial⟩ | (refine ⟨by decide, ?_⟩; (conv => whnf); exact ⟨rfl, rfl, trivial⟩)
    (conv => whnf)
    (apply Exists.intro; apply And.intro; (focus ((conv => whnf); first | exact ⟨rfl, rfl, trivial⟩ | (refine ⟨by omega, ?_⟩; (conv => whnf); exact ⟨rfl, rfl, trivial⟩))); (conv => whnf))
    apply Exists.intro
    apply And.intro
    · (conv => whnf)
      first | exact ⟨rfl, rfl, trivial⟩ | (refine ⟨by decide, ?_⟩; (conv => whnf); exact ⟨rfl, rfl, trivial⟩)
    (conv => whnf)
    apply Exists.intro
    apply And.intro
    · (conv => whnf)
      first | exact ⟨rfl, rfl, trivial⟩ | (refine ⟨by decide, ?_⟩; (conv => whnf); exact ⟨rfl, rfl, trivial⟩)
    (conv => whnf)
    apply Exists.intro
    apply And.intro
    · (conv => whnf)
      ((conv in (_[_]?) => tactic => exact (z.look4 0 H1)); (conv => whnf))
      exact ⟨rfl, rfl, trivial⟩
    (conv => whnf)
    (apply Exists.intro; apply And.intro; (focus ((conv => whnf); first | exact ⟨rfl, rfl, trivial⟩ | (refine ⟨by omega, ?_⟩; (conv => whnf); exact ⟨rfl, rfl, trivial⟩))); (conv => whnf))
    refine ⟨.elem [byteC k0], ⟨⟨by decide, by decide⟩, [byteC k0], at1' (k := 0) (by rw [hkk]; rfl), rfl, rfl, trivial⟩, ?_⟩
    (conv => whnf)
    (apply Exists.intro; apply And.intro; (focus ((conv => whnf); first | exact ⟨rfl, rfl, trivial⟩ | (refine ⟨by omega, ?_⟩; (conv => whnf); exact ⟨rfl, rfl, trivial⟩))); (conv => whnf))
    (apply Exists.intro; apply And.intro; (focus ((conv => whnf); first | exact ⟨rfl, rfl, trivial⟩ | (refine ⟨by omega, ?_⟩; (conv => whnf); exact ⟨rfl, rfl, trivial⟩))); (conv => whnf))
    (apply Exists.intro; apply And.intro; (focus ((conv => whnf); first | exact ⟨rfl, rfl, trivial⟩ | (refine ⟨by omega, ?_⟩; (conv => whnf); exact ⟨rfl, rfl, trivial⟩))); (conv => whnf))
    apply Exists.intro
    apply And.intro
    · (conv => whnf)
      first | exact ⟨rfl, rfl, trivial⟩ | (refine ⟨by decide, ?_⟩; (conv => whnf); exact ⟨rfl, rfl, trivial⟩)
    (conv => whnf)
    (apply Exists.intro; apply And.intro; (focus ((conv => whnf); first | exact ⟨rfl, rfl, trivial⟩ | (refine ⟨by omega, ?_⟩; (conv => whnf); exact ⟨rfl, rfl, trivial⟩))); (conv => whnf))
    (apply Exists.intro; apply And.intro; (focus ((conv => whnf); first | exact ⟨rfl, rfl, trivial⟩ | (refine ⟨by omega, ?_⟩; (conv => whnf); exact ⟨rfl, rfl, trivial⟩))); (conv => whnf))
    apply Exists.intro
    apply And.intro
    · (conv => whnf)
      first | exact ⟨rfl, rfl, trivial⟩ | (refine ⟨by decide, ?_⟩; (conv => whnf); exact ⟨rfl, rfl, trivial⟩)
    (conv => whnf)
    (apply Exists.intro; apply And.intro; (focus ((conv => whnf); first | exact ⟨rfl, rfl, trivial⟩ | (refine ⟨by omega, ?_⟩; (conv => whnf); exact ⟨rfl, rfl, trivial⟩))); (conv => whnf))
    apply Exists.intro
    apply And.intro
    · (conv => whnf)
      first | exact ⟨rfl, rfl, trivial⟩ | (refine ⟨by decide, ?_⟩; (conv => whnf); exact ⟨rfl, rfl, trivial⟩)
    (conv => whnf)
    apply Exists.intro
    apply And.intro
    · (conv => whnf)
      ((conv in (_[_]?) => tactic => exact (z.look4 0 H1)); (conv => whnf))
      exact ⟨rfl, set_last H1 _ _, trivial⟩
    (conv => whnf)
    refine ⟨1, by decide, ⟨rfl, rfl, rfl, rfl, trivial⟩, ?_, by decide⟩
    subst hz hkk
    rfl
  | 1, _ =>
    (conv => whnf)
    refine ⟨fun _ => ?_, fun h => absurd (show ((1 : Nat) : Int) < 16 by decide) h⟩
    (conv => whnf)
    generalize hz : wN kk 1 = z
    refine drawK_of2 D145_5 [H1 ++ [z.O4 1], H1 ++ [S4.O4 { z with a := orB z.a k1 8 } 2]] (by kernel_rfl) rfl trivial ?_
    (conv => whnf)
    (apply Exists.intro; apply And.intro; (focus ((conv => whnf); first | exact ⟨rfl, rfl, trivial⟩ | (refine ⟨by omega, ?_⟩; (conv => whnf); exact ⟨rfl, rfl, trivial⟩))); (conv => whnf))
    apply Exists.intro
    apply And.intro
    · (conv => whnf)
      first | exact ⟨rfl, rfl, trivial⟩ | (refine ⟨by decide, ?_⟩; (conv => whnf); exact ⟨rfl, rfl, trivial⟩)
    (conv => whnf)
    (apply Exists.intro; apply And.intro; (focus ((conv => whnf); first | exact ⟨rfl, rfl, trivial⟩ | (refine ⟨by omega, ?_⟩; (conv => whnf); exact ⟨rfl, rfl, trivial⟩))); (conv => whnf))
    apply Exists.intro
    apply And.intro
    · (conv => whnf)
      first | exact ⟨rfl, rfl, trivial⟩ | (refine ⟨by decide, ?_⟩; (conv => whnf); exact ⟨rfl, rfl, trivial⟩)
    (conv => whnf)
    apply Exists.intro
    apply And.intro
    · (conv => whnf)
      first | exact ⟨rfl, rfl, trivial⟩ | (refine ⟨by decide, ?_⟩; (conv => whnf); exact ⟨rfl, rfl, trivial⟩)
    (conv => whnf)
    apply Exists.intro
    apply And.intro
    · (conv => whnf)
      ((conv in (_[_]?) => tactic => exact (z.look4 1 H1)); (conv => whnf))
      exact ⟨rfl, rfl, trivial⟩
    (conv => whnf)
    (apply Exists.intro; apply And.intro; (focus ((conv => whnf); first | exact ⟨rfl, rfl, trivial⟩ | (refine ⟨by omega, ?_⟩; (conv => whnf); exact ⟨rfl, rfl, trivial⟩))); (conv => whnf))
    refine ⟨.elem [byteC k1], ⟨⟨by decide, by decide⟩, [byteC k1], at1' (k := 1) (by rw [hkk]; rfl), rfl, rfl, trivial⟩, ?_⟩
    (conv => whnf)
    (apply Exists.intro; apply And.intro; (focus ((conv => whnf); first | exact ⟨rfl, rfl, trivial⟩ | (refine ⟨by omega, ?_⟩; (conv => whnf); exact ⟨rfl, rfl, trivial⟩))); (conv => whnf))
    (apply Exists.intro; apply And.intro; (focus ((conv => whnf); first | exact ⟨rfl, rfl, trivial⟩ | (refine ⟨by omega, ?_⟩; (conv => whnf); exact ⟨rfl, rfl, trivial⟩))); (conv => whnf))
    (apply Exists.intro; apply And.intro; (focus ((conv => whnf); first | exact ⟨rfl, rfl, trivial⟩ | (refine ⟨by omega, ?_⟩; (conv => whnf); exact ⟨rfl, rfl, trivial⟩))); (conv => whnf))
    apply Exists.intro
    apply And.intro
    · (conv => whnf)
      first | exact ⟨rfl, rfl, trivial⟩ | (refine ⟨by decide, ?_⟩; (conv => whnf); exact ⟨rfl, rfl, trivial⟩)
    (conv => whnf)
    (apply Exists.intro; apply And.intro; (focus ((conv => whnf); first | exact ⟨rfl, rfl, trivial⟩ | (refine ⟨by omega, ?_⟩; (conv => whnf); exact ⟨rfl, rfl, trivial⟩))); (conv => whnf))
    (apply Exists.intro; apply And.intro; (focus ((conv => whnf); first | exact ⟨rfl, rfl, trivial⟩ | (refine ⟨by omega, ?_⟩; (conv => whnf); exact ⟨rfl, rfl, trivial⟩))); (conv => whnf))
    apply Exists.intro
    apply And.intro
    · (conv => whnf)
      first | exact ⟨rfl, rfl, trivial⟩ | (refine ⟨by decide, ?_⟩; (conv => whnf); exact ⟨rfl, rfl, trivial⟩)
    (conv => whnf)
    (apply Exists.intro; apply And.intro; (focus ((conv => whnf); first | exact ⟨rfl, rfl, trivial⟩ | (refine ⟨by omega, ?_⟩; (conv => whnf); exact ⟨rfl, rfl, trivial⟩))); (conv => whnf))
    apply Exists.intro
    apply And.intro
    · (conv => whnf)
      first | exact ⟨rfl, rfl, trivial⟩ | (refine ⟨by decide, ?_⟩; (conv => whnf); exact ⟨rfl, rfl, trivial⟩)
    (conv => whnf)
    apply Exists.intro
    apply And.intro
    · (conv => whnf)
      ((conv in (_[_]?) => tactic => exact (z.look4 1 H1)); (conv => whnf))
      exact ⟨rfl, set_last H1 _ _, trivial⟩
    (conv => whnf)
    refine ⟨2, by decide, ⟨rfl, rfl, rfl, rfl, trivial⟩, ?_, by decide⟩
    subst hz hkk
    rfl
  | 2, _ =>
    (conv => whnf)
    refine ⟨fun _ => ?_, fun h => absurd (show ((2 : Nat) : Int) < 16 by decide) h⟩
    (conv => whnf)
    generalize hz : wN kk 2 = z
    refine drawK_of2 D145_5 [H1 ++ [z.O4 2], H1 ++ [S4.O4 { z with a := orB z.a k2 16 } 3]] (by kernel_rfl) rfl trivial ?_
    (conv => whnf)
    (apply Exists.intro; apply And.intro; (focus ((conv => whnf); first | exact ⟨rfl, rfl, trivial⟩ | (refine ⟨by omega, ?_⟩; (conv => whnf); exact ⟨rfl, rfl, trivial⟩))); (conv => whnf))
    apply Exists.intro
    apply And.intro
    · (conv => whnf)
      first | exact ⟨rfl, rfl, trivial⟩ | (refine ⟨by decide, ?_⟩; (conv => whnf); exact ⟨rfl, rfl, trivial⟩)
    (conv => whnf)
    (apply Exists.intro; apply And.intro; (focus ((conv => whnf); first | exact ⟨rfl, rfl, trivial⟩ | (refine ⟨by omega, ?_⟩; (conv => whnf); exact ⟨rfl, rfl, trivial⟩))); (conv => whnf))
    apply Exists.intro
    apply And.intro
    · (conv => whnf)
      first | exact ⟨rfl, rfl, trivial⟩ | (refine ⟨by decide, ?_⟩; (conv => whnf); exact ⟨rfl, rfl, trivial⟩)
    (conv => whnf)
    apply Exists.intro
    apply And.intro
    · (conv => whnf)
      first | exact ⟨rfl, rfl, trivial⟩ | (refine ⟨by decide, ?_⟩; (conv => whnf); exact ⟨rfl, rfl, trivial⟩)
    (conv => whnf)
    apply Exists.intro
    apply And.intro
    · (conv => whnf)
      ((conv in (_[_]?) => tactic => exact (z.look4 2 H1)); (conv => whnf))
      exact ⟨rfl, rfl, trivial⟩
    (conv => whnf)
    (apply Exists.intro; apply And.intro; (focus ((conv => whnf); first | exact ⟨rfl, rfl, trivial⟩ | (refine ⟨by omega, ?_⟩; (conv => whnf); exact ⟨rfl, rfl, trivial⟩))); (conv => whnf))
    refine ⟨.elem [byteC k2], ⟨⟨by decide, by decide⟩, [byteC k2], at1' (k := 2) (by rw [hkk]; rfl), rfl, rfl, trivial⟩, ?_⟩
    (conv => whnf)
    (apply Exists.intro; apply And.intro; (focus ((conv => whnf); first | exact ⟨rfl, rfl, trivial⟩ | (refine ⟨by omega, ?_⟩; (conv => whnf); exact ⟨rfl, rfl, trivial⟩))); (conv => whnf))
    (apply Exists.intro; apply And.intro; (focus ((conv => whnf); first | exact ⟨rfl, rfl, trivial⟩ | (refine ⟨by omega, ?_⟩; (conv => whnf); exact ⟨rfl, rfl, trivial⟩))); (conv => whnf))
    (apply Exists.intro; apply And.intro; (focus ((conv => whnf); first | exact ⟨rfl, rfl, trivial⟩ | (refine ⟨by omega, ?_⟩; (conv => whnf); exact ⟨rfl, rfl, trivial⟩))); (conv => whnf))
    apply Exists.intro
    apply And.intro
    · (conv => whnf)
      first | exact ⟨rfl, rfl, trivial⟩ | (refine ⟨by decide, ?_⟩; (conv => whnf); exact ⟨rfl, rfl, trivial⟩)
    (conv => whnf)
    (apply Exists.intro; apply And.intro; (focus ((conv => whnf); first | exact ⟨rfl, rfl, trivial⟩ | (refine ⟨by omega, ?_⟩; (conv => whnf); exact ⟨rfl, rfl, trivial⟩))); (conv => whnf))
    (apply Exists.intro; apply And.intro; (focus ((conv => whnf); first | exact ⟨rfl, rfl, trivial⟩ | (refine ⟨by omega, ?_⟩; (conv => whnf); exact ⟨rfl, rfl, trivial⟩))); (conv => whnf))
    apply Exists.intro
    apply And.intro
    · (conv => whnf)
      first | exact ⟨rfl, rfl, trivial⟩ | (refine ⟨by decide, ?_⟩; (conv => whnf); exact ⟨rfl, rfl, trivial⟩)
    (conv => whnf)
    (apply Exists.intro; apply And.intro; (focus ((conv => whnf); first | exact ⟨rfl, rfl, trivial⟩ | (refine ⟨by omega, ?_⟩; (conv => whnf); exact ⟨rfl, rfl, trivial⟩))); (conv => whnf))
    apply Exists.intro
    apply And.intro
    · (conv => whnf)
      first | exact ⟨rfl, rfl, trivial⟩ | (refine ⟨by decide, ?_⟩; (conv => whnf); exact ⟨rfl, rfl, trivial⟩)
    (conv => whnf)
    apply Exists.intro
    apply And.intro
    · (conv => whnf)
      ((conv in (_[_]?) => tactic => exact (z.look4 2 H1)); (conv => whnf))
      exact ⟨rfl, set_last H1 _ _, trivial⟩
    (conv => whnf)
    refine ⟨3, by decide, ⟨rfl, rfl, rfl, rfl, trivial⟩, ?_, by decide⟩
    subst hz hkk
    rfl
  | 3, _ =>
    (conv => whnf)
    refine ⟨fun _ => ?_, fun h => absurd (show ((3 : Nat) : Int) < 16 by decide) h⟩
    (conv => whnf)
    generalize hz : wN kk 3 = z
    refine drawK_of2 D145_5 [H1 ++ [z.O4 3], H1 ++ [S4.O4 { z with a := orB z.a k3 24 } 4]] (by kernel_rfl) rfl trivial ?_
    (conv => whnf)
    (apply Exists.intro; apply And.intro; (focus ((conv => whnf); first | exact ⟨rfl, rfl, trivial⟩ | (refine ⟨by omega, ?_⟩; (conv => whnf); exact ⟨rfl, rfl, trivial⟩))); (conv => whnf))
    apply Exists.intro
    apply And.intro
    · (conv => whnf)
      first | exact ⟨rfl, rfl, trivial⟩ | (refine ⟨by decide, ?_⟩; (conv => whnf); exact ⟨rfl, rfl, trivial⟩)
    (conv => whnf)
    (apply Exists.intro; apply And.intro; (focus ((conv => whnf); first | exact ⟨rfl, rfl, trivial⟩ | (refine ⟨by omega, ?_⟩; (conv => whnf); exact ⟨rfl, rfl, trivial⟩))); (conv => whnf))
    apply Exists.intro
    apply And.intro
    · (conv => whnf)
      first | exact ⟨rfl, rfl, trivial⟩ | (refine ⟨by decide, ?_⟩; (conv => whnf); exact ⟨rfl, rfl, trivial⟩)
    (conv => whnf)
    apply Exists.intro
    apply And.intro
    · (conv => whnf)
      first | exact ⟨rfl, rfl, trivial⟩ | (refine ⟨by decide, ?_⟩; (conv => whnf); exact ⟨rfl, rfl, trivial⟩)
    (conv => whnf)
    apply Exists.intro
    apply And.intro
    · (conv => whnf)
      ((conv in (_[_]?) => tactic => exact (z.look4 3 H1)); (conv => whnf))
      exact ⟨rfl, rfl, trivial⟩
    (conv => whnf)
    (apply Exists.intro; apply And.intro; (focus ((conv => whnf); first | exact ⟨rfl, rfl, trivial⟩ | (refine ⟨by omega, ?_⟩; (conv => whnf); exact ⟨rfl, rfl, trivial⟩))); (conv => whnf))
    refine ⟨.elem [byteC k3], ⟨⟨by decide, by decide⟩, [byteC k3], at1' (k := 3) (by rw [hkk]; rfl), rfl, rfl, trivial⟩, ?_⟩
    (conv => whnf)
    (apply Exists.intro; apply And.intro; (focus ((conv => whnf); first | exact ⟨rfl, rfl, trivial⟩ | (refine ⟨by omega, ?_⟩; (conv => whnf); exact ⟨rfl, rfl, trivial⟩))); (conv => whnf))
    (apply Exists.intro; apply And.intro; (focus ((conv => whnf); first | exact ⟨rfl, rfl, trivial⟩ | (refine ⟨by omega, ?_⟩; (conv => whnf); exact ⟨rfl, rfl, trivial⟩))); (conv => whnf))
    (apply Exists.intro; apply And.intro; (focus ((conv => whnf); first | exact ⟨rfl, rfl, trivial⟩ | (refine ⟨by omega, ?_⟩; (conv => whnf); exact ⟨rfl, rfl, trivial⟩))); (conv => whnf))
    apply Exists.intro
    apply And.intro
    · (conv => whnf)
      first | exact ⟨rfl, rfl, trivial⟩ | (refine ⟨by decide, ?_⟩; (conv => whnf); exact ⟨rfl, rfl, trivial⟩)
    (conv => whnf)
    (apply Exists.intro; apply And.intro; (focus ((conv => whnf); first | exact ⟨rfl, rfl, trivial⟩ | (refine ⟨by omega, ?_⟩; (conv => whnf); exact ⟨rfl, rfl, trivial⟩))); (conv => whnf))
    (apply Exists.intro; apply And.intro; (focus ((conv => whnf); first | exact ⟨rfl, rfl, trivial⟩ | (refine ⟨by omega, ?_⟩; (conv => whnf); exact ⟨rfl, rfl, trivial⟩))); (conv => whnf))
    apply Exists.intro
    apply And.intro
    · (conv => whnf)
      first | exact ⟨rfl, rfl, trivial⟩ | (refine ⟨by decide, ?_⟩; (conv => whnf); exact ⟨rfl, rfl, trivial⟩)
    (conv => whnf)
    (apply Exists.intro; apply And.intro; (focus ((conv => whnf); first | exact ⟨rfl, rfl, trivial⟩ | (refine ⟨by omega, ?_⟩; (conv => whnf); exact ⟨rfl, rfl, trivial⟩))); (conv => whnf))
    apply Exists.intro
    apply And.intro
    · (conv => whnf)
      first | exact ⟨rfl, rfl, trivial⟩ | (refine ⟨by decide, ?_⟩; (conv => whnf); exact ⟨rfl, rfl, trivial⟩)
    (conv => whnf)
    apply Exists.intro
    apply And.intro
    · (conv => whnf)
      ((conv in (_[_]?) => tactic => exact (z.look4 3 H1)); (conv => whnf))
      exact ⟨rfl, set_last H1 _ _, trivial⟩
    (conv => whnf)
    refine ⟨4, by decide, ⟨rfl, rfl, rfl, rfl, trivial⟩, ?_, by decide⟩
    subst hz hkk
    rfl
  | 4, _ =>
    (conv => whnf)
    refine ⟨fun _ => ?_, fun h => absurd (show ((4 : Nat) : Int) < 16 by decide) h⟩
    (conv => whnf)
    generalize hz : wN kk 4 = z
    refine drawK_of2 D145_5 [H1 ++ [z.O4 4], H1 ++ [S4.O4 { z with b := orB z.b k4 0 } 5]] (by kernel_rfl) rfl trivial ?_
    (conv => whnf)
    (apply Exists.intro; apply And.intro; (focus ((conv => whnf); first | exact ⟨rfl, rfl, trivial⟩ | (refine ⟨by omega, ?_⟩; (conv => whnf); exact ⟨rfl, rfl, trivial⟩))); (conv => whnf))
    apply Exists.intro
    apply And.intro
    · (conv => whnf)
      first | exact ⟨rfl, rfl, trivial⟩ | (refine ⟨by decide, ?_⟩; (conv => whnf); exact ⟨rfl, rfl, trivial⟩)
    (conv => whnf)
    (apply Exists.intro; apply And.intro; (focus ((conv => whnf); first | exact ⟨rfl, rfl, trivial⟩ | (refine ⟨by omega, ?_⟩; (conv => whnf); exact ⟨rfl, rfl, trivial⟩))); (conv => whnf))
    apply Exists.intro
    apply And.intro
    · (conv => whnf)
      first | exact ⟨rfl, rfl, trivial⟩ | (refine ⟨by decide, ?_⟩; (conv => whnf); exact ⟨rfl, rfl, trivial⟩)
    (conv => whnf)
    apply Exists.intro
    apply And.intro
    · (conv => whnf)
      first | exact ⟨rfl, rfl, trivial⟩ | (refine ⟨by decide, ?_⟩; (conv => whnf); exact ⟨rfl, rfl, trivial⟩)
    (conv => whnf)
    apply Exists.intro
    apply And.intro
    · (conv => whnf)
      ((conv in (_[_]?) => tactic => exact (z.look4 4 H1)); (conv => whnf))
      exact ⟨rfl, rfl, trivial⟩
    (conv => whnf)
    (apply Exists.intro; apply And.intro; (focus ((conv => whnf); first | exact ⟨rfl, rfl, trivial⟩ | (refine ⟨by omega, ?_⟩; (conv => whnf); exact ⟨rfl, rfl, trivial⟩))); (conv => whnf))
    refine ⟨.elem [byteC k4], ⟨⟨by decide, by decide⟩, [byteC k4], at1' (k := 4) (by rw [hkk]; rfl), rfl, rfl, trivial⟩, ?_⟩
    (conv => whnf)
    (apply Exists.intro; apply And.intro; (focus ((conv => whnf); first | exact ⟨rfl, rfl, trivial⟩ | (refine ⟨by omega, ?_⟩; (conv => whnf); exact ⟨rfl, rfl, trivial⟩))); (conv => whnf))
    (apply Exists.intro; apply And.intro; (focus ((conv => whnf); first | exact ⟨rfl, rfl, trivial⟩ | (refine ⟨by omega, ?_⟩; (conv => whnf); exact ⟨rfl, rfl, trivial⟩))); (conv => whnf))
    (apply Exists.intro; apply And.intro; (focus ((conv => whnf); first | exact ⟨rfl, rfl, trivial⟩ | (refine ⟨by omega, ?_⟩; (conv => whnf); exact ⟨rfl, rfl, trivial⟩))); (conv => whnf))
    apply Exists.intro
    apply And.intro
    · (conv => whnf)
      first | exact ⟨rfl, rfl, trivial⟩ | (refine ⟨by decide, ?_⟩; (conv => whnf); exact ⟨rfl, rfl, trivial⟩)
    (conv => whnf)
    (apply Exists.intro; apply And.intro; (focus ((conv => whnf); first | exact ⟨rfl, rfl, trivial⟩ | (refine ⟨by omega, ?_⟩; (conv => whnf); exact ⟨rfl, rfl, trivial⟩))); (conv => whnf))
    (apply Exists.intro; apply And.intro; (focus ((conv => whnf); first | exact ⟨rfl, rfl, trivial⟩ | (refine ⟨by omega, ?_⟩; (conv => whnf); exact ⟨rfl, rfl, trivial⟩))); (conv => whnf))
    apply Exists.intro
    apply And.intro
    · (conv => whnf)
      first | exact ⟨rfl, rfl, trivial⟩ | (refine ⟨by decide, ?_⟩; (conv => whnf); exact ⟨rfl, rfl, trivial⟩)
    (conv => whnf)
    (apply Exists.intro; apply And.intro; (focus ((conv => whnf); first | exact ⟨rfl, rfl, trivial⟩ | (refine ⟨by omega, ?_⟩; (conv => whnf); exact ⟨rfl, rfl, trivial⟩))); (conv => whnf))
    apply Exists.intro
    apply And.intro
    · (conv => whnf)
      first | exact ⟨rfl, rfl, trivial⟩ | (refine ⟨by decide, ?_⟩; (conv => whnf); exact ⟨rfl, rfl, trivial⟩)
    (conv => whnf)
    apply Exists.intro
    apply And.intro
    · (conv => whnf)
      ((conv in (_[_]?) => tactic => exact (z.look4 4 H1)); (conv => whnf))
      exact ⟨rfl, set_last H1 _ _, trivial⟩
    (conv => whnf)
    refine ⟨5, by decide, ⟨rfl, rfl, rfl, rfl, trivial⟩, ?_, by decide⟩
    subst hz hkk
    rfl
  | 5, _ =>
    (conv => whnf)
    refine ⟨fun _ => ?_, fun h => absurd (show ((5 : Nat) : Int) < 16 by decide) h⟩
    (conv => whnf)
    generalize hz : wN kk 5 = z
    refine drawK_of2 D145_5 [H1 ++ [z.O4 5], H1 ++ [S4.O4 { z with b := orB z.b k5 8 } 6]] (by kernel_rfl) rfl trivial ?_
    (conv => whnf)
    (apply Exists.intro; apply And.intro; (focus ((conv => whnf); first | exact ⟨rfl, rfl, trivial⟩ | (refine ⟨by omega, ?_⟩; (conv => whnf); exact ⟨rfl, rfl, trivial⟩))); (conv => whnf))
    apply Exists.intro
    apply And.intro
    · (conv => whnf)
      first | exact ⟨rfl, rfl, trivial⟩ | (refine ⟨by decide, ?_⟩; (conv => whnf); exact ⟨rfl, rfl, trivial⟩)
    (conv => whnf)
    (apply Exists.intro; apply And.intro; (focus ((conv => whnf); first | exact ⟨rfl, rfl, trivial⟩ | (refine ⟨by omega, ?_⟩; (conv => whnf); exact ⟨rfl, rfl, trivial⟩))); (conv => whnf))
    apply Exists.intro
    apply And.intro
    · (conv => whnf)
      first | exact ⟨rfl, rfl, trivial⟩ | (refine ⟨by decide, ?_⟩; (conv => whnf); exact ⟨rfl, rfl, trivial⟩)
    (conv => whnf)
    apply Exists.intro
    apply And.intro
    · (conv => whnf)
      first | exact ⟨rfl, rfl, trivial⟩ | (refine ⟨by decide, ?_⟩; (conv => whnf); exact ⟨rfl, rfl, trivial⟩)
    (conv => whnf)
    apply Exists.intro
    apply And.intro
    · (conv => whnf)
      ((conv in (_[_]?) => tactic => exact (z.look4 5 H1)); (conv => whnf))
      exact ⟨rfl, rfl, trivial⟩
    (conv => whnf)
    (apply Exists.intro; apply And.intro; (focus ((conv => whnf); first | exact ⟨rfl, rfl, trivial⟩ | (refine ⟨by omega, ?_⟩; (conv => whnf); exact ⟨rfl, rfl, trivial⟩))); (conv => whnf))
    refine ⟨.elem [byteC k5], ⟨⟨by decide, by decide⟩, [byteC k5], at1' (k := 5) (by rw [hkk]; rfl), rfl, rfl, trivial⟩, ?_⟩
    (conv => whnf)
    (apply Exists.intro; apply And.intro; (focus ((conv => whnf); first | exact ⟨rfl, rfl, trivial⟩ | (refine ⟨by omega, ?_⟩; (conv => whnf); exact ⟨rfl, rfl, trivial⟩))); (conv => whnf))
    (apply Exists.intro; apply And.intro; (focus ((conv => whnf); first | exact ⟨rfl, rfl, trivial⟩ | (refine ⟨by omega, ?_⟩; (conv => whnf); exact ⟨rfl, rfl, trivial⟩))); (conv => whnf))
    (apply Exists.intro; apply And.intro; (focus ((conv => whnf); first | exact ⟨rfl, rfl, trivial⟩ | (refine ⟨by omega, ?_⟩; (conv => whnf); exact ⟨rfl, rfl, trivial⟩))); (conv => whnf))
    apply Exists.intro
    apply And.intro
    · (conv => whnf)
      first | exact ⟨rfl, rfl, trivial⟩ | (refine ⟨by decide, ?_⟩; (conv => whnf); exact ⟨rfl, rfl, trivial⟩)
    (conv => whnf)
    (apply Exists.intro; apply And.intro; (focus ((conv => whnf); first | exact ⟨rfl, rfl, trivial⟩ | (refine ⟨by omega, ?_⟩; (conv => whnf); exact ⟨rfl, rfl, trivial⟩))); (conv => whnf))
    (apply Exists.intro; apply And.intro; (focus ((conv => whnf); first | exact ⟨rfl, rfl, trivial⟩ | (refine ⟨by omega, ?_⟩; (conv => whnf); exact ⟨rfl, rfl, trivial⟩))); (conv => whnf))
    apply Exists.intro
    apply And.intro
    · (conv => whnf)
      first | exact ⟨rfl, rfl, trivial⟩ | (refine ⟨by decide, ?_⟩; (conv => whnf); exact ⟨rfl, rfl, trivial⟩)
    (conv => whnf)
    (apply Exists.intro; apply And.intro; (focus ((conv => whnf); first | exact ⟨rfl, rfl, trivial⟩ | (refine ⟨by omega, ?_⟩; (conv => whnf); exact ⟨rfl, rfl, trivial⟩))); (conv => whnf))
    apply Exists.intro
    apply And.intro
    · (conv => whnf)
      first | exact ⟨rfl, rfl, trivial⟩ | (refine ⟨by decide, ?_⟩; (conv => whnf); exact ⟨rfl, rfl, trivial⟩)
    (conv => whnf)
    apply Exists.intro
    apply And.intro
    · (conv => whnf)
      ((conv in (_[_]?) => tactic => exact (z.look4 5 H1)); (conv => whnf))
      exact ⟨rfl, set_last H1 _ _, trivial⟩
    (conv => whnf)
    refine ⟨6, by decide, ⟨rfl, rfl, rfl, rfl, trivial⟩, ?_, by decide⟩
    subst hz hkk
    rfl
  | 6, _ =>
    (conv => whnf)
    refine ⟨fun _ => ?_, fun h => absurd (show ((6 : Nat) : Int) < 16 by decide) h⟩
    (conv => whnf)
    generalize hz : wN kk 6 = z
    refine drawK_of2 D145_5 [H1 ++ [z.O4 6], H1 ++ [S4.O4 { z with b := orB z.b k6 16 } 7]] (by kernel_rfl) rfl trivial ?_
    (conv => whnf)
    (apply Exists.intro; apply And.intro; (focus ((conv => whnf); first | exact ⟨rfl, rfl, trivial⟩ | (refine ⟨by omega, ?_⟩; (conv => whnf); exact ⟨rfl, rfl, trivial⟩))); (conv => whnf))
    apply Exists.intro
    apply And.intro
    · (conv => whnf)
      first | exact ⟨rfl, rfl, trivial⟩ | (refine ⟨by decide, ?_⟩; (conv => whnf); exact ⟨rfl, rfl, trivial⟩)
    (conv => whnf)
    (apply Exists.intro; apply And.intro; (focus ((conv => whnf); first | exact ⟨rfl, rfl, trivial⟩ | (refine ⟨by omega, ?_⟩; (conv => whnf); exact ⟨rfl, rfl, trivial⟩))); (conv => whnf))
    apply Exists.intro
    apply And.intro
    · (conv => whnf)
      first | exact ⟨rfl, rfl, trivial⟩ | (refine ⟨by decide, ?_⟩; (conv => whnf); exact ⟨rfl, rfl, trivial⟩)
    (conv => whnf)
    apply Exists.intro
    apply And.intro
    · (conv => whnf)
      first | exact ⟨rfl, rfl, trivial⟩ | (refine ⟨by decide, ?_⟩; (conv => whnf); exact ⟨rfl, rfl, trivial⟩)
    (conv => whnf)
    apply Exists.intro
    apply And.intro
    · (conv => whnf)
      ((conv in (_[_]?) => tactic => exact (z.look4 6 H1)); (conv => whnf))
      exact ⟨rfl, rfl, trivial⟩
    (conv => whnf)
    (apply Exists.intro; apply And.intro; (focus ((conv => whnf); first | exact ⟨rfl, rfl, trivial⟩ | (refine ⟨by omega, ?_⟩; (conv => whnf); exact ⟨rfl, rfl, trivial⟩))); (conv => whnf))
    refine ⟨.elem [byteC k6], ⟨⟨by decide, by decide⟩, [byteC k6], at1' (k := 6) (by rw [hkk]; rfl), rfl, rfl, trivial⟩, ?_⟩
    (conv => whnf)
    (apply Exists.intro; apply And.intro; (focus ((conv => whnf); first | exact ⟨rfl, rfl, trivial⟩ | (refine ⟨by omega, ?_⟩; (conv => whnf); exact ⟨rfl, rfl, trivial⟩))); (conv => whnf))
    (apply Exists.intro; apply And.intro; (focus ((conv => whnf); first | exact ⟨rfl, rfl, trivial⟩ | (refine ⟨by omega, ?_⟩; (conv => whnf); exact ⟨rfl, rfl, trivial⟩))); (conv => whnf))
    (apply Exists.intro; apply And.intro; (focus ((conv => whnf); first | exact ⟨rfl, rfl, trivial⟩ | (refine ⟨by omega, ?_⟩; (conv => whnf); exact ⟨rfl, rfl, trivial⟩))); (conv => whnf))
    apply Exists.intro
    apply And.intro
    · (conv => whnf)
      first | exact ⟨rfl, rfl, trivial⟩ | (refine ⟨by decide, ?_⟩; (conv => whnf); exact ⟨rfl, rfl, trivial⟩)
    (conv => whnf)
    (apply Exists.intro; apply And.intro; (focus ((conv => whnf); first | exact ⟨rfl, rfl, trivial⟩ | (refine ⟨by omega, ?_⟩; (conv => whnf); exact ⟨rfl, rfl, trivial⟩))); (conv => whnf))
    (apply Exists.intro; apply And.intro; (focus ((conv => whnf); first | exact ⟨rfl, rfl, trivial⟩ | (refine ⟨by omega, ?_⟩; (conv => whnf); exact ⟨rfl, rfl, trivial⟩))); (conv => whnf))
    apply Exists.intro
    apply And.intro
    · (conv => whnf)
      first | exact ⟨rfl, rfl, trivial⟩ | (refine ⟨by decide, ?_⟩; (conv => whnf); exact ⟨rfl, rfl, trivial⟩)
    (conv => whnf)
    (apply Exists.intro; apply And.intro; (focus ((conv => whnf); first | exact ⟨rfl, rfl, trivial⟩ | (refine ⟨by omega, ?_⟩; (conv => whnf); exact ⟨rfl, rfl, trivial⟩))); (conv => whnf))
    apply Exists.intro
    apply And.intro
    · (conv => whnf)
      first | exact ⟨rfl, rfl, trivial⟩ | (refine ⟨by decide, ?_⟩; (conv => whnf); exact ⟨rfl, rfl, trivial⟩)
    (conv => whnf)
    apply Exists.intro
    apply And.intro
    · (conv => whnf)
      ((conv in (_[_]?) => tactic => exact (z.look4 6 H1)); (conv => whnf))
      exact ⟨rfl, set_last H1 _ _, trivial⟩
    (conv => whnf)
    refine ⟨7, by decide, ⟨rfl, rfl, rfl, rfl, trivial⟩, ?_, by decide⟩
    subst hz hkk
    rfl
  | 7, _ =>
    (conv => whnf)
    refine ⟨fun _ => ?_, fun h => absurd (show ((7 : Nat) : Int) < 16 by decide) h⟩
    (conv => whnf)
    generalize hz : wN kk 7 = z
    refine drawK_of2 D145_5 [H1 ++ [z.O4 7], H1 ++ [S4.O4 { z with b := orB z.b k7 24 } 8]] (by kernel_rfl) rfl trivial ?_
    (conv => whnf)
    (apply Exists.intro; apply And.intro; (focus ((conv => whnf); first | exact ⟨rfl, rfl, trivial⟩ | (refine ⟨by omega, ?_⟩; (conv => whnf); exact ⟨rfl, rfl, trivial⟩))); (conv => whnf))
    apply Exists.intro
    apply And.intro
    · (conv => whnf)
      first | exact ⟨rfl, rfl, trivial⟩ | (refine ⟨by decide, ?_⟩; (conv => whnf); exact ⟨rfl, rfl, trivial⟩)
    (conv => whnf)
    (apply Exists.intro; apply And.intro; (focus ((conv => whnf); first | exact ⟨rfl, rfl, trivial⟩ | (refine ⟨by omega, ?_⟩; (conv => whnf); exact ⟨rfl, rfl, trivial⟩))); (conv => whnf))
    apply Exists.intro
    apply And.intro
    · (conv => whnf)
      first | exact ⟨rfl, rfl, trivial⟩ | (refine ⟨by decide, ?_⟩; (conv => whnf); exact ⟨rfl, rfl, trivial⟩)
    (conv => whnf)
    apply Exists.intro
    apply And.intro
    · (conv => whnf)
      first | exact ⟨rfl, rfl, trivial⟩ | (refine ⟨by decide, ?_⟩; (conv => whnf); exact ⟨rfl, rfl, trivial⟩)
    (conv => whnf)
    apply Exists.intro
    apply And.intro
    · (conv => whnf)
      ((conv in (_[_]?) => tactic => exact (z.look4 7 H1)); (conv => whnf))
      exact ⟨rfl, rfl, trivial⟩
    (conv => whnf)
    (apply Exists.intro; apply And.intro; (focus ((conv => whnf); first | exact ⟨rfl, rfl, trivial⟩ | (refine ⟨by omega, ?_⟩; (conv => whnf); exact ⟨rfl, rfl, trivial⟩))); (conv => whnf))
    refine ⟨.elem [byteC k7], ⟨⟨by decide, by decide⟩, [byteC k7], at1' (k := 7) (by rw [hkk]; rfl), rfl, rfl, trivial⟩, ?_⟩
    (conv => whnf)
    (apply Exists.intro; apply And.intro; (focus ((conv => whnf); first | exact ⟨rfl, rfl, trivial⟩ | (refine ⟨by omega, ?_⟩; (conv => whnf); exact ⟨rfl, rfl, trivial⟩))); (conv => whnf))
    (apply Exists.intro; apply And.intro; (focus ((conv => whnf); first | exact ⟨rfl, rfl, trivial⟩ | (refine ⟨by omega, ?_⟩; (conv => whnf); exact ⟨rfl, rfl, trivial⟩))); (conv => whnf))
    (apply Exists.intro; apply And.intro; (focus ((conv => whnf); first | exact ⟨rfl, rfl, trivial⟩ | (refine ⟨by omega, ?_⟩; (conv => whnf); exact ⟨rfl, rfl, trivial⟩))); (conv => whnf))
    apply Exists.intro
    apply And.intro
    · (conv => whnf)
      first | exact ⟨rfl, rfl, trivial⟩ | (refine ⟨by decide, ?_⟩; (conv => whnf); exact ⟨rfl, rfl, trivial⟩)
    (conv => whnf)
    (apply Exists.intro; apply And.intro; (focus ((conv => whnf); first | exact ⟨rfl, rfl, trivial⟩ | (refine ⟨by omega, ?_⟩; (conv => whnf); exact ⟨rfl, rfl, trivial⟩))); (conv => whnf))
    (apply Exists.intro; apply And.intro; (focus ((conv => whnf); first | exact ⟨rfl, rfl, trivial⟩ | (refine ⟨by omega, ?_⟩; (conv => whnf); exact ⟨rfl, rfl, trivial⟩))); (conv => whnf))
    apply Exists.intro
    apply And.intro
    · (conv => whnf)
      first | exact ⟨rfl, rfl, trivial⟩ | (refine ⟨by decide, ?_⟩; (conv => whnf); exact ⟨rfl, rfl, trivial⟩)
    (conv => whnf)
    (apply Exists.intro; apply And.intro; (focus ((conv => whnf); first | exact ⟨rfl, rfl, trivial⟩ | (refine ⟨by omega, ?_⟩; (conv => whnf); exact ⟨rfl, rfl, trivial⟩))); (conv => whnf))
    apply Exists.intro
    apply And.intro
    · (conv => whnf)
      first | exact ⟨rfl, rfl, trivial⟩ | (refine ⟨by decide, ?_⟩; (conv => whnf); exact ⟨rfl, rfl, trivial⟩)
    (conv => whnf)
    apply Exists.intro
    apply And.intro
    · (conv => whnf)
      ((conv in (_[_]?) => tactic => exact (z.look4 7 H1)); (conv => whnf))
      exact ⟨rfl, set_last H1 _ _, trivial⟩
    (conv => whnf)
    refine ⟨8, by decide, ⟨rfl, rfl, rfl, rfl, trivial⟩, ?_, by decide⟩
    subst hz hkk
    rfl
  | 8, _ =>
    (conv => whnf)
    refine ⟨fun _ => ?_, fun h => absurd (show ((8 : Nat) : Int) < 16 by decide) h⟩
    (conv => whnf)
    generalize hz : wN kk 8 = z
    refine drawK_of2 D145_5 [H1 ++ [z.O4 8], H1 ++ [S4.O4 { z with c := orB z.c k8 0 } 9]] (by kernel_rfl) rfl trivial ?_
    (conv => whnf)
    (apply Exists.intro; apply And.intro; (focus ((conv => whnf); first | exact ⟨rfl, rfl, trivial⟩ | (refine ⟨by omega, ?_⟩; (conv => whnf); exact ⟨rfl, rfl, trivial⟩))); (conv => whnf))
    apply Exists.intro
    apply And.intro
    · (conv => whnf)
      first | exact ⟨rfl, rfl, trivial⟩ | (refine ⟨by decide, ?_⟩; (conv => whnf); exact ⟨rfl, rfl, trivial⟩)
    (conv => whnf)
    (apply Exists.intro; apply And.intro; (focus ((conv => whnf); first | exact ⟨rfl, rfl, trivial⟩ | (refine ⟨by omega, ?_⟩; (conv => whnf); exact ⟨rfl, rfl, trivial⟩))); (conv => whnf))
    apply Exists.intro
    apply And.intro
    · (conv => whnf)
      first | exact ⟨rfl, rfl, trivial⟩ | (refine ⟨by decide, ?_⟩; (conv => whnf); exact ⟨rfl, rfl, trivial⟩)
    (conv => whnf)
    apply Exists.intro
    apply And.intro
    · (conv => whnf)
      first | exact ⟨rfl, rfl, trivial⟩ | (refine ⟨by decide, ?_⟩; (conv => whnf); exact ⟨rfl, rfl, trivial⟩)
    (conv => whnf)
    apply Exists.intro
    apply And.intro
    · (conv => whnf)
      ((conv in (_[_]?) => tactic => exact (z.look4 8 H1)); (conv => whnf))
      exact ⟨rfl, rfl, trivial⟩
    (conv => whnf)
    (apply Exists.intro; apply And.intro; (focus ((conv => whnf); first | exact ⟨rfl, rfl, trivial⟩ | (refine ⟨by omega, ?_⟩; (conv => whnf); exact ⟨rfl, rfl, trivial⟩))); (conv => whnf))
    refine ⟨.elem [byteC k8], ⟨⟨by decide, by decide⟩, [byteC k8], at1' (k := 8) (by rw [hkk]; rfl), rfl, rfl, trivial⟩, ?_⟩
    (conv => whnf)
    (apply Exists.intro; apply And.intro; (focus ((conv => whnf); first | exact ⟨rfl, rfl, trivial⟩ | (refine ⟨by omega, ?_⟩; (conv => whnf); exact ⟨rfl, rfl, trivial⟩))); (conv => whnf))
    (apply Exists.intro; apply And.intro; (focus ((conv => whnf); first | exact ⟨rfl, rfl, trivial⟩ | (refine ⟨by omega, ?_⟩; (conv => whnf); exact ⟨rfl, rfl, trivial⟩))); (conv => whnf))
    (apply Exists.intro; apply And.intro; (focus ((conv => whnf); first | exact ⟨rfl, rfl, trivial⟩ | (refine ⟨by omega, ?_⟩; (conv => whnf); exact ⟨rfl, rfl, trivial⟩))); (conv => whnf))
    apply Exists.intro
    apply And.intro
    · (conv => whnf)
      first | exact ⟨rfl, rfl, trivial⟩ | (refine ⟨by decide, ?_⟩; (conv => whnf); exact ⟨rfl, rfl, trivial⟩)
    (conv => whnf)
    (apply Exists.intro; apply And.intro; (focus ((conv => whnf); first | exact ⟨rfl, rfl, trivial⟩ | (refine ⟨by omega, ?_⟩; (conv => whnf); exact ⟨rfl, rfl, trivial⟩))); (conv => whnf))
    (apply Exists.intro; apply And.intro; (focus ((conv => whnf); first | exact ⟨rfl, rfl, trivial⟩ | (refine ⟨by omega, ?_⟩; (conv => whnf); exact ⟨rfl, rfl, trivial⟩))); (conv => whnf))
    apply Exists.intro
    apply And.intro
    · (conv => whnf)
      first | exact ⟨rfl, rfl, trivial⟩ | (refine ⟨by decide, ?_⟩; (conv => whnf); exact ⟨rfl, rfl, trivial⟩)
    (conv => whnf)
    (apply Exists.intro; apply And.intro; (focus ((conv => whnf); first | exact ⟨rfl, rfl, trivial⟩ | (refine ⟨by omega, ?_⟩; (conv => whnf); exact ⟨rfl, rfl, trivial⟩))); (conv => whnf))
    apply Exists.intro
    apply And.intro
    · (conv => whnf)
      first | exact ⟨rfl, rfl, trivial⟩ | (refine ⟨by decide, ?_⟩; (conv => whnf); exact ⟨rfl, rfl, trivial⟩)
    (conv => whnf)
    apply Exists.intro
    apply And.intro
    · (conv => whnf)
      ((conv in (_[_]?) => tactic => exact (z.look4 8 H1)); (conv => whnf))
      exact ⟨rfl, set_last H1 _ _, trivial⟩
    (conv => whnf)
    refine ⟨9, by decide, ⟨rfl, rfl, rfl, rfl, trivial⟩, ?_, by decide⟩
    subst hz hkk
    rfl
  | 9, _ =>
    (conv => whnf)
    refine ⟨fun _ => ?_, fun h => absurd (show ((9 : Nat) : Int) < 16 by decide) h⟩
    (conv => whnf)
    generalize hz : wN kk 9 = z
    refine drawK_of2 D145_5 [H1 ++ [z.O4 9], H1 ++ [S4.O4 { z with c := orB z.c k9 8 } 10]] (by kernel_rfl) rfl trivial ?_
    (conv => whnf)
    (apply Exists.intro; apply And.intro; (focus ((conv => whnf); first | exact ⟨rfl, rfl, trivial⟩ | (refine ⟨by omega, ?_⟩; (conv => whnf); exact ⟨rfl, rfl, trivial⟩))); (conv => whnf))
    apply Exists.intro
    apply And.intro
    · (conv => whnf)
      first | exact ⟨rfl, rfl, trivial⟩ | (refine ⟨by decide, ?_⟩; (conv => whnf); exact ⟨rfl, rfl, trivial⟩)
    (conv => whnf)
    (apply Exists.intro; apply And.intro; (focus ((conv => whnf); first | exact ⟨rfl, rfl, trivial⟩ | (refine ⟨by omega, ?_⟩; (conv => whnf); exact ⟨rfl, rfl, trivial⟩))); (conv => whnf))
    apply Exists.intro
    apply And.intro
    · (conv => whnf)
      first | exact ⟨rfl, rfl, trivial⟩ | (refine ⟨by decide, ?_⟩; (conv => whnf); exact ⟨rfl, rfl, trivial⟩)
    (conv => whnf)
    apply Exists.intro
    apply And.intro
    · (conv => whnf)
      first | exact ⟨rfl, rfl, trivial⟩ | (refine ⟨by decide, ?_⟩; (conv => whnf); exact ⟨rfl, rfl, trivial⟩)
    (conv => whnf)
    apply Exists.intro
    apply And.intro
    · (conv => whnf)
      ((conv in (_[_]?) => tactic => exact (z.look4 9 H1)); (conv => whnf))
      exact ⟨rfl, rfl, trivial⟩
    (conv => whnf)
    (apply Exists.intro; apply And.intro; (focus ((conv => whnf); first | exact ⟨rfl, rfl, trivial⟩ | (refine ⟨by omega, ?_⟩; (conv => whnf); exact ⟨rfl, rfl, trivial⟩))); (conv => whnf))
    refine ⟨.elem [byteC k9], ⟨⟨by decide, by decide⟩, [byteC k9], at1' (k := 9) (by rw [hkk]; rfl), rfl, rfl, trivial⟩, ?_⟩
    (conv => whnf)
    (apply Exists.intro; apply And.intro; (focus ((conv => whnf); first | exact ⟨rfl, rfl, trivial⟩ | (refine ⟨by omega, ?_⟩; (conv => whnf); exact ⟨rfl, rfl, trivial⟩))); (conv => whnf))
    (apply Exists.intro; apply And.intro; (focus ((conv => whnf); first | exact ⟨rfl, rfl, trivial⟩ | (refine ⟨by omega, ?_⟩; (conv => whnf); exact ⟨rfl, rfl, trivial⟩))); (conv => whnf))
    (apply Exists.intro; apply And.intro; (focus ((conv => whnf); first | exact ⟨rfl, rfl, trivial⟩ | (refine ⟨by omega, ?_⟩; (conv => whnf); exact ⟨rfl, rfl, trivial⟩))); (conv => whnf))
    apply Exists.intro
    apply And.intro
    · (conv => whnf)
      first | exact ⟨rfl, rfl, trivial⟩ | (refine ⟨by decide, ?_⟩; (conv => whnf); exact ⟨rfl, rfl, trivial⟩)
    (conv => whnf)
    (apply Exists.intro; apply And.intro; (focus ((conv => whnf); first | exact ⟨rfl, rfl, trivial⟩ | (refine ⟨by omega, ?_⟩; (conv => whnf); exact ⟨rfl, rfl, trivial⟩))); (conv => whnf))
    (apply Exists.intro; apply And.intro; (focus ((conv => whnf); first | exact ⟨rfl, rfl, trivial⟩ | (refine ⟨by omega, ?_⟩; (conv => whnf); exact ⟨rfl, rfl, trivial⟩))); (conv => whnf))
    apply Exists.intro
    apply And.intro
    · (conv => whnf)
      first | exact ⟨rfl, rfl, trivial⟩ | (refine ⟨by decide, ?_⟩; (conv => whnf); exact ⟨rfl, rfl, trivial⟩)
    (conv => whnf)
    (apply Exists.intro; apply And.intro; (focus ((conv => whnf); first | exact ⟨rfl, rfl, trivial⟩ | (refine ⟨by omega, ?_⟩; (conv => whnf); exact ⟨rfl, rfl, trivial⟩))); (conv => whnf))
    apply Exists.intro
    apply And.intro
    · (conv => whnf)
      first | exact ⟨rfl, rfl, trivial⟩ | (refine ⟨by decide, ?_⟩; (conv => whnf); exact ⟨rfl, rfl, trivial⟩)
    (conv => whnf)
    apply Exists.intro
    apply And.intro
    · (conv => whnf)
      ((conv in (_[_]?) => tactic => exact (z.look4 9 H1)); (conv => whnf))
      exact ⟨rfl, set_last H1 _ _, trivial⟩
    (conv => whnf)
    refine ⟨10, by decide, ⟨rfl, rfl, rfl, rfl, trivial⟩, ?_, by decide⟩
    subst hz hkk
    rfl
  | 10, _ =>
    (conv => whnf)
    refine ⟨fun _ => ?_, fun h => absurd (show ((10 : Nat) : Int) < 16 by decide) h⟩
    (conv => whnf)
    generalize hz : wN kk 10 = z
    refine drawK_of2 D145_5 [H1 ++ [z.O4 10], H1 ++ [S4.O4 { z with c := orB z.c ka 16 } 11]] (by kernel_rfl) rfl trivial ?_
    (conv => whnf)
    (apply Exists.intro; apply And.intro; (focus ((conv => whnf); first | exact ⟨rfl, rfl, trivial⟩ | (refine ⟨by omega, ?_⟩; (conv => whnf); exact ⟨rfl, rfl, trivial⟩))); (conv => whnf))
    apply Exists.intro
    apply And.intro
    · (conv => whnf)
      first | exact ⟨rfl, rfl, trivial⟩ | (refine ⟨by decide, ?_⟩; (conv => whnf); exact ⟨rfl, rfl, trivial⟩)
    (conv => whnf)
    (apply Exists.intro; apply And.intro; (focus ((conv => whnf); first | exact ⟨rfl, rfl, trivial⟩ | (refine ⟨by omega, ?_⟩; (conv => whnf); exact ⟨rfl, rfl, trivial⟩))); (conv => whnf))
    apply Exists.intro
    apply And.intro
    · (conv => whnf)
      first | exact ⟨rfl, rfl, trivial⟩ | (refine ⟨by decide, ?_⟩; (conv => whnf); exact ⟨rfl, rfl, trivial⟩)
    (conv => whnf)
    apply Exists.intro
    apply And.intro
    · (conv => whnf)
      first | exact ⟨rfl, rfl, trivial⟩ | (refine ⟨by decide, ?_⟩; (conv => whnf); exact ⟨rfl, rfl, trivial⟩)
    (conv => whnf)
    apply Exists.intro
    apply And.intro
    · (conv => whnf)
      ((conv in (_[_]?) => tactic => exact (z.look4 10 H1)); (conv => whnf))
      exact ⟨rfl, rfl, trivial⟩
    (conv => whnf)
    (apply Exists.intro; apply And.intro; (focus ((conv => whnf); first | exact ⟨rfl, rfl, trivial⟩ | (refine ⟨by omega, ?_⟩; (conv => whnf); exact ⟨rfl, rfl, trivial⟩))); (conv => whnf))
    refine ⟨.elem [byteC ka], ⟨⟨by decide, by decide⟩, [byteC ka], at1' (k := 10) (by rw [hkk]; rfl), rfl, rfl, trivial⟩, ?_⟩
    (conv => whnf)
    (apply Exists.intro; apply And.intro; (focus ((conv => whnf); first | exact ⟨rfl, rfl, trivial⟩ | (refine ⟨by omega, ?_⟩; (conv => whnf); exact ⟨rfl, rfl, trivial⟩))); (conv => whnf))
    (apply Exists.intro; apply And.intro; (focus ((conv => whnf); first | exact ⟨rfl, rfl, trivial⟩ | (refine ⟨by omega, ?_⟩; (conv => whnf); exact ⟨rfl, rfl, trivial⟩))); (conv => whnf))
    (apply Exists.intro; apply And.intro; (focus ((conv => whnf); first | exact ⟨rfl, rfl, trivial⟩ | (refine ⟨by omega, ?_⟩; (conv => whnf); exact ⟨rfl, rfl, trivial⟩))); (conv => whnf))
    apply Exists.intro
    apply And.intro
    · (conv => whnf)
      first | exact ⟨rfl, rfl, trivial⟩ | (refine ⟨by decide, ?_⟩; (conv => whnf); exact ⟨rfl, rfl, trivial⟩)
    (conv => whnf)
    (apply Exists.intro; apply And.intro; (focus ((conv => whnf); first | exact ⟨rfl, rfl, trivial⟩ | (refine ⟨by omega, ?_⟩; (conv => whnf); exact ⟨rfl, rfl, trivial⟩))); (conv => whnf))
    (apply Exists.intro; apply And.intro; (focus ((conv => whnf); first | exact ⟨rfl, rfl, trivial⟩ | (refine ⟨by omega, ?_⟩; (conv => whnf); exact ⟨rfl, rfl, trivial⟩))); (conv => whnf))
    apply Exists.intro
    apply And.intro
    · (conv => whnf)
      first | exact ⟨rfl, rfl, trivial⟩ | (refine ⟨by decide, ?_⟩; (conv => whnf); exact ⟨rfl, rfl, trivial⟩)
    (conv => whnf)
    (apply Exists.intro; apply And.intro; (focus ((conv => whnf); first | exact ⟨rfl, rfl, trivial⟩ | (refine ⟨by omega, ?_⟩; (conv => whnf); exact ⟨rfl, rfl, trivial⟩))); (conv => whnf))
    apply Exists.intro
    apply And.intro
    · (conv => whnf)
      first | exact ⟨rfl, rfl, trivial⟩ | (refine ⟨by decide, ?_⟩; (conv => whnf); exact ⟨rfl, rfl, trivial⟩)
    (conv => whnf)
    apply Exists.intro
    apply And.intro
    · (conv => whnf)
      ((conv in (_[_]?) => tactic => exact (z.look4 10 H1)); (conv => whnf))
      exact ⟨rfl, set_last H1 _ _, trivial⟩
    (conv => whnf)
    refine ⟨11, by decide, ⟨rfl, rfl, rfl, rfl, trivial⟩, ?_, by decide⟩
    subst hz hkk
    rfl
  | 11, _ =>
    (conv => whnf)
    refine ⟨fun _ => ?_, fun h => absurd (show ((11 : Nat) : Int) < 16 by decide) h⟩
    (conv => whnf)
    generalize hz : wN kk 11 = z
    refine drawK_of2 D145_5 [H1 ++ [z.O4 11], H1 ++ [S4.O4 { z with c := orB z.c kb 24 } 12]] (by kernel_rfl) rfl trivial ?_
    (conv => whnf)
    (apply Exists.intro; apply And.intro; (focus ((conv => whnf); first | exact ⟨rfl, rfl, trivial⟩ | (refine ⟨by omega, ?_⟩; (conv => whnf); exact ⟨rfl, rfl, trivial⟩))); (conv => whnf))
    apply Exists.intro
    apply And.intro
    · (conv => whnf)
      first | exact ⟨rfl, rfl, trivial⟩ | (refine ⟨by decide, ?_⟩; (conv => whnf); exact ⟨rfl, rfl, trivial⟩)
    (conv => whnf)
    (apply Exists.intro; apply And.intro; (focus ((conv => whnf); first | exact ⟨rfl, rfl, trivial⟩ | (refine ⟨by omega, ?_⟩; (conv => whnf); exact ⟨rfl, rfl, trivial⟩))); (conv => whnf))
    apply Exists.intro
    apply And.intro
    · (conv => whnf)
      first | exact ⟨rfl, rfl, trivial⟩ | (refine ⟨by decide, ?_⟩; (conv => whnf); exact ⟨rfl, rfl, trivial⟩)
    (conv => whnf)
    apply Exists.intro
    apply And.intro
    · (conv => whnf)
      first | exact ⟨rfl, rfl, trivial⟩ | (refine ⟨by decide, ?_⟩; (conv => whnf); exact ⟨rfl, rfl, trivial⟩)
    (conv => whnf)
    apply Exists.intro
    apply And.intro
    · (conv => whnf)
      ((conv in (_[_]?) => tactic => exact (z.look4 11 H1)); (conv => whnf))
      exact ⟨rfl, rfl, trivial⟩
    (conv => whnf)
    (apply Exists.intro; apply And.intro; (focus ((conv => whnf); first | exact ⟨rfl, rfl, trivial⟩ | (refine ⟨by omega, ?_⟩; (conv => whnf); exact ⟨rfl, rfl, trivial⟩))); (conv => whnf))
    refine ⟨.elem [byteC kb], ⟨⟨by decide, by decide⟩, [byteC kb], at1' (k := 11) (by rw [hkk]; rfl), rfl, rfl, trivial⟩, ?_⟩
    (conv => whnf)
    (apply Exists.intro; apply And.intro; (focus ((conv => whnf); first | exact ⟨rfl, rfl, trivial⟩ | (refine ⟨by omega, ?_⟩; (conv => whnf); exact ⟨rfl, rfl, trivial⟩))); (conv => whnf))
    (apply Exists.intro; apply And.intro; (focus ((conv => whnf); first | exact ⟨rfl, rfl, trivial⟩ | (refine ⟨by omega, ?_⟩; (conv => whnf); exact ⟨rfl, rfl, trivial⟩))); (conv => whnf))
    (apply Exists.intro; apply And.intro; (focus ((conv => whnf); first | exact ⟨rfl, rfl, trivial⟩ | (refine ⟨by omega, ?_⟩; (conv => whnf); exact ⟨rfl, rfl, trivial⟩))); (conv => whnf))
    apply Exists.intro
    apply And.intro
    · (conv => whnf)
      first | exact ⟨rfl, rfl, trivial⟩ | (refine ⟨by decide, ?_⟩; (conv => whnf); exact ⟨rfl, rfl, trivial⟩)
    (conv => whnf)
    (apply Exists.intro; apply And.intro; (focus ((conv => whnf); first | exact ⟨rfl, rfl, trivial⟩ | (refine ⟨by omega, ?_⟩; (conv => whnf); exact ⟨rfl, rfl, trivial⟩))); (conv => whnf))
    (apply Exists.intro; apply And.intro; (focus ((conv => whnf); first | exact ⟨rfl, rfl, trivial⟩ | (refine ⟨by omega, ?_⟩; (conv => whnf); exact ⟨rfl, rfl, trivial⟩))); (conv => whnf))
    apply Exists.intro
    apply And.intro
    · (conv => whnf)
      first | exact ⟨rfl, rfl, trivial⟩ | (refine ⟨by decide, ?_⟩; (conv => whnf); exact ⟨rfl, rfl, trivial⟩)
    (conv => whnf)
    (apply Exists.intro; apply And.intro; (focus ((conv => whnf); first | exact ⟨rfl, rfl, trivial⟩ | (refine ⟨by omega, ?_⟩; (conv => whnf); exact ⟨rfl, rfl, trivial⟩))); (conv => whnf))
    apply Exists.intro
    apply And.intro
    · (conv => whnf)
      first | exact ⟨rfl, rfl, trivial⟩ | (refine ⟨by decide, ?_⟩; (conv => whnf); exact ⟨rfl, rfl, trivial⟩)
    (conv => whnf)
    apply Exists.intro
    apply And.intro
    · (conv => whnf)
      ((conv in (_[_]?) => tactic => exact (z.look4 11 H1)); (conv => whnf))
      exact ⟨rfl, set_last H1 _ _, trivial⟩
    (conv => whnf)
    refine ⟨12, by decide, ⟨rfl, rfl, rfl, rfl, trivial⟩, ?_, by decide⟩
    subst hz hkk
    rfl
  | 12, _ =>
    (conv => whnf)
    refine ⟨fun _ => ?_, fun h => absurd (show ((12 : Nat) : Int) < 16 by decide) h⟩
    (conv => whnf)
    generalize hz : wN kk 12 = z
    refine drawK_of2 D145_5 [H1 ++ [z.O4 12], H1 ++ [S4.O4 { z with d := orB z.d kc 0 } 13]] (by kernel_rfl) rfl trivial ?_
    (conv => whnf)
    (apply Exists.intro; apply And.intro; (focus ((conv => whnf); first | exact ⟨rfl, rfl, trivial⟩ | (refine ⟨by omega, ?_⟩; (conv => whnf); exact ⟨rfl, rfl, trivial⟩))); (conv => whnf))
    apply Exists.intro
    apply And.intro
    · (conv => whnf)
      first | exact ⟨rfl, rfl, trivial⟩ | (refine ⟨by decide, ?_⟩; (conv => whnf); exact ⟨rfl, rfl, trivial⟩)
    (conv => whnf)
    (apply Exists.intro; apply And.intro; (focus ((conv => whnf); first | exact ⟨rfl, rfl, trivial⟩ | (refine ⟨by omega, ?_⟩; (conv => whnf); exact ⟨rfl, rfl, trivial⟩))); (conv => whnf))
    apply Exists.intro
    apply And.intro
    · (conv => whnf)
      first | exact ⟨rfl, rfl, trivial⟩ | (refine ⟨by decide, ?_⟩; (conv => whnf); exact ⟨rfl, rfl, trivial⟩)
    (conv => whnf)
    apply Exists.intro
    apply And.intro
    · (conv => whnf)
      first | exact ⟨rfl, rfl, trivial⟩ | (refine ⟨by decide, ?_⟩; (conv => whnf); exact ⟨rfl, rfl, trivial⟩)
    (conv => whnf)
    apply Exists.intro
    apply And.intro
    · (conv => whnf)
      ((conv in (_[_]?) => tactic => exact (z.look4 12 H1)); (conv => whnf))
      exact ⟨rfl, rfl, trivial⟩
    (conv => whnf)
    (apply Exists.intro; apply And.intro; (focus ((conv => whnf); first | exact ⟨rfl, rfl, trivial⟩ | (refine ⟨by omega, ?_⟩; (conv => whnf); exact ⟨rfl, rfl, trivial⟩))); (conv => whnf))
    refine ⟨.elem [byteC kc], ⟨⟨by decide, by decide⟩, [byteC kc], at1' (k := 12) (by rw [hkk]; rfl), rfl, rfl, trivial⟩, ?_⟩
    (conv => whnf)
    (apply Exists.intro; apply And.intro; (focus ((conv => whnf); first | exact ⟨rfl, rfl, trivial⟩ | (refine ⟨by omega, ?_⟩; (conv => whnf); exact ⟨rfl, rfl, trivial⟩))); (conv => whnf))
    (apply Exists.intro; apply And.intro; (focus ((conv => whnf); first | exact ⟨rfl, rfl, trivial⟩ | (refine ⟨by omega, ?_⟩; (conv => whnf); exact ⟨rfl, rfl, trivial⟩))); (conv => whnf))
    (apply Exists.intro; apply And.intro; (focus ((conv => whnf); first | exact ⟨rfl, rfl, trivial⟩ | (refine ⟨by omega, ?_⟩; (conv => whnf); exact ⟨rfl, rfl, trivial⟩))); (conv => whnf))
    apply Exists.intro
    apply And.intro
    · (conv => whnf)
      first | exact ⟨rfl, rfl, trivial⟩ | (refine ⟨by decide, ?_⟩; (conv => whnf); exact ⟨rfl, rfl, trivial⟩)
    (conv => whnf)
    (apply Exists.intro; apply And.intro; (focus ((conv => whnf); first | exact ⟨rfl, rfl, trivial⟩ | (refine ⟨by omega, ?_⟩; (conv => whnf); exact ⟨rfl, rfl, trivial⟩))); (conv => whnf))
    (apply Exists.intro; apply And.intro; (focus ((conv => whnf); first | exact ⟨rfl, rfl, trivial⟩ | (refine ⟨by omega, ?_⟩; (conv => whnf); exact ⟨rfl, rfl, trivial⟩))); (conv => whnf))
    apply Exists.intro
    apply And.intro
    · (conv => whnf)
      first | exact ⟨rfl, rfl, trivial⟩ | (refine ⟨by decide, ?_⟩; (conv => whnf); exact ⟨rfl, rfl, trivial⟩)
    (conv => whnf)
    (apply Exists.intro; apply And.intro; (focus ((conv => whnf); first | exact ⟨rfl, rfl, trivial⟩ | (refine ⟨by omega, ?_⟩; (conv => whnf); exact ⟨rfl, rfl, trivial⟩))); (conv => whnf))
    apply Exists.intro
    apply And.intro
    · (conv => whnf)
      first | exact ⟨rfl, rfl, trivial⟩ | (refine ⟨by decide, ?_⟩; (conv => whnf); exact ⟨rfl, rfl, trivial⟩)
    (conv => whnf)
    apply Exists.intro
    apply And.intro
    · (conv => whnf)
      ((conv in (_[_]?) => tactic => exact (z.look4 12 H1)); (conv => whnf))
      exact ⟨rfl, set_last H1 _ _, trivial⟩
    (conv => whnf)
    refine ⟨13, by decide, ⟨rfl, rfl, rfl, rfl, trivial⟩, ?_, by decide⟩
    subst hz hkk
    rfl
  | 13, _ =>
    (conv => whnf)
    refine ⟨fun _ => ?_, fun h => absurd (show ((13 : Nat) : Int) < 16 by decide) h⟩
    (conv => whnf)
    generalize hz : wN kk 13 = z
    refine drawK_of2 D145_5 [H1 ++ [z.O4 13], H1 ++ [S4.O4 { z with d := orB z.d kd 8 } 14]] (by kernel_rfl) rfl trivial ?_
    (conv => whnf)
    (apply Exists.intro; apply And.intro; (focus ((conv => whnf); first | exact ⟨rfl, rfl, trivial⟩ | (refine ⟨by omega, ?_⟩; (conv => whnf); exact ⟨rfl, rfl, trivial⟩))); (conv => whnf))
    apply Exists.intro
    apply And.intro
    · (conv => whnf)
      first | exact ⟨rfl, rfl, trivial⟩ | (refine ⟨by decide, ?_⟩; (conv => whnf); exact ⟨rfl, rfl, trivial⟩)
    (conv => whnf)
    (apply Exists.intro; apply And.intro; (focus ((conv => whnf); first | exact ⟨rfl, rfl, trivial⟩ | (refine ⟨by omega, ?_⟩; (conv => whnf); exact ⟨rfl, rfl, trivial⟩))); (conv => whnf))
    apply Exists.intro
    apply And.intro
    · (conv => whnf)
      first | exact ⟨rfl, rfl, trivial⟩ | (refine ⟨by decide, ?_⟩; (conv => whnf); exact ⟨rfl, rfl, trivial⟩)
    (conv => whnf)
    apply Exists.intro
    apply And.intro
    · (conv => whnf)
      first | exact ⟨rfl, rfl, trivial⟩ | (refine ⟨by decide, ?_⟩; (conv => whnf); exact ⟨rfl, rfl, trivial⟩)
    (conv => whnf)
    apply Exists.intro
    apply And.intro
    · (conv => whnf)
      ((conv in (_[_]?) => tactic => exact (z.look4 13 H1)); (conv => whnf))
      exact ⟨rfl, rfl, trivial⟩
    (conv => whnf)
    (apply Exists.intro; apply And.intro; (focus ((conv => whnf); first | exact ⟨rfl, rfl, trivial⟩ | (refine ⟨by omega, ?_⟩; (conv => whnf); exact ⟨rfl, rfl, trivial⟩))); (conv => whnf))
    refine ⟨.elem [byteC kd], ⟨⟨by decide, by decide⟩, [byteC kd], at1' (k := 13) (by rw [hkk]; rfl), rfl, rfl, trivial⟩, ?_⟩
    (conv => whnf)
    (apply Exists.intro; apply And.intro; (focus ((conv => whnf); first | exact ⟨rfl, rfl, trivial⟩ | (refine ⟨by omega, ?_⟩; (conv => whnf); exact ⟨rfl, rfl, trivial⟩))); (conv => whnf))
    (apply Exists.intro; apply And.intro; (focus ((conv => whnf); first | exact ⟨rfl, rfl, trivial⟩ | (refine ⟨by omega, ?_⟩; (conv => whnf); exact ⟨rfl, rfl, trivial⟩))); (conv => whnf))
    (apply Exists.intro; apply And.intro; (focus ((conv => whnf); first | exact ⟨rfl, rfl, trivial⟩ | (refine ⟨by omega, ?_⟩; (conv => whnf); exact ⟨rfl, rfl, trivial⟩))); (conv => whnf))
    apply Exists.intro
    apply And.intro
    · (conv => whnf)
      first | exact ⟨rfl, rfl, trivial⟩ | (refine ⟨by decide, ?_⟩; (conv => whnf); exact ⟨rfl, rfl, trivial⟩)
    (conv => whnf)
    (apply Exists.intro; apply And.intro; (focus ((conv => whnf); first | exact ⟨rfl, rfl, trivial⟩ | (refine ⟨by omega, ?_⟩; (conv => whnf); exact ⟨rfl, rfl, trivial⟩))); (conv => whnf))
    (apply Exists.intro; apply And.intro; (focus ((conv => whnf); first | exact ⟨rfl, rfl, trivial⟩ | (refine ⟨by omega, ?_⟩; (conv => whnf); exact ⟨rfl, rfl, trivial⟩))); (conv => whnf))
    apply Exists.intro
    apply And.intro
    · (conv => whnf)
      first | exact ⟨rfl, rfl, trivial⟩ | (refine ⟨by decide, ?_⟩; (conv => whnf); exact ⟨rfl, rfl, trivial⟩)
    (conv => whnf)
    (apply Exists.intro; apply And.intro; (focus ((conv => whnf); first | exact ⟨rfl, rfl, trivial⟩ | (refine ⟨by omega, ?_⟩; (conv => whnf); exact ⟨rfl, rfl, trivial⟩))); (conv => whnf))
    apply Exists.intro
    apply And.intro
    · (conv => whnf)
      first | exact ⟨rfl, rfl, trivial⟩ | (refine ⟨by decide, ?_⟩; (conv => whnf); exact ⟨rfl, rfl, trivial⟩)
    (conv => whnf)
    apply Exists.intro
    apply And.intro
    · (conv => whnf)
      ((conv in (_[_]?) => tactic => exact (z.look4 13 H1)); (conv => whnf))
      exact ⟨rfl, set_last H1 _ _, trivial⟩
    (conv => whnf)
    refine ⟨14, by decide, ⟨rfl, rfl, rfl, rfl, trivial⟩, ?_, by decide⟩
    subst hz hkk
    rfl
  | 14, _ =>
    (conv => whnf)
    refine ⟨fun _ => ?_, fun h => absurd (show ((14 : Nat) : Int) < 16 by decide) h⟩
    (conv => whnf)
    generalize hz : wN kk 14 = z
    refine drawK_of2 D145_5 [H1 ++ [z.O4 14], H1 ++ [S4.O4 { z with d := orB z.d ke 16 } 15]] (by kernel_rfl) rfl trivial ?_
    (conv => whnf)
    (apply Exists.intro; apply And.intro; (focus ((conv => whnf); first | exact ⟨rfl, rfl, trivial⟩ | (refine ⟨by omega, ?_⟩; (conv => whnf); exact ⟨rfl, rfl, trivial⟩))); (conv => whnf))
    apply Exists.intro
    apply And.intro
    · (conv => whnf)
      first | exact ⟨rfl, rfl, trivial⟩ | (refine ⟨by decide, ?_⟩; (conv => whnf); exact ⟨rfl, rfl, trivial⟩)
    (conv => whnf)
    (apply Exists.intro; apply And.intro; (focus ((conv => whnf); first | exact ⟨rfl, rfl, trivial⟩ | (refine ⟨by omega, ?_⟩; (conv => whnf); exact ⟨rfl, rfl, trivial⟩))); (conv => whnf))
    apply Exists.intro
    apply And.intro
    · (conv => whnf)
      first | exact ⟨rfl, rfl, trivial⟩ | (refine ⟨by decide, ?_⟩; (conv => whnf); exact ⟨rfl, rfl, trivial⟩)
    (conv => whnf)
    apply Exists.intro
    apply And.intro
    · (conv => whnf)
      first | exact ⟨rfl, rfl, trivial⟩ | (refine ⟨by decide, ?_⟩; (conv => whnf); exact ⟨rfl, rfl, trivial⟩)
    (conv => whnf)
    apply Exists.intro
    apply And.intro
    · (conv => whnf)
      ((conv in (_[_]?) => tactic => exact (z.look4 14 H1)); (conv => whnf))
      exact ⟨rfl, rfl, trivial⟩
    (conv => whnf)
    (apply Exists.intro; apply And.intro; (focus ((conv => whnf); first | exact ⟨rfl, rfl, trivial⟩ | (refine ⟨by omega, ?_⟩; (conv => whnf); exact ⟨rfl, rfl, trivial⟩))); (conv => whnf))
    refine ⟨.elem [byteC ke], ⟨⟨by decide, by decide⟩, [byteC ke], at1' (k := 14) (by rw [hkk]; rfl), rfl, rfl, trivial⟩, ?_⟩
    (conv => whnf)
    (apply Exists.intro; apply And.intro; (focus ((conv => whnf); first | exact ⟨rfl, rfl, trivial⟩ | (refine ⟨by omega, ?_⟩; (conv => whnf); exact ⟨rfl, rfl, trivial⟩))); (conv => whnf))
    (apply Exists.intro; apply And.intro; (focus ((conv => whnf); first | exact ⟨rfl, rfl, trivial⟩ | (refine ⟨by omega, ?_⟩; (conv => whnf); exact ⟨rfl, rfl, trivial⟩))); (conv => whnf))
    (apply Exists.intro; apply And.intro; (focus ((conv => whnf); first | exact ⟨rfl, rfl, trivial⟩ | (refine ⟨by omega, ?_⟩; (conv => whnf); exact ⟨rfl, rfl, trivial⟩))); (conv => whnf))
    apply Exists.intro
    apply And.intro
    · (conv => whnf)
      first | exact ⟨rfl, rfl, trivial⟩ | (refine ⟨by decide, ?_⟩; (conv => whnf); exact ⟨rfl, rfl, trivial⟩)
    (conv => whnf)
    (apply Exists.intro; apply And.intro; (focus ((conv => whnf); first | exact ⟨rfl, rfl, trivial⟩ | (refine ⟨by omega, ?_⟩; (conv => whnf); exact ⟨rfl, rfl, trivial⟩))); (conv => whnf))
    (apply Exists.intro; apply And.intro; (focus ((conv => whnf); first | exact ⟨rfl, rfl, trivial⟩ | (refine ⟨by omega, ?_⟩; (conv => whnf); exact ⟨rfl, rfl, trivial⟩))); (conv => whnf))
    apply Exists.intro
    apply And.intro
    · (conv => whnf)
      first | exact ⟨rfl, rfl, trivial⟩ | (refine ⟨by decide, ?_⟩; (conv => whnf); exact ⟨rfl, rfl, trivial⟩)
    (conv => whnf)
    (apply Exists.intro; apply And.intro; (focus ((conv => whnf); first | exact ⟨rfl, rfl, trivial⟩ | (refine ⟨by omega, ?_⟩; (conv => whnf); exact ⟨rfl, rfl, trivial⟩))); (conv => whnf))
    apply Exists.intro
    apply And.intro
    · (conv => whnf)
      first | exact ⟨rfl, rfl, trivial⟩ | (refine ⟨by decide, ?_⟩; (conv => whnf); exact ⟨rfl, rfl, trivial⟩)
    (conv => whnf)
    apply Exists.intro
    apply And.intro
    · (conv => whnf)
      ((conv in (_[_]?) => tactic => exact (z.look4 14 H1)); (conv => whnf))
      exact ⟨rfl, set_last H1 _ _, trivial⟩
    (conv => whnf)
    refine ⟨15, by decide, ⟨rfl, rfl, rfl, rfl, trivial⟩, ?_, by decide⟩
    subst hz hkk
    rfl
  | 15, _ =>
    (conv => whnf)
    refine ⟨fun _ => ?_, fun h => absurd (show ((15 : Nat) : Int) < 16 by decide) h⟩
    (conv => whnf)
    generalize hz : wN kk 15 = z
    refine drawK_of2 D145_5 [H1 ++ [z.O4 15], H1 ++ [S4.O4 { z with d := orB z.d kf 24 } 16]] (by kernel_rfl) rfl trivial ?_
    (conv => whnf)
    (apply Exists.intro; apply And.intro; (focus ((conv => whnf); first | exact ⟨rfl, rfl, trivial⟩ | (refine ⟨by omega, ?_⟩; (conv => whnf); exact ⟨rfl, rfl, trivial⟩))); (conv => whnf))
    apply Exists.intro
    apply And.intro
    · (conv => whnf)
      first | exact ⟨rfl, rfl, trivial⟩ | (refine ⟨by decide, ?_⟩; (conv => whnf); exact ⟨rfl, rfl, trivial⟩)
    (conv => whnf)
    (apply Exists.intro; apply And.intro; (focus ((conv => whnf); first | exact ⟨rfl, rfl, trivial⟩ | (refine ⟨by omega, ?_⟩; (conv => whnf); exact ⟨rfl, rfl, trivial⟩))); (conv => whnf))
    apply Exists.intro
    apply And.intro
    · (conv => whnf)
      first | exact ⟨rfl, rfl, trivial⟩ | (refine ⟨by decide, ?_⟩; (conv => whnf); exact ⟨rfl, rfl, trivial⟩)
    (conv => whnf)
    apply Exists.intro
    apply And.intro
    · (conv => whnf)
      first | exact ⟨rfl, rfl, trivial⟩ | (refine ⟨by decide, ?_⟩; (conv => whnf); exact ⟨rfl, rfl, trivial⟩)
    (conv => whnf)
    apply Exists.intro
    apply And.intro
    · (conv => whnf)
      ((conv in (_[_]?) => tactic => exact (z.look4 15 H1)); (conv => whnf))
      exact ⟨rfl, rfl, trivial⟩
    (conv => whnf)
    (apply Exists.intro; apply And.intro; (focus ((conv => whnf); first | exact ⟨rfl, rfl, trivial⟩ | (refine ⟨by omega, ?_⟩; (conv => whnf); exact ⟨rfl, rfl, trivial⟩))); (conv => whnf))
    refine ⟨.elem [byteC kf], ⟨⟨by decide, by decide⟩, [byteC kf], at1' (k := 15) (by rw [hkk]; rfl), rfl, rfl, trivial⟩, ?_⟩
    (conv => whnf)
    (apply Exists.intro; apply And.intro; (focus ((conv => whnf); first | exact ⟨rfl, rfl, trivial⟩ | (refine ⟨by omega, ?_⟩; (conv => whnf); exact ⟨rfl, rfl, trivial⟩))); (conv => whnf))
    (apply Exists.intro; apply And.intro; (focus ((conv => whnf); first | exact ⟨rfl, rfl, trivial⟩ | (refine ⟨by omega, ?_⟩; (conv => whnf); exact ⟨rfl, rfl, trivial⟩))); (conv => whnf))
    (apply Exists.intro; apply And.intro; (focus ((conv => whnf); first | exact ⟨rfl, rfl, trivial⟩ | (refine ⟨by omega, ?_⟩; (conv => whnf); exact ⟨rfl, rfl, trivial⟩))); (conv => whnf))
    apply Exists.intro
    apply And.intro
    · (conv => whnf)
      first | exact ⟨rfl, rfl, trivial⟩ | (refine ⟨by decide, ?_⟩; (conv => whnf); exact ⟨rfl, rfl, trivial⟩)
    (conv => whnf)
    (apply Exists.intro; apply And.intro; (focus ((conv => whnf); first | exact ⟨rfl, rfl, trivial⟩ | (refine ⟨by omega, ?_⟩; (conv => whnf); exact ⟨rfl, rfl, trivial⟩))); (conv => whnf))
    (apply Exists.intro; apply And.intro; (focus ((conv => whnf); first | exact ⟨rfl, rfl, trivial⟩ | (refine ⟨by omega, ?_⟩; (conv => whnf); exact ⟨rfl, rfl, trivial⟩))); (conv => whnf))
    apply Exists.intro
    apply And.intro
    · (conv => whnf)
      first | exact ⟨rfl, rfl, trivial⟩ | (refine ⟨by decide, ?_⟩; (conv => whnf); exact ⟨rfl, rfl, trivial⟩)
    (conv => whnf)
    (apply Exists.intro; apply And.intro; (focus ((conv => whnf); first | exact ⟨rfl, rfl, trivial⟩ | (refine ⟨by omega, ?_⟩; (conv => whnf); exact ⟨rfl, rfl, trivial⟩))); (conv => whnf))
    apply Exists.intro
    apply And.intro
    · (conv => whnf)
      first | exact ⟨rfl, rfl, trivial⟩ | (refine ⟨by decide, ?_⟩; (conv => whnf); exact ⟨rfl, rfl, trivial⟩)
    (conv => whnf)
    apply Exists.intro
    apply And.intro
    · (conv => whnf)
      ((conv in (_[_]?) => tactic => exact (z.look4 15 H1)); (conv => whnf))
      exact ⟨rfl, set_last H1 _ _, trivial⟩
    (conv => whnf)
    refine ⟨16, by decide, ⟨rfl, rfl, rfl, rfl, trivial⟩, ?_, by decide⟩
    subst hz hkk
    rfl
  | 16, _ =>
    (conv => whnf)
    refine ⟨fun h => absurd h (by decide), fun _ => ?_⟩
    (conv => whnf)
    have hs0 : spN kk 0 = wN kk 16 := spN_zero kk
    have hl2 : (spL2 kk 0).map u32C = [u32C (wN kk 16).b, u32C (wN kk 16).c, u32C (wN kk 16).d] := by rw [spL2_zero, List.map_cons, List.map_cons, List.map_cons, List.map_nil]
    have hl1' : (spL kk z27 (0 + 1)).map u32C = u32C (wN kk 16).a :: (z27.drop 1).map u32C := by rw [spL_one, List.map_cons]
    generalize wN kk 16 = w16 at hs0 hl2 hl1' ⊢
    obtain ⟨H2, hH2⟩ : ∃ H2 : PH, H2 = H1 ++ [w16.O4 16] := ⟨_, rfl⟩
    have hw2 : ∀ x : PObj, (H2 ++ [x])[H1.length]? = some ⟨253, [.int .u32 w16.a, .int .u32 w16.b, .int .u32 w16.c, .int .u32 w16.d], 16⟩ := fun x => by
      rw [List.getElem?_append_left (by rw [hH2]; simp), hH2]; exact get_last H1 _
    rw [← hH2]
    refine ⟨by decide, ?_⟩
    (conv => whnf)
    ((conv in (_[_]?) => tactic => exact (hw2 _)); (conv => whnf))
    refine ⟨by decide, ?_⟩
    (conv => whnf)
    ((conv in (_[_]?) => tactic => exact (hw2 _)); (conv => whnf))
    refine ⟨by decide, ?_⟩
    (conv => whnf)
    ((conv in (_[_]?) => tactic => exact (hw2 _)); (conv => whnf))
    refine ⟨by decide, ?_⟩
    (conv => whnf)
    ((conv in (_[_]?) => tactic => exact (hw2 _)); (conv => whnf))
    refine ⟨by decide, ?_⟩
    (conv => whnf)
    ((conv in (_[_]?) => tactic => exact (get_last H2 _)); (conv => whnf))
    refine loopK_of Nat (fun i => [(2, .ptr (some (H.length, 0))), (5, .ptr (some (H2.length, 0))), (6, .slice (i + 3) ((spL2 kk i).map u32C) (some 217)), (7, .int .i64 i)]) (fun i => H2 ++ [PObj.mk 218 ((spL kk z27 (i + 1)).map u32C) (i + 1)]) (fun i => i ≤ 26) (fun i => 26 - i) ⟨0, Nat.zero_le _, ⟨rfl, rfl, ?_, rfl, trivial⟩, ?_⟩ ?_
    · exact congrArg (fun z => PV.slice 3 z (some 217)) hl2.symm
    · rw [hl1']; exact set_last H2 _ _
    intro i hi
    (conv => whnf)
    refine ⟨fun h => ?_, fun h => ?_⟩
    · have h : (i : Int) < 26 := h
      have hlen1 : (spL kk z27 (i + 1)).length = 27 := spL_len kk z27 (i + 1) rfl (by omega)
      have g0 := get_last H2 (PObj.mk 218 ((spL kk z27 (i + 1)).map u32C) (i + 1))
      obtain ⟨r0, hr0⟩ := drop_u32 (spL_at kk (i + 1) i (by omega) (by omega))
      (conv => whnf)
      refine drawK_of2 D145_12 [H2 ++ [PObj.mk 218 ((spL kk z27 (i + 1)).map u32C) (i + 1)]] (by kernel_rfl) rfl ⟨trivial, trivial⟩ ?_
      (conv => whnf)
      apply Exists.intro
      apply And.intro
      · (conv => whnf)
        exact ⟨rfl, rfl, rfl, trivial⟩
      (conv => whnf)
      (apply Exists.intro; apply And.intro; (focus ((conv => whnf); first | exact ⟨rfl, rfl, trivial⟩ | (refine ⟨by omega, ?_⟩; (conv => whnf); exact ⟨rfl, rfl, trivial⟩))); (conv => whnf))
      apply Exists.intro
      apply And.intro
      · (conv => whnf)
        refine ⟨⟨by show (0 : Int) ≤ (i : Int); omega, by show (i : Int) < ((27 : Nat) : Int); omega⟩, rfl, rfl, trivial⟩
      (conv => whnf)
      apply Exists.intro
      apply And.intro
      · (conv => whnf)
        ((conv in (_[_]?) => tactic => exact g0); (conv => whnf))
        ((conv in (dropN _ _) => tactic => exact hr0); (conv => whnf))
        exact ⟨rfl, rfl, trivial⟩
      (conv => whnf)
      (apply Exists.intro; apply And.intro; (focus ((conv => whnf); first | exact ⟨rfl, rfl, trivial⟩ | (refine ⟨by omega, ?_⟩; (conv => whnf); exact ⟨rfl, rfl, trivial⟩))); (conv => whnf))
      (apply Exists.intro; apply And.intro; (focus ((conv => whnf); first | exact ⟨rfl, rfl, trivial⟩ | (refine ⟨by omega, ?_⟩; (conv => whnf); exact ⟨rfl, rfl, trivial⟩))); (conv => whnf))
      refine ⟨.elem [u32C (spN kk i).b], ⟨⟨by show (0 : Int) ≤ (i : Int); omega, by show (i : Int) < ((i + 3 : Nat) : Int); omega⟩, [u32C (spN kk i).b], at1' (k := (i : Int).toNat * 1) (by rw [Int.toNat_natCast, Nat.mul_one, List.getElem?_map, spL2_get kk i i (by omega)]; rfl), rfl, rfl, trivial⟩, ?_⟩
      (conv => whnf)
      (apply Exists.intro; apply And.intro; (focus ((conv => whnf); first | exact ⟨rfl, rfl, trivial⟩ | (refine ⟨by omega, ?_⟩; (conv => whnf); exact ⟨rfl, rfl, trivial⟩))); (conv => whnf))
      refine ⟨_, callK_pure (c168 _) ⟨rfl, rfl, trivial⟩, ?_⟩
      (conv => whnf)
      (apply Exists.intro; apply And.intro; (focus ((conv => whnf); first | exact ⟨rfl, rfl, trivial⟩ | (refine ⟨by omega, ?_⟩; (conv => whnf); exact ⟨rfl, rfl, trivial⟩))); (conv => whnf))
      (apply Exists.intro; apply And.intro; (focus ((conv => whnf); first | exact ⟨rfl, rfl, trivial⟩ | (refine ⟨by omega, ?_⟩; (conv => whnf); exact ⟨rfl, rfl, trivial⟩))); (conv => whnf))
      (apply Exists.intro; apply And.intro; (focus ((conv => whnf); first | exact ⟨rfl, rfl, trivial⟩ | (refine ⟨by omega, ?_⟩; (conv => whnf); exact ⟨rfl, rfl, trivial⟩))); (conv => whnf))
      (apply Exists.intro; apply And.intro; (focus ((conv => whnf); first | exact ⟨rfl, rfl, trivial⟩ | (refine ⟨by omega, ?_⟩; (conv => whnf); exact ⟨rfl, rfl, trivial⟩))); (conv => whnf))
      (apply Exists.intro; apply And.intro; (focus ((conv => whnf); first | exact ⟨rfl, rfl, trivial⟩ | (refine ⟨by omega, ?_⟩; (conv => whnf); exact ⟨rfl, rfl, trivial⟩))); (conv => whnf))
      apply Exists.intro
      apply And.intro
      · (conv => whnf)
        refine ⟨⟨by show (i + 3 + 1) * 4 ≤ _; omega, rfl, rfl⟩, ?_⟩
        (conv => whnf)
        exact ⟨rfl, rfl, trivial⟩
      (conv => whnf)
      (apply Exists.intro; apply And.intro; (focus ((conv => whnf); first | exact ⟨rfl, rfl, trivial⟩ | (refine ⟨by omega, ?_⟩; (conv => whnf); exact ⟨rfl, rfl, trivial⟩))); (conv => whnf))
      have hw1 : IntKind.i64.wrap ((i : Int) + 1) = ((i + 1 : Nat) : Int) := by rw [wrap64 (by omega) (by omega)]; omega
      have hw3 : IntKind.i64.wrap ((i : Int) + 3) = ((i + 3 : Nat) : Int) := by rw [wrap64 (by omega) (by omega)]; omega
      have hnx : PV.int .u32 (ibits .xor .u32 (IntKind.u32.wrap ((spN kk i).a + rot32 (spN kk i).b (-8))) (IntKind.u32.wrap (i : Int))) = u32C (spN kk (i + 1)).d := by rw [spN_next]; rfl
      refine drawK_of2 D145_13 [H2 ++ [PObj.mk 218 ((spL kk z27 (i + 1)).map u32C) (i + 1)], H2 ++ [PObj.mk 218 ((spL kk z27 (i + 1 + 1)).map u32C) (i + 1 + 1)]] (by kernel_rfl) rfl trivial ?_
      (conv => whnf)
      (apply Exists.intro; apply And.intro; (focus ((conv => whnf); first | exact ⟨rfl, rfl, trivial⟩ | (refine ⟨by omega, ?_⟩; (conv => whnf); exact ⟨rfl, rfl, trivial⟩))); (conv => whnf))
      refine ⟨.int .i64 ((i + 1 : Nat) : Int), ⟨congrArg (PV.int _) hw1, rfl, trivial⟩, ?_⟩
      (conv => whnf)
      (apply Exists.intro; apply And.intro; (focus ((conv => whnf); first | exact ⟨rfl, rfl, trivial⟩ | (refine ⟨by omega, ?_⟩; (conv => whnf); exact ⟨rfl, rfl, trivial⟩))); (conv => whnf))
      apply Exists.intro
      apply And.intro
      · (conv => whnf)
        refine ⟨⟨by show (0 : Int) ≤ (i : Int); omega, by show (i : Int) < ((27 : Nat) : Int); omega⟩, rfl, rfl, trivial⟩
      (conv => whnf)
      apply Exists.intro
      apply And.intro
      · (conv => whnf)
        ((conv in (_[_]?) => tactic => exact g0); (conv => whnf))
        ((conv in (dropN _ _) => tactic => exact hr0); (conv => whnf))
        exact ⟨rfl, rfl, trivial⟩
      (conv => whnf)
      refine ⟨_, callK_pure (c169 _) ⟨rfl, rfl, trivial⟩, ?_⟩
      (conv => whnf)
      (apply Exists.intro; apply And.intro; (focus ((conv => whnf); first | exact ⟨rfl, rfl, trivial⟩ | (refine ⟨by omega, ?_⟩; (conv => whnf); exact ⟨rfl, rfl, trivial⟩))); (conv => whnf))
      (apply Exists.intro; apply And.intro; (focus ((conv => whnf); first | exact ⟨rfl, rfl, trivial⟩ | (refine ⟨by omega, ?_⟩; (conv => whnf); exact ⟨rfl, rfl, trivial⟩))); (conv => whnf))
      refine ⟨.int .i64 ((i + 3 : Nat) : Int), ⟨congrArg (PV.int _) hw3, rfl, trivial⟩, ?_⟩
      (conv => whnf)
      refine ⟨.elem [u32C (spN kk (i + 1)).d], ⟨⟨by show (0 : Int) ≤ ((i + 3 : Nat) : Int); omega, by show ((i + 3 : Nat) : Int) < ((i + 3 + 1 : Nat) : Int); omega⟩, [u32C (spN kk (i + 1)).d], at1' (k := ((i + 3 : Nat) : Int).toNat * 1) (by
        have e : ((i + 3 : Nat) : Int).toNat * 1 = i + 3 := by omega
        rw [e, List.getElem?_append_right (by rw [List.length_map, spL2_len]; omega), List.length_map, spL2_len, Nat.sub_self]
        exact congrArg some hnx), rfl, rfl, trivial⟩, ?_⟩
      (conv => whnf)
      (apply Exists.intro; apply And.intro; (focus ((conv => whnf); first | exact ⟨rfl, rfl, trivial⟩ | (refine ⟨by omega, ?_⟩; (conv => whnf); exact ⟨rfl, rfl, trivial⟩))); (conv => whnf))
      (apply Exists.intro; apply And.intro; (focus ((conv => whnf); first | exact ⟨rfl, rfl, trivial⟩ | (refine ⟨by omega, ?_⟩; (conv => whnf); exact ⟨rfl, rfl, trivial⟩))); (conv => whnf))
      apply Exists.intro
      apply And.intro
      · (conv => whnf)
        refine ⟨⟨by show (0 : Int) ≤ ((i + 1 : Nat) : Int); omega, by show ((i + 1 : Nat) : Int) < ((27 : Nat) : Int); omega⟩, rfl, rfl, trivial⟩
      (conv => whnf)
      apply Exists.intro
      apply And.intro
      · (conv => whnf)
        ((conv in (_[_]?) => tactic => exact g0); (conv => whnf))
        ((conv in (Nat.ble _ _) => tactic => exact (show Nat.ble (0 + ((i + 1 : Nat) : Int).toNat * 1 + 1) ((spL kk z27 (i + 1)).map u32C).length = true by rw [Nat.ble_eq, List.length_map, hlen1]; omega)); (conv => whnf))
        refine ⟨rfl, ?_, trivial⟩
        refine (set_last H2 _ _).trans (congrArg (fun o => H2 ++ [o]) ?_)
        show PObj.mk 218 (setCells (0 + ((i + 1 : Nat) : Int).toNat * 1) [u32C (xor32 (rot32 (spN kk i).a 3) (spN kk (i + 1)).d)] ((spL kk z27 (i + 1)).map u32C)) (i + 1 + 1) = _
        rw [← spN_a]
        have := setCells_mid [] [] (spL kk z27 (i + 1)) (i + 1) (0 + ((i + 1 : Nat) : Int).toNat * 1) (spN kk (i + 1)).a (by omega) (by simp)
        rw [List.nil_append, List.append_nil, List.nil_append, List.append_nil, spL_set kk z27 (i + 1) rfl (by omega)] at this
        rw [this]
      (conv => whnf)
      refine ⟨i + 1, by omega, ⟨rfl, rfl, ?_, ?_, trivial⟩, rfl, by omega⟩
      · show PV.slice (i + 3 + 1) ((spL2 kk i).map u32C ++ [PV.int .u32 (ibits .xor .u32 (IntKind.u32.wrap ((spN kk i).a + rot32 (spN kk i).b (-8))) (IntKind.u32.wrap (i : Int)))]) (some 217) = PV.slice (i + 1 + 3) ((spL2 kk (i + 1)).map u32C) (some 217)
        rw [hnx, spL2_succ, List.map_append, spN_d, List.map_cons, List.map_nil, show i + 3 + 1 = i + 1 + 3 by omega, show i + 1 + 2 = i + 3 by omega]
      · exact congrArg (PV.int _) hw1
    · have h : ¬ (i : Int) < 26 := h
      have e : i = 26 := by omega
      subst e
      have hspl : spL kk z27 (26 + 1) = spW kk := by
        unfold spL spW
        rw [List.drop_of_length_le (by show 27 ≤ 26 + 1; omega), List.append_nil]
      rw [hspl]
      (conv => whnf)
      ((conv in (_[_]?) => tactic => exact (get_last H2 _)); (conv => whnf))
      have hR : ∀ x : PObj, (H2 ++ [x])[H.length]? = some ⟨218, z27.map u32C, 0⟩ := fun x => by
        rw [List.getElem?_append_left (by rw [hH2]; simp; omega), hH2, List.getElem?_append_left (by omega)]; exact hr1
      ((conv in (_[_]?) => tactic => exact (hR _)); (conv => whnf))
      have hW : setCells 0 (((dropN 0 ((spW kk).map u32C)).take 27).map dem) (z27.map u32C) = (spW kk).map u32C := by
        rw [agg27 _ (spW_len kk), setCells_eq _ _ _ (by rw [List.length_map, List.length_map, spW_len]; exact Nat.le_refl _), List.take_zero, List.drop_of_length_le (by rw [List.length_map, List.length_map, spW_len]; exact Nat.le_refl _), List.nil_append, List.append_nil]
      have h2 : ((H2 ++ [PObj.mk 218 ((spW kk).map u32C) (26 + 1)]).set H.length (PObj.mk 218 (setCells 0 (((dropN 0 ((spW kk).map u32C)).take 27).map dem) (z27.map u32C)) (0 + 1)))[H.length]? = some (PObj.mk 218 ((spW kk).map u32C) 1) := by
        rw [get_set (hR _), hW]
      generalize hh : (setH _ _ _ _)[List.length H]? = X
      rw [show X = some (PObj.mk 218 ((spW kk).map u32C) 1) from hh.symm.trans h2]
      (conv => whnf)
      refine ⟨congrArg PV.agg (agg27 _ (spW_len kk)), ?_⟩
      refine ext_of ?_ fun j hj => ?_
      · show H.length ≤ ((H2 ++ [_]).set _ _).length
        rw [List.length_set, List.length_append, hH2, List.length_append]; omega
      · show ((H2 ++ [_]).set H.length _)[j]? = _
        rw [List.getElem?_set_ne (by omega), List.getElem?_append_left (by rw [hH2, List.length_append]; omega), hH2, List.getElem?_append_left (by omega), hH1, List.getElem?_append_left hj]
  | j + 17, hj => exact absurd hj (by omega)
theorem oldPs_u32 (l : List Int) : oldPs (l.map u32C) = true := by
  induction l with
  | nil => rfl
  | cons x l ih => simp [oldPs, oldP, u32C, ih]
theorem c145 (k : List UInt8) (hk : k.length = 16) : Pure prog 145 [.agg (k.map byteC)] (.agg ((spW k).map u32C)) :=
  Pure.of_gc (by simp [oldR, oldP, oldPs_u32]) fun H => c145x k hk H
end Go.Proofs.Tryz

set_option maxRecDepth 100000
set_option maxHeartbeats 2000000
set_option linter.unusedVariables false
set_option linter.unusedSimpArgs false
namespace Go.Proofs.Tryz
open Go Ps
def ttQ4 : TT := [(3, ⟨.int .i64, 1, 8, [.int .i64 0]⟩), (5, ⟨.int .u8, 1, 1, [.int .u8 0]⟩), (9, ⟨.str, 1, 16, [.str []]⟩), (22, ⟨.slice 5, 1, 24, [.slice 0 [] (some 5)]⟩), (49, ⟨.arr 32 5, 32, 32, List.replicate 32 (.int .u8 0)⟩), (166, ⟨.arr 16 5, 16, 16, List.replicate 16 (.int .u8 0)⟩), (176, ⟨.int .u64, 1, 8, [.int .u64 0]⟩), (191, ⟨.int .u64, 1, 8, [.int .u64 0]⟩), (217, ⟨.int .u32, 1, 4, [.int .u32 0]⟩), (218, ⟨.arr 27 217, 27, 108, List.replicate 27 (.int .u32 0)⟩)]
theorem ttQ4_ok : ttOk prog ttQ4 = true := by kernel_rfl
def imm97 : List Nat := [2000002]
def imm109 : List Nat := []
def imm143 : List Nat := [1]
def imm99 : List Nat := [3]
def imm98 : List Nat := [4]
def imm35 : List Nat := [4]
def imm46 : List Nat := [3]
theorem c97 (n : Int) : Pure prog 97 [.int .u64 n] (ow (bigV n)) := by
  intro H
  (refine callOk_of_pFun2 (tt := ttQ4) (imm := imm97) follows ttQ4_ok depth6 func97 (by kernel_rfl) ?_; (conv => whnf))
  refine loopK_of Nat (fun k => [(0, .int .u64 n), (3, ow ((bigV n).take k)), (4, .int .i64 (7 - (k : Int)))]) (fun _ => H) (fun k => k ≤ 8) (fun k => 8 - k) ⟨0, Nat.zero_le _, ⟨rfl, rfl, rfl, trivial⟩, rfl⟩ ?_
  intro i hi
  match i, hi with
  | 0, _ =>
    (conv => whnf)
    refine ⟨fun _ => ?_, fun h => absurd (show (0 : Int) ≤ 7 - ((0 : Nat) : Int) by decide) h⟩
    (conv => whnf)
    refine ⟨by decide, ?_⟩
    (conv => whnf)
    refine ⟨⟨by show (0 + 1) * 1 ≤ 140737488355328; decide, rfl, rfl⟩, ?_⟩
    (conv => whnf)
    refine ⟨1, by decide, ⟨rfl, ?_, rfl, trivial⟩, rfl, by decide⟩
    show PV.slice 1 (((bigV n).take 0).map byteC ++ [.int .u8 (IntKind.u8.wrap (ishr .u64 n 56))]) (some 5) = ow ((bigV n).take 1)
    rw [byteC_I]
    rfl
  | 1, _ =>
    (conv => whnf)
    refine ⟨fun _ => ?_, fun h => absurd (show (0 : Int) ≤ 7 - ((1 : Nat) : Int) by decide) h⟩
    (conv => whnf)
    refine ⟨by decide, ?_⟩
    (conv => whnf)
    refine ⟨⟨by show (1 + 1) * 1 ≤ 140737488355328; decide, rfl, rfl⟩, ?_⟩
    (conv => whnf)
    refine ⟨2, by decide, ⟨rfl, ?_, rfl, trivial⟩, rfl, by decide⟩
    show PV.slice 2 (((bigV n).take 1).map byteC ++ [.int .u8 (IntKind.u8.wrap (ishr .u64 n 48))]) (some 5) = ow ((bigV n).take 2)
    rw [byteC_I]
    rfl
  | 2, _ =>
    (conv => whnf)
    refine ⟨fun _ => ?_, fun h => absurd (show (0 : Int) ≤ 7 - ((2 : Nat) : Int) by decide) h⟩
    (conv => whnf)
    refine ⟨by decide, ?_⟩
    (conv => whnf)
    refine ⟨⟨by show (2 + 1) * 1 ≤ 140737488355328; decide, rfl, rfl⟩, ?_⟩
    (conv => whnf)
    refine ⟨3, by decide, ⟨rfl, ?_, rfl, trivial⟩, rfl, by decide⟩
    show PV.slice 3 (((bigV n).take 2).map byteC ++ [.int .u8 (IntKind.u8.wrap (ishr .u64 n 40))]) (some 5) = ow ((bigV n).take 3)
    rw [byteC_I]
    rfl
  | 3, _ =>
    (conv => whnf)
    refine ⟨fun _ => ?_, fun h => absurd (show (0 : Int) ≤ 7 - ((3 : Nat) : Int) by decide) h⟩
    (conv => whnf)
    refine ⟨by decide, ?_⟩
    (conv => whnf)
    refine ⟨⟨by show (3 + 1) * 1 ≤ 140737488355328; decide, rfl, rfl⟩, ?_⟩
    (conv => whnf)
    refine ⟨4, by decide, ⟨rfl, ?_, rfl, trivial⟩, rfl, by decide⟩
    show PV.slice 4 (((bigV n).take 3).map byteC ++ [.int .u8 (IntKind.u8.wrap (ishr .u64 n 32))]) (some 5) = ow ((bigV n).take 4)
    rw [byteC_I]
    rfl
  | 4, _ =>
    (conv => whnf)
    refine ⟨fun _ => ?_, fun h => absurd (show (0 : Int) ≤ 7 - ((4 : Nat) : Int) by decide) h⟩
    (conv => whnf)
    refine ⟨by decide, ?_⟩
    (conv => whnf)
    refine ⟨⟨by show (4 + 1) * 1 ≤ 140737488355328; decide, rfl, rfl⟩, ?_⟩
    (conv => whnf)
    refine ⟨5, by decide, ⟨rfl, ?_, rfl, trivial⟩, rfl, by decide⟩
    show PV.slice 5 (((bigV n).take 4).map byteC ++ [.int .u8 (IntKind.u8.wrap (ishr .u64 n 24))]) (some 5) = ow ((bigV n).take 5)
    rw [byteC_I]
    rfl
  | 5, _ =>
    (conv => whnf)
    refine ⟨fun _ => ?_, fun h => absurd (show (0 : Int) ≤ 7 - ((5 : Nat) : Int) by decide) h⟩
    (conv => whnf)
    refine ⟨by decide, ?_⟩
    (conv => whnf)
    refine ⟨⟨by show (5 + 1) * 1 ≤ 140737488355328; decide, rfl, rfl⟩, ?_⟩
    (conv => whnf)
    refine ⟨6, by decide, ⟨rfl, ?_, rfl, trivial⟩, rfl, by decide⟩
    show PV.slice 6 (((bigV n).take 5).map byteC ++ [.int .u8 (IntKind.u8.wrap (ishr .u64 n 16))]) (some 5) = ow ((bigV n).take 6)
    rw [byteC_I]
    rfl
  | 6, _ =>
    (conv => whnf)
    refine ⟨fun _ => ?_, fun h => absurd (show (0 : Int) ≤ 7 - ((6 : Nat) : Int) by decide) h⟩
    (conv => whnf)
    refine ⟨by decide, ?_⟩
    (conv => whnf)
    refine ⟨⟨by show (6 + 1) * 1 ≤ 140737488355328; decide, rfl, rfl⟩, ?_⟩
    (conv => whnf)
    refine ⟨7, by decide, ⟨rfl, ?_, rfl, trivial⟩, rfl, by decide⟩
    show PV.slice 7 (((bigV n).take 6).map byteC ++ [.int .u8 (IntKind.u8.wrap (ishr .u64 n 8))]) (some 5) = ow ((bigV n).take 7)
    rw [byteC_I]
    rfl
  | 7, _ =>
    (conv => whnf)
    refine ⟨fun _ => ?_, fun h => absurd (show (0 : Int) ≤ 7 - ((7 : Nat) : Int) by decide) h⟩
    (conv => whnf)
    refine ⟨by decide, ?_⟩
    (conv => whnf)
    refine ⟨⟨by show (7 + 1) * 1 ≤ 140737488355328; decide, rfl, rfl⟩, ?_⟩
    (conv => whnf)
    refine ⟨8, by decide, ⟨rfl, ?_, rfl, trivial⟩, rfl, by decide⟩
    show PV.slice 8 (((bigV n).take 7).map byteC ++ [.int .u8 (IntKind.u8.wrap (ishr .u64 n 0))]) (some 5) = ow ((bigV n).take 8)
    rw [byteC_I]
    rfl
  | 8, _ =>
    (conv => whnf)
    refine ⟨fun h => absurd h (by decide), fun _ => ?_⟩
    (conv => whnf)
    exact ⟨rfl, rfl⟩
theorem be_step2 (l : List UInt8) (c : UInt8) (h : l.length < 8) : ibits .or .u64 (ishl .u64 (beN l : Nat) 8) (IntKind.u64.wrap c.toNat) = ((beN (l ++ [c]) : Nat) : Int) := by
  have hc := c.toNat_lt
  have h1 := beN_lt l rfl
  rw [pow8] at h1
  have h3 : 2 ^ (8 * (l.length + 1)) ≤ 18446744073709551616 := pow_le8 (by omega)
  have h4 : 2 ^ (8 * (l.length + 1)) = 256 * 2 ^ (8 * l.length) := by rw [Nat.mul_add, Nat.pow_add]; omega
  have h5 : beN l * 256 < 18446744073709551616 := by omega
  have e : ishl .u64 (beN l : Nat) 8 = ((beN l * 256 : Nat) : Int) := by
    show IntKind.u64.wrap ((beN l : Int) * 2 ^ (min (8 : Int).toNat 64)) = _
    have : ((beN l : Int) * 2 ^ (min (8 : Int).toNat 64)) = ((beN l * 256 : Nat) : Int) := by push_cast; rfl
    rw [this]
    exact wrapU64 h5
  rw [e, wrapU64 (by omega), or_u64 h5 (by omega), beN_snoc, show beN l * 256 = 2 ^ 8 * beN l by omega, ← Nat.two_pow_add_eq_or_of_lt (by omega : c.toNat < 2 ^ 8)]
theorem c109 (b : List UInt8) (hb : 8 ≤ b.length) : Pure prog 109 [sl b] (.int .u64 (beN (b.take 8))) := by
  intro H
  (refine callOk_of_pFun2 (tt := ttQ4) (imm := imm109) follows ttQ4_ok depth6 func109 (by kernel_rfl) ?_; (conv => whnf))
  refine loopK_of Nat (fun i => [(0, sl b), (3, .int .u64 (beN (b.take i))), (4, .int .i64 i)]) (fun _ => H) (fun i => i ≤ 8) (fun i => 8 - i) ⟨0, Nat.zero_le _, ⟨rfl, rfl, rfl, trivial⟩, rfl⟩ ?_
  intro i hi
  (conv => whnf)
  refine ⟨fun h => ?_, fun h => ?_⟩
  · have h : (i : Int) < 8 := h
    have hi' : i < b.length := by omega
    (conv => whnf)
    refine ⟨by decide, ?_⟩
    (conv => whnf)
    refine ⟨⟨by omega, by show (i : Int) < (b.length : Int); omega⟩, [byteC b[i]], at1' (k := (i : Int).toNat * 1) (by rw [Int.toNat_natCast, Nat.mul_one, List.getElem?_map, List.getElem?_eq_getElem hi']; rfl), ?_⟩
    (conv => whnf)
    refine ⟨i + 1, by omega, ⟨rfl, ?_, ?_, trivial⟩, rfl, by omega⟩
    · show PV.int _ (ibits .or .u64 (ishl .u64 (beN (b.take i) : Nat) 8) (IntKind.u64.wrap (b[i].toNat : Int))) = PV.int _ _
      have hl : (b.take i).length = i := by rw [List.length_take]; omega
      rw [List.take_succ_eq_append_getElem hi', be_step2 (b.take i) b[i] (by omega)]
    · show PV.int _ (IntKind.i64.wrap ((i : Int) + 1)) = PV.int _ _
      rw [wrap64 (by omega) (by omega)]; simp
  · have h : ¬ (i : Int) < 8 := h
    have e : i = 8 := by omega
    subst e
    (conv => whnf)
    exact ⟨rfl, rfl⟩
end Go.Proofs.Tryz

set_option maxRecDepth 100000
set_option maxHeartbeats 2000000
set_option linter.unusedVariables false
set_option linter.unusedSimpArgs false
namespace Go.Proofs.Tryz
open Go Ps
/-- Sixteen bytes, of which i are those of l. -/
def cur16 (l : List UInt8) (i : Nat) : List UInt8 := l.take i ++ List.replicate (16 - i) 0
theorem cur16_len (l : List UInt8) (i : Nat) (hl : 16 ≤ l.length) (hi : i ≤ 16) : (cur16 l i).length = 16 := by
  unfold cur16
  rw [List.length_append, List.length_take, List.length_replicate]; omega
theorem cur16_set (l : List UInt8) (i : Nat) (hl : 16 ≤ l.length) (hi : i < 16) : (cur16 l i).set i (l[i]'(by omega)) = cur16 l (i + 1) := by
  unfold cur16
  rw [List.set_append_right _ _ (by rw [List.length_take]; omega), List.length_take, Nat.min_eq_left (by omega), Nat.sub_self, show 16 - i = (16 - (i + 1)) + 1 by omega, List.replicate_succ, List.set_cons_zero, List.take_succ_eq_append_getElem (by omega), List.append_assoc]
  rfl
theorem get2a (H : PH) (a b : PObj) : (H ++ [a, b])[H.length]? = some a := by simp
theorem get2b (H : PH) (a b : PObj) : (H ++ [a, b])[H.length + 1]? = some b := by simp
theorem set2a (H : PH) (a b o : PObj) : (H ++ [a, b]).set H.length o = H ++ [o, b] := by simp
theorem set2b (H : PH) (a b o : PObj) : (H ++ [a, b]).set (H.length + 1) o = H ++ [a, o] := by
  rw [List.set_append_right _ _ (by omega), show H.length + 1 - H.length = 1 by omega]; rfl
def B16 (l : List UInt8) (v : Nat) : PObj := ⟨166, l.map byteC, v⟩
def D143_5 : Draw := { imp := [10, 12], win := [(1, 0, 1), (5, 0, 1), (6, 0, 1), (7, 0, 1), (8, 0, 1), (11, 1, 1), (12, 1, 1)] }
def D143_6 : Draw := { imp := [2, 3], win := [(1, 0, 1), (3, 1, 1)] }
theorem setCells_app0 (cs : List UInt8) (i : Nat) (x : UInt8) (h : i < cs.length) : setCells i [byteC x] (cs.map byteC) = (cs.set i x).map byteC := by
  have := setCells_app cs [] i x h
  rw [List.append_nil, List.append_nil] at this
  exact this
theorem agg16 (l : List UInt8) (hl : l.length = 16) : ((dropN 0 (l.map byteC)).take 16).map dem = l.map byteC := by
  rw [dropN_eq, List.drop_zero, List.take_of_length_le (by rw [List.length_map]; omega), List.map_map]
  rfl
theorem set16 (l : List UInt8) (hl : l.length = 16) : setCells 0 (l.map byteC) ((List.replicate 16 (0 : UInt8)).map byteC) = l.map byteC := by
  rw [setCells_eq _ _ _ (by rw [List.length_map, hl]; exact Nat.le_refl _), List.take_zero, List.drop_of_length_le (by simp [hl]), List.nil_append, List.append_nil]
theorem oldPs_bytes (l : List UInt8) : oldPs (l.map byteC) = true := by
  induction l with
  | nil => rfl
  | cons x l ih => simp [oldPs, oldP, byteC, ih]
theorem c143x (k : List UInt8) (hk : k.length = 32) (H : PH) : CallOk prog 143 [.agg (k.map byteC)] H fun r H' => r = .tup [.agg ((k.take 16).map byteC), .agg ((k.drop 16).map byteC)] ∧ ∃ ext, H' = H ++ ext := by
  (refine callOk_of_pFun2 (tt := ttQ4) (imm := imm143) follows ttQ4_ok depth6 func143 (by kernel_rfl) ?_; (conv => whnf))
  obtain ⟨H3, hH3⟩ : ∃ H3 : PH, H3 = H ++ [B16 (List.replicate 16 0) 0, B16 (List.replicate 16 0) 0] := ⟨_, rfl⟩
  have hd16 : 16 ≤ (k.drop 16).length := by rw [List.length_drop]; omega
  refine loopK_of Nat (fun i => [(1, .elem (k.map byteC)), (2, .ptr (some (H.length, 0))), (3, .ptr (some (H.length + 1, 0))), (4, .ptr (some (H3.length, 0))), (5, .ptr (some (H3.length + 1, 0))), (6, .int .i64 i)]) (fun i => H3 ++ [B16 (cur16 k i) i, B16 (cur16 (k.drop 16) i) i]) (fun i => i ≤ 16) (fun i => 16 - i) ⟨0, Nat.zero_le _, ⟨rfl, rfl, ?_, ?_, ?_, rfl, trivial⟩, ?_⟩ ?_
  · show PV.ptr (some ((H ++ [_]).length, 0)) = _
    simp
  · show PV.ptr (some ((H ++ [_] ++ [_]).length, 0)) = _
    simp [hH3]
  · show PV.ptr (some ((H ++ [_] ++ [_] ++ [_]).length, 0)) = _
    simp [hH3]
  · subst hH3
    show H ++ [_] ++ [_] ++ [_] ++ [_] = _
    simp only [List.append_assoc, List.cons_append, List.nil_append]
    rfl
  intro i hi
  (conv => whnf)
  refine ⟨fun h => ?_, fun h => ?_⟩
  · have h : (i : Int) < 16 := h
    have hia : i < k.length := by omega
    have hib : i < (k.drop 16).length := by omega
    have hib2 : 16 + i < k.length := by omega
    have hw : IntKind.i64.wrap (16 + (i : Int)) = ((16 + i : Nat) : Int) := by rw [wrap64 (by omega) (by omega)]; omega
    have hgb : (k.drop 16)[i] = k[16 + i] := by rw [List.getElem_drop]
    have lA := cur16_len k i (by omega) (by omega)
    have lB := cur16_len (k.drop 16) i hd16 (by omega)
    (conv => whnf)
    refine drawK_of2 D143_5 [H3 ++ [B16 (cur16 k i) i, B16 (cur16 (k.drop 16) i) i], H3 ++ [B16 (cur16 k (i + 1)) (i + 1), B16 (cur16 (k.drop 16) i) i], H3 ++ [B16 (cur16 k (i + 1)) (i + 1), B16 (cur16 (k.drop 16) (i + 1)) (i + 1)]] (by kernel_rfl) rfl trivial ?_
    (conv => whnf)
    (apply Exists.intro; apply And.intro; (focus ((conv => whnf); first | exact ⟨rfl, rfl, trivial⟩ | (refine ⟨by omega, ?_⟩; (conv => whnf); exact ⟨rfl, rfl, trivial⟩))); (conv => whnf))
    (apply Exists.intro; apply And.intro; (focus ((conv => whnf); apply And.intro; (focus ((conv => whnf); first | exact ⟨rfl, rfl, trivial⟩ | (refine ⟨by omega, ?_⟩; (conv => whnf); exact ⟨rfl, rfl, trivial⟩))); ((conv => whnf); first | exact ⟨rfl, rfl, trivial⟩ | (refine ⟨by omega, ?_⟩; (conv => whnf); exact ⟨rfl, rfl, trivial⟩)))); (conv => whnf))
    (apply Exists.intro; apply And.intro; (focus ((conv => whnf); first | exact ⟨rfl, rfl, trivial⟩ | (refine ⟨by omega, ?_⟩; (conv => whnf); exact ⟨rfl, rfl, trivial⟩))); (conv => whnf))
    refine ⟨.elem [byteC k[i]], ⟨⟨by show (0 : Int) ≤ (i : Int); omega, by show (i : Int) < ((32 : Nat) : Int); omega⟩, [byteC k[i]], at1' (k := (i : Int).toNat * 1) (by rw [Int.toNat_natCast, Nat.mul_one, List.getElem?_map, List.getElem?_eq_getElem hia]; rfl), rfl, rfl, trivial⟩, ?_⟩
    (conv => whnf)
    (apply Exists.intro; apply And.intro; (focus ((conv => whnf); first | exact ⟨rfl, rfl, trivial⟩ | (refine ⟨by omega, ?_⟩; (conv => whnf); exact ⟨rfl, rfl, trivial⟩))); (conv => whnf))
    (apply Exists.intro; apply And.intro; (focus ((conv => whnf); apply And.intro; (focus ((conv => whnf); first | exact ⟨rfl, rfl, trivial⟩ | (refine ⟨by omega, ?_⟩; (conv => whnf); exact ⟨rfl, rfl, trivial⟩))); ((conv => whnf); first | exact ⟨rfl, rfl, trivial⟩ | (refine ⟨by omega, ?_⟩; (conv => whnf); exact ⟨rfl, rfl, trivial⟩)))); (conv => whnf))
    refine ⟨.int .i64 ((16 + i : Nat) : Int), ⟨⟨congrArg (PV.int _) hw, rfl, trivial⟩, ⟨congrArg (PV.int _) hw, rfl, trivial⟩⟩, ?_⟩
    (conv => whnf)
    refine ⟨.elem [byteC k[16 + i]], ?_, ?_⟩
    · (conv => whnf)
      have hq : ∀ (j : Nat) (c : PV), [byteC k[16 + i]][j]? = some c → (k.map byteC)[((16 + i : Nat) : Int).toNat * 1 + j]? = some c := at1' (by rw [Int.toNat_natCast, Nat.mul_one, List.getElem?_map, List.getElem?_eq_getElem hib2]; rfl)
      exact ⟨⟨⟨by omega, by show ((16 + i : Nat) : Int) < ((32 : Nat) : Int); omega⟩, _, hq, rfl, rfl, trivial⟩, ⟨⟨by omega, by show ((16 + i : Nat) : Int) < ((32 : Nat) : Int); omega⟩, _, hq, rfl, rfl, trivial⟩⟩
    (conv => whnf)
    (apply Exists.intro; apply And.intro; (focus ((conv => whnf); apply And.intro; (focus ((conv => whnf); first | exact ⟨rfl, rfl, trivial⟩ | (refine ⟨by omega, ?_⟩; (conv => whnf); exact ⟨rfl, rfl, trivial⟩))); ((conv => whnf); first | exact ⟨rfl, rfl, trivial⟩ | (refine ⟨by omega, ?_⟩; (conv => whnf); exact ⟨rfl, rfl, trivial⟩)))); (conv => whnf))
    apply Exists.intro
    apply And.intro
    · (conv => whnf)
      refine ⟨⟨by show (0 : Int) ≤ (i : Int); omega, by show (i : Int) < ((16 : Nat) : Int); omega⟩, rfl, rfl, trivial⟩
    (conv => whnf)
    apply Exists.intro
    apply And.intro
    · (conv => whnf)
      ((conv in (_[_]?) => tactic => exact (get2a H3 _ _)); (conv => whnf))
      ((conv in (Nat.ble _ _) => tactic => exact (show Nat.ble (0 + (i : Int).toNat * 1 + 1) ((cur16 k i).map byteC).length = true by rw [Nat.ble_eq, List.length_map, lA]; omega)); (conv => whnf))
      refine ⟨rfl, ?_, trivial⟩
      refine (set2a H3 _ _ _).trans (congrArg (fun o => H3 ++ [o, _]) ?_)
      show PObj.mk 166 (setCells (0 + (i : Int).toNat * 1) [byteC k[i]] ((cur16 k i).map byteC)) (i + 1) = _
      rw [show 0 + (i : Int).toNat * 1 = i by omega, setCells_app0 _ _ _ (by omega), cur16_set k i (by omega) (by omega)]; rfl
    (conv => whnf)
    apply Exists.intro
    apply And.intro
    · (conv => whnf)
      refine ⟨⟨by show (0 : Int) ≤ (i : Int); omega, by show (i : Int) < ((16 : Nat) : Int); omega⟩, rfl, rfl, trivial⟩
    (conv => whnf)
    apply Exists.intro
    apply And.intro
    · (conv => whnf)
      ((conv in (_[_]?) => tactic => exact (get2b H3 _ _)); (conv => whnf))
      ((conv in (Nat.ble _ _) => tactic => exact (show Nat.ble (0 + (i : Int).toNat * 1 + 1) ((cur16 (k.drop 16) i).map byteC).length = true by rw [Nat.ble_eq, List.length_map, lB]; omega)); (conv => whnf))
      refine ⟨rfl, ?_, trivial⟩
      refine (set2b H3 _ _ _).trans (congrArg (fun o => H3 ++ [_, o]) ?_)
      show PObj.mk 166 (setCells (0 + (i : Int).toNat * 1) [byteC k[16 + i]] ((cur16 (k.drop 16) i).map byteC)) (i + 1) = _
      rw [show 0 + (i : Int).toNat * 1 = i by omega, setCells_app0 _ _ _ (by omega), ← hgb, cur16_set (k.drop 16) i hd16 (by omega)]; rfl
    (conv => whnf)
    refine ⟨i + 1, by omega, ⟨rfl, rfl, rfl, rfl, rfl, ?_, trivial⟩, rfl, by omega⟩
    show PV.int _ (IntKind.i64.wrap ((i : Int) + 1)) = PV.int _ _
    rw [wrap64 (by omega) (by omega)]; simp
  · have h : ¬ (i : Int) < 16 := h
    have e : i = 16 := by omega
    subst e
    have e1 : cur16 k 16 = k.take 16 := by unfold cur16; exact List.append_nil _
    have e2 : cur16 (k.drop 16) 16 = k.drop 16 := by
      unfold cur16
      rw [List.take_of_length_le (by rw [List.length_drop]; omega)]; exact List.append_nil _
    rw [e1, e2]
    have h1 : (k.take 16).length = 16 := by rw [List.length_take]; omega
    have h2 : (k.drop 16).length = 16 := by rw [List.length_drop]; omega
    have g1 : (H3 ++ [B16 (k.take 16) 16, B16 (k.drop 16) 16])[H.length]? = some (B16 (List.replicate 16 0) 0) := by
      rw [List.getElem?_append_left (by rw [hH3]; simp), hH3]; exact get2a H _ _
    have g2 : (H3 ++ [B16 (k.take 16) 16, B16 (k.drop 16) 16])[H.length + 1]? = some (B16 (List.replicate 16 0) 0) := by
      rw [List.getElem?_append_left (by rw [hH3]; simp), hH3]; exact get2b H _ _
    have g3 : (H3 ++ [B16 (k.take 16) 16, B16 (k.drop 16) 16])[H3.length]? = some (B16 (k.take 16) 16) := get2a H3 _ _
    have g4 : (H3 ++ [B16 (k.take 16) 16, B16 (k.drop 16) 16])[H3.length + 1]? = some (B16 (k.drop 16) 16) := get2b H3 _ _
    have b1 : Nat.ble 16 (dropN 0 ((k.take 16).map byteC)).length = true := by rw [Nat.ble_eq, dropN_eq, List.drop_zero, List.length_map, h1]; exact Nat.le_refl _
    have b2 : Nat.ble 16 (dropN 0 ((k.drop 16).map byteC)).length = true := by rw [Nat.ble_eq, dropN_eq, List.drop_zero, List.length_map, h2]; exact Nat.le_refl _
    have q1 : Nat.beq ((k.take 16).map byteC).length 16 = true := by rw [List.length_map, h1]; rfl
    have q2 : Nat.beq ((k.drop 16).map byteC).length 16 = true := by rw [List.length_map, h2]; rfl
    have hlen3 : H3.length = H.length + 2 := by rw [hH3]; simp
    have hXl : (H3 ++ [B16 (k.take 16) 16, B16 (k.drop 16) 16]).length = H3.length + 2 := by simp
    have hfr : ∀ j, j < H.length → (H3 ++ [B16 (k.take 16) 16, B16 (k.drop 16) 16])[j]? = H[j]? := fun j hj => by
      rw [List.getElem?_append_left (by omega), hH3, List.getElem?_append_left hj]
    generalize H3 ++ [B16 (k.take 16) 16, B16 (k.drop 16) 16] = X at g1 g2 g3 g4 hXl hfr ⊢
    have g4' : (X.set H.length (B16 (k.take 16) 1))[H3.length + 1]? = some (B16 (k.drop 16) 16) := by rw [List.getElem?_set_ne (by omega)]; exact g4
    have g2' : (X.set H.length (B16 (k.take 16) 1))[H.length + 1]? = some (B16 (List.replicate 16 0) 0) := by rw [List.getElem?_set_ne (by omega)]; exact g2
    (conv => whnf)
    refine drawK_of2 D143_6 [X, X.set H.length (B16 (k.take 16) 1), (X.set H.length (B16 (k.take 16) 1)).set (H.length + 1) (B16 (k.drop 16) 1)] (by kernel_rfl) rfl trivial ?_
    (conv => whnf)
    refine ⟨.agg ((k.take 16).map byteC), ?_, ?_⟩
    · (conv => whnf)
      ((conv in (_[_]?) => tactic => exact g3); (conv => whnf))
      ((conv in (Nat.ble _ _) => tactic => exact b1); (conv => whnf))
      exact ⟨congrArg PV.agg (agg16 _ h1), rfl, trivial⟩
    (conv => whnf)
    refine ⟨.agg ((k.drop 16).map byteC), ?_, ?_⟩
    · (conv => whnf)
      refine ⟨?_, ?_⟩
      · (conv => whnf)
        ((conv in (_[_]?) => tactic => exact g4); (conv => whnf))
        ((conv in (Nat.ble _ _) => tactic => exact b2); (conv => whnf))
        exact ⟨congrArg PV.agg (agg16 _ h2), rfl, trivial⟩
      · (conv => whnf)
        ((conv in (_[_]?) => tactic => exact g4'); (conv => whnf))
        ((conv in (Nat.ble _ _) => tactic => exact b2); (conv => whnf))
        exact ⟨congrArg PV.agg (agg16 _ h2), rfl, trivial⟩
    (conv => whnf)
    apply Exists.intro
    apply And.intro
    · (conv => whnf)
      ((conv in (_[_]?) => tactic => exact g1); (conv => whnf))
      (conv in (Nat.beq _ _) => tactic => exact q1)
      (conv => whnf)
      (conv in (List.all _ _) => tactic => exact allOne (k.take 16))
      (conv => whnf)
      refine ⟨rfl, ?_, trivial⟩
      show X.set H.length (PObj.mk 166 (setCells 0 ((k.take 16).map byteC) ((List.replicate 16 (0 : UInt8)).map byteC)) (0 + 1)) = _
      rw [set16 _ h1]; rfl
    (conv => whnf)
    apply Exists.intro
    apply And.intro
    · (conv => whnf)
      ((conv in (_[_]?) => tactic => exact g2'); (conv => whnf))
      (conv in (Nat.beq _ _) => tactic => exact q2)
      (conv => whnf)
      (conv in (List.all _ _) => tactic => exact allOne (k.drop 16))
      (conv => whnf)
      refine ⟨rfl, ?_, trivial⟩
      show (X.set H.length _).set (H.length + 1) (PObj.mk 166 (setCells 0 ((k.drop 16).map byteC) ((List.replicate 16 (0 : UInt8)).map byteC)) (0 + 1)) = _
      rw [set16 _ h2]; rfl
    (conv => whnf)
    have r1 : ((X.set H.length (B16 (k.take 16) 1)).set (H.length + 1) (B16 (k.drop 16) 1))[H.length]? = some (B16 (k.take 16) 1) := by
      rw [List.getElem?_set_ne (by omega)]; exact get_set g1
    have r2 : ((X.set H.length (B16 (k.take 16) 1)).set (H.length + 1) (B16 (k.drop 16) 1))[H.length + 1]? = some (B16 (k.drop 16) 1) := get_set g2'
    ((conv in (_[_]?) => tactic => exact r1); (conv => whnf))
    ((conv in (Nat.ble _ _) => tactic => exact b1); (conv => whnf))
    ((conv in (_[_]?) => tactic => exact r2); (conv => whnf))
    ((conv in (Nat.ble _ _) => tactic => exact b2); (conv => whnf))
    refine ⟨?_, ?_⟩
    · show PV.tup [.agg (((dropN 0 ((k.take 16).map byteC)).take 16).map dem), .agg (((dropN 0 ((k.drop 16).map byteC)).take 16).map dem)] = _
      rw [agg16 _ h1, agg16 _ h2]
    · refine ext_of (by show H.length ≤ ((X.set _ _).set _ _).length; rw [List.length_set, List.length_set]; omega) fun j hj => ?_
      show ((X.set H.length _).set (H.length + 1) _)[j]? = _
      rw [List.getElem?_set_ne (by omega), List.getElem?_set_ne (by omega)]
      exact hfr j hj
theorem c143 (k : List UInt8) (hk : k.length = 32) : Pure prog 143 [.agg (k.map byteC)] (.tup [.agg ((k.take 16).map byteC), .agg ((k.drop 16).map byteC)]) :=
  Pure.of_gc (by show (oldPs ((k.take 16).map byteC) && (oldPs ((k.drop 16).map byteC) && true)) = true; rw [oldPs_bytes, oldPs_bytes]; rfl) fun H => c143x k hk H
end Go.Proofs.Tryz

set_option maxRecDepth 100000
set_option maxHeartbeats 2000000
set_option linter.unusedVariables false
set_option linter.unusedSimpArgs false
namespace Go.Proofs.Tryz
open Go Ps
theorem agg32 (l : List UInt8) (hl : l.length = 32) : ((dropN 0 (l.map byteC)).take 32).map dem = l.map byteC := by
  rw [dropN_eq, List.drop_zero, List.take_of_length_le (by rw [List.length_map]; omega), List.map_map]
  rfl
theorem gA (H : PH) (a b : PObj) : (H ++ [a] ++ [b])[H.length]? = some a := by simp
theorem gB (H : PH) (a b c : PObj) : ((H ++ [a] ++ [b]).set H.length c)[(H ++ [a]).length]? = some b := by
  rw [List.getElem?_set_ne (by simp)]; exact get_last _ b
def D99 : Draw := { cons := [(5, [17])] }
theorem c99x (k : List UInt8) (hk : k.length = 32) (u : Int) (b : List UInt8) (hb : b.length ≤ 900000) (H : PH) : CallOk prog 99 [.agg (k.map byteC), .int .i64 u, sl b] H fun r H' => r = sl (tagV (k.drop 16) u b) ∧ ∃ ext, H' = H ++ ext := by
  have h1 : (k.take 16).length = 16 := by rw [List.length_take]; omega
  have h2 : (k.drop 16).length = 16 := by rw [List.length_drop]; omega
  have q1 : Nat.beq ((k.take 16).map byteC).length 16 = true := by rw [List.length_map, h1]; rfl
  have q2 : Nat.beq ((k.drop 16).map byteC).length 16 = true := by rw [List.length_map, h2]; rfl
  have b2 : Nat.ble 16 (dropN 0 ((k.drop 16).map byteC)).length = true := by rw [Nat.ble_eq, dropN_eq, List.drop_zero, List.length_map, h2]; exact Nat.le_refl _
  have b32 : Nat.ble 32 (dropN 0 (k.map byteC)).length = true := by rw [Nat.ble_eq, dropN_eq, List.drop_zero, List.length_map, hk]; exact Nat.le_refl _
  have hs := set16 (k.drop 16) h2
  have b2' : Nat.ble 16 (dropN 0 (setCells 0 ((k.drop 16).map byteC) ((List.replicate 16 (0 : UInt8)).map byteC))).length = true := by rw [hs]; exact b2
  have e2 : ((dropN 0 (setCells 0 ((k.drop 16).map byteC) ((List.replicate 16 (0 : UInt8)).map byteC))).take 16).map dem = (k.drop 16).map byteC := by rw [hs]; exact agg16 _ h2
  (refine callOk_of_pFun2 (tt := ttQ4) (imm := imm99) follows ttQ4_ok depth6 func99 (by kernel_rfl) ?_; (conv => whnf))
  ((conv in (Nat.ble _ _) => tactic => exact b32); (conv => whnf))
  refine callK_args (congrArg (fun z => [PV.agg z]) (agg32 k hk)) (callK_pure (c143 k hk) ?_)
  (conv => whnf)
  ((conv in (_[_]?) => tactic => exact (gA H _ _)); (conv => whnf))
  (conv in (Nat.beq _ _) => tactic => exact q1)
  (conv => whnf)
  (conv in (List.all _ _) => tactic => exact allOne (k.take 16))
  (conv => whnf)
  ((conv in (_[_]?) => tactic => exact (gB H _ _ _)); (conv => whnf))
  (conv in (Nat.beq _ _) => tactic => exact q2)
  (conv => whnf)
  (conv in (List.all _ _) => tactic => exact allOne (k.drop 16))
  (conv => whnf)
  refine drawK_of2 D99 [_] (by kernel_rfl) rfl trivial ?_
  (conv => whnf)
  refine ⟨.agg ((k.drop 16).map byteC), ?_, ?_⟩
  · (conv => whnf)
    ((conv in (_[_]?) => tactic => exact (get_set (gB H _ _ _))); (conv => whnf))
    ((conv in (Nat.ble _ _) => tactic => exact b2'); (conv => whnf))
    exact ⟨congrArg PV.agg e2, rfl, trivial⟩
  (conv => whnf)
  (apply Exists.intro; apply And.intro; (focus ((conv => whnf); first | exact ⟨rfl, rfl, trivial⟩ | (refine ⟨by omega, ?_⟩; (conv => whnf); exact ⟨rfl, rfl, trivial⟩))); (conv => whnf))
  (apply Exists.intro; apply And.intro; (focus ((conv => whnf); first | exact ⟨rfl, rfl, trivial⟩ | (refine ⟨by omega, ?_⟩; (conv => whnf); exact ⟨rfl, rfl, trivial⟩))); (conv => whnf))
  (apply Exists.intro; apply And.intro; (focus ((conv => whnf); first | exact ⟨rfl, rfl, trivial⟩ | (refine ⟨by omega, ?_⟩; (conv => whnf); exact ⟨rfl, rfl, trivial⟩))); (conv => whnf))
  (apply Exists.intro; apply And.intro; (focus ((conv => whnf); first | exact ⟨rfl, rfl, trivial⟩ | (refine ⟨by omega, ?_⟩; (conv => whnf); exact ⟨rfl, rfl, trivial⟩))); (conv => whnf))
  apply Exists.intro
  apply And.intro
  · (conv => whnf)
    refine ⟨⟨by show (1 + b.length) * 1 ≤ 140737488355328; omega, by rw [List.length_map, Nat.mul_one], allOne b⟩, ?_⟩
    (conv => whnf)
    exact ⟨rfl, rfl, trivial⟩
  (conv => whnf)
  have ea : PV.slice (1 + b.length) ([PV.int .u8 (IntKind.u8.wrap u)] ++ b.map byteC) none = sl (byteI u :: b) := by
    rw [byteC_I, Nat.add_comm]; rfl
  refine ⟨_, callK_args (congrArg (fun z => [PV.agg ((k.drop 16).map byteC), z]) ea) (callK_pure (c146 (k.drop 16) h2 (byteI u :: b) (by show b.length + 1 ≤ _; omega)) ⟨rfl, rfl, trivial⟩), ?_⟩
  (conv => whnf)
  refine ⟨_, callK_pure (c97 _) ⟨rfl, rfl, trivial⟩, ?_⟩
  (conv => whnf)
  (apply Exists.intro; apply And.intro; (focus ((conv => whnf); first | exact ⟨rfl, rfl, trivial⟩ | (refine ⟨by omega, ?_⟩; (conv => whnf); exact ⟨rfl, rfl, trivial⟩))); (conv => whnf))
  exact ⟨rfl, (((Ext.refl H).push _).push _).set (Nat.le_refl _) _ |>.set (by simp) _⟩
theorem c99 (k : List UInt8) (hk : k.length = 32) (u : Int) (b : List UInt8) (hb : b.length ≤ 900000) : Pure prog 99 [.agg (k.map byteC), .int .i64 u, sl b] (sl (tagV (k.drop 16) u b)) :=
  Pure.of_gc (by show oldPs _ = true; exact oldPs_bytes _) fun H => c99x k hk u b hb H
end Go.Proofs.Tryz

set_option maxRecDepth 100000
set_option maxHeartbeats 2000000
set_option linter.unusedVariables false
set_option linter.unusedSimpArgs false
namespace Go.Proofs.Tryz
open Go Ps
def D98_7 : Draw := { cons := [(11, [12]), (12, [46])], fs := [(0, 11, .slot 12)], looks := [(0, 12)] }
theorem mix256 (nn u : Int) : IntKind.u64.wrap (IntKind.u64.wrap (nn * 256) + IntKind.u64.wrap u) = mixN nn u := rfl
theorem xorL_take (p st : List UInt8) (i : Nat) (h : st.length = p.length) (hi : i < p.length) : (xorL p st).take (i + 1) = (xorL p st).take i ++ [p[i] ^^^ st[i]] := by
  have hx : i < (xorL p st).length := by rw [xorL_len p st h]; exact hi
  rw [List.take_succ_eq_append_getElem hx]
  have : ∀ (a b : List UInt8) (h : i < (List.zipWith (· ^^^ ·) a b).length) (ha : i < a.length) (hb : i < b.length), (List.zipWith (· ^^^ ·) a b)[i] = a[i] ^^^ b[i] := fun a b h ha hb => by simp
  rw [show (xorL p st)[i] = p[i] ^^^ st[i] from this p st hx hi (by omega)]
theorem gC (H : PH) (a b c d : PObj) : (((H ++ [a] ++ [b]).set H.length c).set (H ++ [a]).length d)[H.length]? = some c := by
  rw [List.getElem?_set_ne (by simp), List.getElem?_set_self (by simp)]
theorem c98x (k : List UInt8) (hk : k.length = 32) (u nn : Int) (p : List UInt8) (hp : p.length ≤ 900000) (H : PH) : CallOk prog 98 [.agg (k.map byteC), .int .i64 u, .int .u64 nn, sl p] H fun r H' => r = sl (xorL p (streamV (k.take 16) (mixN nn u) p.length)) ∧ ∃ ext, H' = H ++ ext := by
  have h1 : (k.take 16).length = 16 := by rw [List.length_take]; omega
  have h2 : (k.drop 16).length = 16 := by rw [List.length_drop]; omega
  have q1 : Nat.beq ((k.take 16).map byteC).length 16 = true := by rw [List.length_map, h1]; rfl
  have q2 : Nat.beq ((k.drop 16).map byteC).length 16 = true := by rw [List.length_map, h2]; rfl
  have b1 : Nat.ble 16 (dropN 0 ((k.take 16).map byteC)).length = true := by rw [Nat.ble_eq, dropN_eq, List.drop_zero, List.length_map, h1]; exact Nat.le_refl _
  have b32 : Nat.ble 32 (dropN 0 (k.map byteC)).length = true := by rw [Nat.ble_eq, dropN_eq, List.drop_zero, List.length_map, hk]; exact Nat.le_refl _
  have hs := set16 (k.take 16) h1
  have b1' : Nat.ble 16 (dropN 0 (setCells 0 ((k.take 16).map byteC) ((List.replicate 16 (0 : UInt8)).map byteC))).length = true := by rw [hs]; exact b1
  have e1 : ((dropN 0 (setCells 0 ((k.take 16).map byteC) ((List.replicate 16 (0 : UInt8)).map byteC))).take 16).map dem = (k.take 16).map byteC := by rw [hs]; exact agg16 _ h1
  (refine callOk_of_pFun2 (tt := ttQ4) (imm := imm98) follows ttQ4_ok depth6 func98 (by kernel_rfl) ?_; (conv => whnf))
  ((conv in (Nat.ble _ _) => tactic => exact b32); (conv => whnf))
  refine callK_args (congrArg (fun z => [PV.agg z]) (agg32 k hk)) (callK_pure (c143 k hk) ?_)
  (conv => whnf)
  ((conv in (_[_]?) => tactic => exact (gA H _ _)); (conv => whnf))
  (conv in (Nat.beq _ _) => tactic => exact q1)
  (conv => whnf)
  (conv in (List.all _ _) => tactic => exact allOne (k.take 16))
  (conv => whnf)
  ((conv in (_[_]?) => tactic => exact (gB H _ _ _)); (conv => whnf))
  (conv in (Nat.beq _ _) => tactic => exact q2)
  (conv => whnf)
  (conv in (List.all _ _) => tactic => exact allOne (k.drop 16))
  (conv => whnf)
  ((conv in (_[_]?) => tactic => exact (gC H _ _ _ _)); (conv => whnf))
  ((conv in (Nat.ble _ _) => tactic => exact b1'); (conv => whnf))
  refine callK_args (congrArg (fun z => [PV.agg z]) e1) (callK_pure (c145 (k.take 16) h1) ?_)
  (conv => whnf)
  refine callK_args rfl (callK_pure (c144 (k.take 16) (mixN nn u) p.length (by omega)) ?_)
  (conv => whnf)
  generalize hst : streamV (k.take 16) (mixN nn u) p.length = st
  have hl : st.length = p.length := by rw [← hst, streamV_len]
  refine loopK_of Nat (fun i => [(3, sl p), (11, sl st), (12, ow ((xorL p st).take i)), (13, .int .i64 i)]) (fun _ => _) (fun i => i ≤ p.length) (fun i => p.length - i) ⟨0, Nat.zero_le _, ⟨rfl, rfl, rfl, rfl, trivial⟩, rfl⟩ ?_
  intro i hi
  (conv => whnf)
  refine ⟨fun h => ?_, fun h => ?_⟩
  · have h : (i : Int) < p.length := h
    have hip : i < p.length := by omega
    have his : i < st.length := by omega
    (conv => whnf)
    refine drawK_of2 D98_7 [_] (by kernel_rfl) rfl ⟨trivial, trivial⟩ ?_
    (conv => whnf)
    apply Exists.intro
    apply And.intro
    · (conv => whnf)
      exact ⟨rfl, rfl, rfl, trivial⟩
    (conv => whnf)
    (apply Exists.intro; apply And.intro; (focus ((conv => whnf); first | exact ⟨rfl, rfl, trivial⟩ | (refine ⟨by omega, ?_⟩; (conv => whnf); exact ⟨rfl, rfl, trivial⟩))); (conv => whnf))
    (apply Exists.intro; apply And.intro; (focus ((conv => whnf); first | exact ⟨rfl, rfl, trivial⟩ | (refine ⟨by omega, ?_⟩; (conv => whnf); exact ⟨rfl, rfl, trivial⟩))); (conv => whnf))
    refine ⟨.elem [byteC p[i]], ⟨⟨by show (0 : Int) ≤ (i : Int); omega, h⟩, [byteC p[i]], at1' (k := (i : Int).toNat * 1) (by rw [Int.toNat_natCast, Nat.mul_one, List.getElem?_map, List.getElem?_eq_getElem hip]; rfl), rfl, rfl, trivial⟩, ?_⟩
    (conv => whnf)
    (apply Exists.intro; apply And.intro; (focus ((conv => whnf); first | exact ⟨rfl, rfl, trivial⟩ | (refine ⟨by omega, ?_⟩; (conv => whnf); exact ⟨rfl, rfl, trivial⟩))); (conv => whnf))
    (apply Exists.intro; apply And.intro; (focus ((conv => whnf); first | exact ⟨rfl, rfl, trivial⟩ | (refine ⟨by omega, ?_⟩; (conv => whnf); exact ⟨rfl, rfl, trivial⟩))); (conv => whnf))
    (apply Exists.intro; apply And.intro; (focus ((conv => whnf); first | exact ⟨rfl, rfl, trivial⟩ | (refine ⟨by omega, ?_⟩; (conv => whnf); exact ⟨rfl, rfl, trivial⟩))); (conv => whnf))
    refine ⟨.elem [byteC st[i]], ⟨⟨by show (0 : Int) ≤ (i : Int); omega, by show (i : Int) < (st.length : Int); omega⟩, [byteC st[i]], at1' (k := (i : Int).toNat * 1) (by rw [Int.toNat_natCast, Nat.mul_one, List.getElem?_map, List.getElem?_eq_getElem his]; rfl), rfl, rfl, trivial⟩, ?_⟩
    (conv => whnf)
    (apply Exists.intro; apply And.intro; (focus ((conv => whnf); first | exact ⟨rfl, rfl, trivial⟩ | (refine ⟨by omega, ?_⟩; (conv => whnf); exact ⟨rfl, rfl, trivial⟩))); (conv => whnf))
    (apply Exists.intro; apply And.intro; (focus ((conv => whnf); first | exact ⟨rfl, rfl, trivial⟩ | (refine ⟨by omega, ?_⟩; (conv => whnf); exact ⟨rfl, rfl, trivial⟩))); (conv => whnf))
    (apply Exists.intro; apply And.intro; (focus ((conv => whnf); first | exact ⟨rfl, rfl, trivial⟩ | (refine ⟨by omega, ?_⟩; (conv => whnf); exact ⟨rfl, rfl, trivial⟩))); (conv => whnf))
    have hlt : ((xorL p st).take i).length = i := by rw [List.length_take, xorL_len p st hl]; omega
    apply Exists.intro
    apply And.intro
    · (conv => whnf)
      refine ⟨⟨by show (((xorL p st).take i).length + 1) * 1 ≤ 140737488355328; omega, rfl, rfl⟩, ?_⟩
      (conv => whnf)
      exact ⟨rfl, rfl, trivial⟩
    (conv => whnf)
    (apply Exists.intro; apply And.intro; (focus ((conv => whnf); first | exact ⟨rfl, rfl, trivial⟩ | (refine ⟨by omega, ?_⟩; (conv => whnf); exact ⟨rfl, rfl, trivial⟩))); (conv => whnf))
    refine ⟨i + 1, by omega, ⟨rfl, rfl, ?_, ?_, trivial⟩, rfl, by omega⟩
    · show PV.slice (((xorL p st).take i).length + 1) (((xorL p st).take i).map byteC ++ [.int .u8 (ibits .xor .u8 (p[i].toNat : Int) (st[i].toNat : Int))]) (some 5) = ow ((xorL p st).take (i + 1))
      rw [xor8, xorL_take p st i hl hip, ← ow_app]
      rfl
    · show PV.int _ (IntKind.i64.wrap ((i : Int) + 1)) = PV.int _ _
      rw [wrap64 (by omega) (by omega)]; simp
  · have h : ¬ (i : Int) < p.length := h
    have e : (xorL p st).take i = xorL p st := List.take_of_length_le (by rw [xorL_len p st hl]; omega)
    rw [e]
    (conv => whnf)
    exact ⟨rfl, ((((Ext.refl H).push _).push _).set (Nat.le_refl _) _).set (by simp) _⟩
theorem c98 (k : List UInt8) (hk : k.length = 32) (u nn : Int) (p : List UInt8) (hp : p.length ≤ 900000) : Pure prog 98 [.agg (k.map byteC), .int .i64 u, .int .u64 nn, sl p] (sl (xorL p (streamV (k.take 16) (mixN nn u) p.length))) :=
  Pure.of_gc (by show oldPs _ = true; exact oldPs_bytes _) fun H => c98x k hk u nn p hp H
end Go.Proofs.Tryz

set_option maxRecDepth 100000
set_option maxHeartbeats 2000000
set_option linter.unusedVariables false
set_option linter.unusedSimpArgs false
namespace Go.Proofs.Tryz
open Go Ps
def D35 : Draw := { cons := [(9, [32]), (10, [39])] }
theorem c35 (k : List UInt8) (hk : k.length = 32) (u n : Int) (hu : isUseB u = true) (hn0 : 0 ≤ n) (hn1 : n ≤ 1099511627776) (p : List UInt8) (hp : p.length ≤ 784) :
    Pure prog 35 [.agg (k.map byteC), .int .i64 u, .int .i64 n, sl p] (.tup [ow (sealV (k.drop 16) u (IntKind.u64.wrap n) p (streamV (k.take 16) (mixN (IntKind.u64.wrap n) u) p.length)), .int .i64 0]) := by
  intro H
  have hu' : 0 ≤ u ∧ u ≤ 255 := by
    unfold isUseB at hu
    rw [Bool.and_eq_true] at hu
    exact ⟨of_decide_eq_true hu.1, of_decide_eq_true hu.2⟩
  have b32 : Nat.ble 32 (dropN 0 (k.map byteC)).length = true := by rw [Nat.ble_eq, dropN_eq, List.drop_zero, List.length_map, hk]; exact Nat.le_refl _
  (refine callOk_of_pFun2 (tt := ttQ4) (imm := imm35) follows ttQ4_ok depth6 func35 (by kernel_rfl) ?_; (conv => whnf))
  refine ⟨fun h => absurd h (by omega), fun _ => ?_⟩
  (conv => whnf)
  refine ⟨fun h => absurd h (by omega), fun _ => ?_⟩
  (conv => whnf)
  refine ⟨fun h => absurd h (by omega), fun _ => ?_⟩
  (conv => whnf)
  refine ⟨fun h => absurd h (by omega), fun _ => ?_⟩
  (conv => whnf)
  refine ⟨fun h => absurd (show (784 : Int) < p.length from h) (by omega), fun _ => ?_⟩
  (conv => whnf)
  generalize hst : streamV (k.take 16) (mixN (IntKind.u64.wrap n) u) p.length = st
  have hl : st.length = p.length := by rw [← hst, streamV_len]
  have hx := xorL_len p st hl
  refine drawK_of2 D35 [H] (by kernel_rfl) rfl trivial ?_
  (conv => whnf)
  (apply Exists.intro; apply And.intro; (focus ((conv => whnf); first | exact ⟨rfl, rfl, trivial⟩ | (refine ⟨by omega, ?_⟩; (conv => whnf); exact ⟨rfl, rfl, trivial⟩))); (conv => whnf))
  (apply Exists.intro; apply And.intro; (focus ((conv => whnf); first | exact ⟨rfl, rfl, trivial⟩ | (refine ⟨by omega, ?_⟩; (conv => whnf); exact ⟨rfl, rfl, trivial⟩))); (conv => whnf))
  refine ⟨_, callK_pure (c97 _) ⟨rfl, rfl, trivial⟩, ?_⟩
  (conv => whnf)
  refine ⟨.agg (k.map byteC), ?_, ?_⟩
  · (conv => whnf)
    ((conv in (Nat.ble _ _) => tactic => exact b32); (conv => whnf))
    exact ⟨congrArg PV.agg (agg32 k hk), rfl, trivial⟩
  (conv => whnf)
  (apply Exists.intro; apply And.intro; (focus ((conv => whnf); first | exact ⟨rfl, rfl, trivial⟩ | (refine ⟨by omega, ?_⟩; (conv => whnf); exact ⟨rfl, rfl, trivial⟩))); (conv => whnf))
  (apply Exists.intro; apply And.intro; (focus ((conv => whnf); first | exact ⟨rfl, rfl, trivial⟩ | (refine ⟨by omega, ?_⟩; (conv => whnf); exact ⟨rfl, rfl, trivial⟩))); (conv => whnf))
  (apply Exists.intro; apply And.intro; (focus ((conv => whnf); first | exact ⟨rfl, rfl, trivial⟩ | (refine ⟨by omega, ?_⟩; (conv => whnf); exact ⟨rfl, rfl, trivial⟩))); (conv => whnf))
  (apply Exists.intro; apply And.intro; (focus ((conv => whnf); first | exact ⟨rfl, rfl, trivial⟩ | (refine ⟨by omega, ?_⟩; (conv => whnf); exact ⟨rfl, rfl, trivial⟩))); (conv => whnf))
  refine ⟨sl (xorL p st), callK_pure ((c98 k hk u (IntKind.u64.wrap n) p (by omega)).of_eq (by rw [hst])) ⟨rfl, rfl, trivial⟩, ?_⟩
  (conv => whnf)
  apply Exists.intro
  apply And.intro
  · (conv => whnf)
    refine ⟨⟨by show ((8 + (xorL p st).length) * 1 ≤ _); omega, by simp, allOne _⟩, ?_⟩
    (conv => whnf)
    exact ⟨rfl, rfl, trivial⟩
  (conv => whnf)
  (apply Exists.intro; apply And.intro; (focus ((conv => whnf); first | exact ⟨rfl, rfl, trivial⟩ | (refine ⟨by omega, ?_⟩; (conv => whnf); exact ⟨rfl, rfl, trivial⟩))); (conv => whnf))
  ((conv in (Nat.ble _ _) => tactic => exact b32); (conv => whnf))
  have ha : (bigV (IntKind.u64.wrap n) ++ xorL p st).length ≤ 900000 := by rw [List.length_append, bigV_len]; omega
  refine callK_args (args' := [.agg (k.map byteC), .int .i64 u, sl (bigV (IntKind.u64.wrap n) ++ xorL p st)]) ?_ (callK_pure (c99 k hk u _ ha) ?_)
  · have ek : ((k.map byteC).take 32).map dem = k.map byteC := agg32 k hk
    show [PV.agg (((k.map byteC).take 32).map dem), PV.int .i64 u, PV.slice ((bigV (IntKind.u64.wrap n)).length + (xorL p st).length) ((bigV (IntKind.u64.wrap n)).map byteC ++ (xorL p st).map byteC) none] = _
    rw [ek]
    unfold sl
    rw [List.length_append, List.map_append]
  (conv => whnf)
  refine ⟨⟨by show ((8 + (xorL p st).length + 8) * 1 ≤ _); omega, by simp, allOne _⟩, ?_⟩
  (conv => whnf)
  refine ⟨?_, rfl⟩
  show PV.tup [.slice ((bigV (IntKind.u64.wrap n)).length + (xorL p st).length + (tagV (k.drop 16) u (bigV (IntKind.u64.wrap n) ++ xorL p st)).length) (((bigV (IntKind.u64.wrap n)).map byteC ++ (xorL p st).map byteC) ++ (tagV (k.drop 16) u (bigV (IntKind.u64.wrap n) ++ xorL p st)).map byteC) (some 5), .int .i64 0] = _
  rw [← List.length_append, ← List.map_append, ow_app]
  rfl
end Go.Proofs.Tryz

set_option maxRecDepth 100000
set_option maxHeartbeats 2000000
set_option linter.unusedVariables false
set_option linter.unusedSimpArgs false
namespace Go.Proofs.Tryz
open Go Ps
theorem c46o (k : List UInt8) (hk : k.length = 32) (u : Int) (hu : isUseB u = true) (b : List UInt8) (h16 : 16 ≤ b.length) (h800 : b.length ≤ 800) (H : PH) :
    CallOk prog 46 [.agg (k.map byteC), .int .i64 u, sl b] H fun x H' => (match openB (k.drop 16) u b with
      | true => x = .tup [sl (xorL ((b.take (b.length - 8)).drop 8) (streamV (k.take 16) (mixN (beN (b.take 8) : Nat) u) (b.length - 16))), .int .i64 0]
      | false => x = .tup [ow [], .int .i64 3]) ∧ H' = H := by
  have hu' : 0 ≤ u ∧ u ≤ 255 := by
    unfold isUseB at hu
    rw [Bool.and_eq_true] at hu
    exact ⟨of_decide_eq_true hu.1, of_decide_eq_true hu.2⟩
  have b32 : Nat.ble 32 (dropN 0 (k.map byteC)).length = true := by rw [Nat.ble_eq, dropN_eq, List.drop_zero, List.length_map, hk]; exact Nat.le_refl _
  have hw8 : IntKind.i64.wrap ((b.length : Int) - 8) = ((b.length - 8 : Nat) : Int) := by rw [wrap64 (by omega) (by omega)]; omega
  have hfst : decide (16 ≤ b.length) = true := decide_eq_true h16
  have hsnd : decide (b.length ≤ 800) = true := decide_eq_true h800
  have hal : (b.take (b.length - 8)).length = b.length - 8 := by rw [List.length_take]; omega
  have hpl : ((b.take (b.length - 8)).drop 8).length = b.length - 16 := by rw [List.length_drop, hal]; omega
  (refine callOk_of_pFun2 (tt := ttQ4) (imm := imm46) follows ttQ4_ok depth6 func46 (by kernel_rfl) ?_; (conv => whnf))
  refine ⟨fun h => absurd h (by omega), fun _ => ?_⟩
  (conv => whnf)
  refine ⟨fun h => absurd h (by omega), fun _ => ?_⟩
  (conv => whnf)
  refine ⟨fun h => absurd (show (b.length : Int) < 16 from h) (by omega), fun _ => ?_⟩
  (conv => whnf)
  refine ⟨fun h => absurd (show (800 : Int) < b.length from h) (by omega), fun _ => ?_⟩
  (conv => whnf)
  refine callK_pure (c109 b (by omega)) ?_
  (conv => whnf)
  refine drawK_of2 {} [H] (by kernel_rfl) rfl trivial ?_
  (conv => whnf)
  (apply Exists.intro; apply And.intro; (focus ((conv => whnf); first | exact ⟨rfl, rfl, trivial⟩ | (refine ⟨by omega, ?_⟩; (conv => whnf); exact ⟨rfl, rfl, trivial⟩))); (conv => whnf))
  by_cases hn : beN (b.take 8) ≤ 1099511627776
  · refine ⟨.bool false, ?_, ?_⟩
    · (conv => whnf)
      exact ⟨fun h => absurd (show (1099511627776 : Int) < ((beN (b.take 8) : Nat) : Int) from h) (by omega), fun _ => ⟨rfl, rfl, trivial⟩⟩
    (conv => whnf)
    (apply Exists.intro; apply And.intro; (focus ((conv => whnf); first | exact ⟨rfl, rfl, trivial⟩ | (refine ⟨by omega, ?_⟩; (conv => whnf); exact ⟨rfl, rfl, trivial⟩))); (conv => whnf))
    refine ⟨.agg (k.map byteC), ?_, ?_⟩
    · (conv => whnf)
      ((conv in (Nat.ble _ _) => tactic => exact b32); (conv => whnf))
      exact ⟨congrArg PV.agg (agg32 k hk), rfl, trivial⟩
    (conv => whnf)
    (apply Exists.intro; apply And.intro; (focus ((conv => whnf); first | exact ⟨rfl, rfl, trivial⟩ | (refine ⟨by omega, ?_⟩; (conv => whnf); exact ⟨rfl, rfl, trivial⟩))); (conv => whnf))
    (apply Exists.intro; apply And.intro; (focus ((conv => whnf); first | exact ⟨rfl, rfl, trivial⟩ | (refine ⟨by omega, ?_⟩; (conv => whnf); exact ⟨rfl, rfl, trivial⟩))); (conv => whnf))
    refine ⟨.int .i64 ((b.length - 8 : Nat) : Int), ⟨congrArg (PV.int _) hw8, rfl, trivial⟩, ?_⟩
    (conv => whnf)
    refine ⟨sl ((b.take (b.length - 8)).drop 0), ⟨⟨by omega, by omega, by omega⟩, sl_cut2 b 0 ((b.length - 8 : Nat) : Int) ⟨by omega, by omega, by omega⟩, rfl, trivial⟩, ?_⟩
    (conv => whnf)
    refine ⟨_, callK_pure (c99 k hk u (b.take (b.length - 8)) (by omega)) ⟨rfl, rfl, trivial⟩, ?_⟩
    (conv => whnf)
    refine ⟨.str (tagV (k.drop 16) u (b.take (b.length - 8))), ⟨tagV (k.drop 16) u (b.take (b.length - 8)), ⟨rfl, rfl⟩, rfl, rfl, trivial⟩, ?_⟩
    (conv => whnf)
    (apply Exists.intro; apply And.intro; (focus ((conv => whnf); first | exact ⟨rfl, rfl, trivial⟩ | (refine ⟨by omega, ?_⟩; (conv => whnf); exact ⟨rfl, rfl, trivial⟩))); (conv => whnf))
    refine ⟨.int .i64 ((b.length - 8 : Nat) : Int), ⟨congrArg (PV.int _) hw8, rfl, trivial⟩, ?_⟩
    (conv => whnf)
    refine ⟨sl ((b.take b.length).drop (b.length - 8)), ⟨⟨by omega, by omega, by omega⟩, sl_cut2 b ((b.length - 8 : Nat) : Int) (b.length : Int) ⟨by omega, by omega, by omega⟩, rfl, trivial⟩, ?_⟩
    (conv => whnf)
    refine ⟨.str ((b.take b.length).drop (b.length - 8)), ⟨(b.take b.length).drop (b.length - 8), ⟨rfl, rfl⟩, rfl, rfl, trivial⟩, ?_⟩
    rw [List.take_length]
    (conv => whnf)
    by_cases hq : tagV (k.drop 16) u (b.take (b.length - 8)) = b.drop (b.length - 8)
    · have hop : openB (k.drop 16) u b = true := by unfold openB; rw [hfst, hsnd, decide_eq_true hn, decide_eq_true hq]; rfl
      rw [hop]
      refine ⟨.bool false, ?_, ?_⟩
      · (conv => whnf)
        exact ⟨fun _ => ⟨rfl, rfl, trivial⟩, fun h => absurd hq h⟩
      (conv => whnf)
      (apply Exists.intro; apply And.intro; (focus ((conv => whnf); first | exact ⟨rfl, rfl, trivial⟩ | (refine ⟨by omega, ?_⟩; (conv => whnf); exact ⟨rfl, rfl, trivial⟩))); (conv => whnf))
      refine drawK_of2 {} [H] (by kernel_rfl) rfl trivial ?_
      (conv => whnf)
      refine ⟨.agg (k.map byteC), ?_, ?_⟩
      · (conv => whnf)
        ((conv in (Nat.ble _ _) => tactic => exact b32); (conv => whnf))
        exact ⟨congrArg PV.agg (agg32 k hk), rfl, trivial⟩
      (conv => whnf)
      (apply Exists.intro; apply And.intro; (focus ((conv => whnf); first | exact ⟨rfl, rfl, trivial⟩ | (refine ⟨by omega, ?_⟩; (conv => whnf); exact ⟨rfl, rfl, trivial⟩))); (conv => whnf))
      (apply Exists.intro; apply And.intro; (focus ((conv => whnf); first | exact ⟨rfl, rfl, trivial⟩ | (refine ⟨by omega, ?_⟩; (conv => whnf); exact ⟨rfl, rfl, trivial⟩))); (conv => whnf))
      (apply Exists.intro; apply And.intro; (focus ((conv => whnf); first | exact ⟨rfl, rfl, trivial⟩ | (refine ⟨by omega, ?_⟩; (conv => whnf); exact ⟨rfl, rfl, trivial⟩))); (conv => whnf))
      refine ⟨.int .i64 ((b.length - 8 : Nat) : Int), ⟨congrArg (PV.int _) hw8, rfl, trivial⟩, ?_⟩
      (conv => whnf)
      refine ⟨sl ((b.take (b.length - 8)).drop 8), ⟨⟨by omega, by omega, by omega⟩, sl_cut2 b 8 ((b.length - 8 : Nat) : Int) ⟨by omega, by omega, by omega⟩, rfl, trivial⟩, ?_⟩
      (conv => whnf)
      refine ⟨_, callK_pure ((c98 k hk u (beN (b.take 8) : Nat) ((b.take (b.length - 8)).drop 8) (by omega)).of_eq (by rw [hpl])) ⟨rfl, rfl, trivial⟩, ?_⟩
      (conv => whnf)
      (apply Exists.intro; apply And.intro; (focus ((conv => whnf); first | exact ⟨rfl, rfl, trivial⟩ | (refine ⟨by omega, ?_⟩; (conv => whnf); exact ⟨rfl, rfl, trivial⟩))); (conv => whnf))
      (apply Exists.intro; apply And.intro; (focus ((conv => whnf); first | exact ⟨rfl, rfl, trivial⟩ | (refine ⟨by omega, ?_⟩; (conv => whnf); exact ⟨rfl, rfl, trivial⟩))); (conv => whnf))
      exact ⟨rfl, rfl⟩
    · have hop : openB (k.drop 16) u b = false := by unfold openB; rw [decide_eq_false hq, Bool.and_false]
      rw [hop]
      refine ⟨.bool true, ?_, ?_⟩
      · (conv => whnf)
        exact ⟨fun h => absurd h hq, fun _ => ⟨rfl, rfl, trivial⟩⟩
      (conv => whnf)
      (apply Exists.intro; apply And.intro; (focus ((conv => whnf); first | exact ⟨rfl, rfl, trivial⟩ | (refine ⟨by omega, ?_⟩; (conv => whnf); exact ⟨rfl, rfl, trivial⟩))); (conv => whnf))
      exact ⟨rfl, rfl⟩
  · have hop : openB (k.drop 16) u b = false := by unfold openB; rw [decide_eq_false hn, Bool.and_false, Bool.false_and]
    rw [hop]
    refine ⟨.bool true, ?_, ?_⟩
    · (conv => whnf)
      exact ⟨fun _ => ⟨rfl, rfl, trivial⟩, fun h => absurd (show (1099511627776 : Int) < ((beN (b.take 8) : Nat) : Int) by omega) h⟩
    (conv => whnf)
    (apply Exists.intro; apply And.intro; (focus ((conv => whnf); first | exact ⟨rfl, rfl, trivial⟩ | (refine ⟨by omega, ?_⟩; (conv => whnf); exact ⟨rfl, rfl, trivial⟩))); (conv => whnf))
    (apply Exists.intro; apply And.intro; (focus ((conv => whnf); first | exact ⟨rfl, rfl, trivial⟩ | (refine ⟨by omega, ?_⟩; (conv => whnf); exact ⟨rfl, rfl, trivial⟩))); (conv => whnf))
    (apply Exists.intro; apply And.intro; (focus ((conv => whnf); first | exact ⟨rfl, rfl, trivial⟩ | (refine ⟨by omega, ?_⟩; (conv => whnf); exact ⟨rfl, rfl, trivial⟩))); (conv => whnf))
    (apply Exists.intro; apply And.intro; (focus ((conv => whnf); first | exact ⟨rfl, rfl, trivial⟩ | (refine ⟨by omega, ?_⟩; (conv => whnf); exact ⟨rfl, rfl, trivial⟩))); (conv => whnf))
    (apply Exists.intro; apply And.intro; (focus ((conv => whnf); first | exact ⟨rfl, rfl, trivial⟩ | (refine ⟨by omega, ?_⟩; (conv => whnf); exact ⟨rfl, rfl, trivial⟩))); (conv => whnf))
    (apply Exists.intro; apply And.intro; (focus ((conv => whnf); first | exact ⟨rfl, rfl, trivial⟩ | (refine ⟨by omega, ?_⟩; (conv => whnf); exact ⟨rfl, rfl, trivial⟩))); (conv => whnf))
    (apply Exists.intro; apply And.intro; (focus ((conv => whnf); first | exact ⟨rfl, rfl, trivial⟩ | (refine ⟨by omega, ?_⟩; (conv => whnf); exact ⟨rfl, rfl, trivial⟩))); (conv => whnf))
    (apply Exists.intro; apply And.intro; (focus ((conv => whnf); first | exact ⟨rfl, rfl, trivial⟩ | (refine ⟨by omega, ?_⟩; (conv => whnf); exact ⟨rfl, rfl, trivial⟩))); (conv => whnf))
    (apply Exists.intro; apply And.intro; (focus ((conv => whnf); first | exact ⟨rfl, rfl, trivial⟩ | (refine ⟨by omega, ?_⟩; (conv => whnf); exact ⟨rfl, rfl, trivial⟩))); (conv => whnf))
    (apply Exists.intro; apply And.intro; (focus ((conv => whnf); first | exact ⟨rfl, rfl, trivial⟩ | (refine ⟨by omega, ?_⟩; (conv => whnf); exact ⟨rfl, rfl, trivial⟩))); (conv => whnf))
    (apply Exists.intro; apply And.intro; (focus ((conv => whnf); first | exact ⟨rfl, rfl, trivial⟩ | (refine ⟨by omega, ?_⟩; (conv => whnf); exact ⟨rfl, rfl, trivial⟩))); (conv => whnf))
    (apply Exists.intro; apply And.intro; (focus ((conv => whnf); first | exact ⟨rfl, rfl, trivial⟩ | (refine ⟨by omega, ?_⟩; (conv => whnf); exact ⟨rfl, rfl, trivial⟩))); (conv => whnf))
    (apply Exists.intro; apply And.intro; (focus ((conv => whnf); first | exact ⟨rfl, rfl, trivial⟩ | (refine ⟨by omega, ?_⟩; (conv => whnf); exact ⟨rfl, rfl, trivial⟩))); (conv => whnf))
    (apply Exists.intro; apply And.intro; (focus ((conv => whnf); first | exact ⟨rfl, rfl, trivial⟩ | (refine ⟨by omega, ?_⟩; (conv => whnf); exact ⟨rfl, rfl, trivial⟩))); (conv => whnf))
    exact ⟨rfl, rfl⟩
end Go.Proofs.Tryz

set_option maxRecDepth 100000
set_option maxHeartbeats 1000000
set_option linter.unusedVariables false
set_option linter.unusedSimpArgs false
namespace Go.Proofs.Tryz
open Go Ps
/-! How the heap goes on while boxes seal and open. -/
theorem byteC_inj {a b : UInt8} (h : byteC a = byteC b) : a = b := by
  have h : PV.int .u8 (a.toNat : Int) = PV.int .u8 (b.toNat : Int) := h
  injection h with _ h
  exact (byte_int a b).1 h
theorem map_byteC_inj : ∀ {a b : List UInt8}, a.map byteC = b.map byteC → a = b
  | [], [], _ => rfl
  | [], _ :: _, h => by simp at h
  | _ :: _, [], h => by simp at h
  | x :: a, y :: b, h => by
    rw [List.map_cons, List.map_cons] at h
    injection h with h1 h2
    rw [byteC_inj h1, map_byteC_inj h2]
theorem keyO_take {k : List UInt8} (hk : k.length = 16) (d m s : Int) (l : List Int) (md : Int) (v : Nat) : (keyO k d m s l md v).cs.take 16 = k.map byteC := by
  show List.take 16 ((k.map byteC ++ [.int .u32 d, .int .i32 m, .int .u32 s]) ++ l.map u32C ++ [.int .u32 md]) = _
  rw [List.append_assoc, List.append_assoc, List.take_append_of_le_length (by simp [hk]), List.take_of_length_le (by simp [hk])]
theorem KeySt.take {k : List UInt8} {o : PObj} (h : KeySt k o) (hk : k.length = 16) : o.cs.take 16 = k.map byteC := by
  rcases h with ⟨v, rfl⟩ | ⟨v, rfl⟩
  · exact keyO_take hk ..
  · exact keyO_take hk ..
def keyT : Nat := (keyO [] 0 0 0 [] 0 0).T
def boxT : Nat := (boxS 0 [] 0 0 0 0).T
theorem KeySt.T {k : List UInt8} {o : PObj} (h : KeySt k o) : o.T = keyT := by rcases h with ⟨v, rfl⟩ | ⟨v, rfl⟩ <;> rfl
theorem key_box : keyT ≠ boxT := by decide
theorem boxS_inj {sid sid' : Nat} {sp sp' : List UInt8} {s o r s' o' r' : Int} {v v' : Nat} (h : boxS sid sp s o r v = boxS sid' sp' s' o' r' v') : sid = sid' ∧ sp = sp' := by
  have h : [PV.ptr (some (sid, 0))] ++ sp.map byteC ++ [.int .i64 s, .int .i64 o, .int .i64 r] = [PV.ptr (some (sid', 0))] ++ sp'.map byteC ++ [.int .i64 s', .int .i64 o', .int .i64 r'] := congrArg PObj.cs h
  have h1 := (List.append_inj' h rfl).1
  have h2 : PV.ptr (some (sid, 0)) :: sp.map byteC = PV.ptr (some (sid', 0)) :: sp'.map byteC := h1
  injection h2 with h3 h4
  injection h3 with h3
  injection h3 with h3
  injection h3 with h3 _
  exact ⟨h3, map_byteC_inj h4⟩
/-- A Box of a key. -/
def BoxAt (H : PH) (bid : Nat) (key : List UInt8) : Prop := key.length = 32 ∧ ∃ sid s o r v so, H[bid]? = some (boxS sid (key.drop 16) s o r v) ∧ H[sid]? = some so ∧ KeySt (key.take 16) so
/-- The heap goes on: boxes stay boxes of their keys; all else stays, but what S names. -/
structure Evo (S : Nat → Prop) (H H' : PH) : Prop where
  len : H.length ≤ H'.length
  box : ∀ bid key, BoxAt H bid key → BoxAt H' bid key
  same : ∀ (id : Nat) (o : PObj), H[id]? = some o → ¬ S id → o.T ≠ keyT → o.T ≠ boxT → H'[id]? = some o
theorem Evo.refl {S : Nat → Prop} (H : PH) : Evo S H H := ⟨Nat.le_refl _, fun _ _ h => h, fun _ _ h _ _ _ => h⟩
theorem Evo.trans {S : Nat → Prop} {H H1 H2 : PH} (h : Evo S H H1) (k : Evo S H1 H2) : Evo S H H2 :=
  ⟨Nat.le_trans h.len k.len, fun b key hb => k.box b key (h.box b key hb), fun id o ho hs h1 h2 => k.same id o (h.same id o ho hs h1 h2) hs h1 h2⟩
theorem Evo.mono {S S' : Nat → Prop} {H H' : PH} (h : Evo S H H') (hs : ∀ id, S id → S' id) : Evo S' H H' := ⟨h.len, h.box, fun id o ho hn => h.same id o ho fun hh => hn (hs id hh)⟩
theorem Evo.app {S : Nat → Prop} (H l : PH) : Evo S H (H ++ l) :=
  have g : ∀ (id : Nat) (o : PObj), H[id]? = some o → (H ++ l)[id]? = some o := fun id o h => by rw [List.getElem?_append_left (List.getElem?_eq_some_iff.1 h).1]; exact h
  ⟨by simp, fun b key ⟨hk, sid, s, o, r, v, so, h1, h2, h3⟩ => ⟨hk, sid, s, o, r, v, so, g _ _ h1, g _ _ h2, h3⟩, fun id o h _ _ _ => g id o h⟩
theorem Evo.setBox {S : Nat → Prop} {H : PH} {bid sid : Nat} {sp : List UInt8} {s o r : Int} {v : Nat} (h : H[bid]? = some (boxS sid sp s o r v)) (s' o' r' : Int) (v' : Nat) : Evo S H (H.set bid (boxS sid sp s' o' r' v')) := by
  refine ⟨by simp, fun b key ⟨hk, sid2, s2, o2, r2, v2, so, h1, h2, h3⟩ => ?_, fun id x hx _ _ hb => ?_⟩
  · have hne : bid ≠ sid2 := fun e => by
      subst e
      rw [h] at h2; cases h2
      exact key_box h3.T.symm
    by_cases e : bid = b
    · subst e
      rw [h] at h1
      obtain ⟨rfl, rfl⟩ := boxS_inj (Option.some.inj h1)
      exact ⟨hk, sid, s', o', r', v', so, get_set h, by rw [List.getElem?_set_ne hne]; exact h2, h3⟩
    · exact ⟨hk, sid2, s2, o2, r2, v2, so, by rw [List.getElem?_set_ne e]; exact h1, by rw [List.getElem?_set_ne hne]; exact h2, h3⟩
  · have e : bid ≠ id := fun e => by
      subst e
      rw [h] at hx; cases hx
      exact hb rfl
    rw [List.getElem?_set_ne e]; exact hx
theorem Evo.setKey {S : Nat → Prop} {H : PH} {sid : Nat} {k : List UInt8} {so so' : PObj} (h : H[sid]? = some so) (hk : k.length = 16) (h1 : KeySt k so) (h2 : KeySt k so') : Evo S H (H.set sid so') := by
  refine ⟨by simp, fun b key ⟨hkl, sid2, s2, o2, r2, v2, so2, g1, g2, g3⟩ => ?_, fun id x hx _ hb _ => ?_⟩
  · have hne : sid ≠ b := fun e => by
      subst e
      rw [h] at g1; cases g1
      exact key_box h1.T.symm
    by_cases e : sid = sid2
    · subst e
      rw [h] at g2; cases g2
      have e2 : k = key.take 16 := map_byteC_inj ((h1.take hk).symm.trans (g3.take (by simp [hkl])))
      subst e2
      exact ⟨hkl, sid, s2, o2, r2, v2, so', by rw [List.getElem?_set_ne hne]; exact g1, get_set h, h2⟩
    · exact ⟨hkl, sid2, s2, o2, r2, v2, so2, by rw [List.getElem?_set_ne hne]; exact g1, by rw [List.getElem?_set_ne e]; exact g2, g3⟩
  · have e : sid ≠ id := fun e => by
      subst e
      rw [h] at hx; cases hx
      exact hb h1.T
    rw [List.getElem?_set_ne e]; exact hx
theorem Evo.setOther {S : Nat → Prop} {H : PH} {id : Nat} {o o' : PObj} (h : H[id]? = some o) (hs : S id) (h1 : o.T ≠ keyT) (h2 : o.T ≠ boxT) : Evo S H (H.set id o') := by
  refine ⟨by simp, fun b key ⟨hkl, sid2, s2, o2, r2, v2, so2, g1, g2, g3⟩ => ?_, fun id2 x hx hn _ _ => ?_⟩
  · have e1 : id ≠ b := fun e => by
      subst e
      rw [h] at g1; cases g1
      exact h2 rfl
    have e2 : id ≠ sid2 := fun e => by
      subst e
      rw [h] at g2; cases g2
      exact h1 g3.T
    exact ⟨hkl, sid2, s2, o2, r2, v2, so2, by rw [List.getElem?_set_ne e1]; exact g1, by rw [List.getElem?_set_ne e2]; exact g2, g3⟩
  · have e : id ≠ id2 := fun e => hn (e ▸ hs)
    rw [List.getElem?_set_ne e]; exact hx
/-! What is sealed, and opened. -/
def sealK (key : List UInt8) (u n : Int) (p : List UInt8) : List UInt8 := sealV (key.drop 16) u (IntKind.u64.wrap n) p (streamV (key.take 16) (mixN (IntKind.u64.wrap n) u) p.length)
def openK (key : List UInt8) (u : Int) (b : List UInt8) : Option (List UInt8) := match openB (key.drop 16) u b with
  | true => some (xorL ((b.take (b.length - 8)).drop 8) (streamV (key.take 16) (mixN (beN (b.take 8) : Nat) u) (b.length - 16)))
  | false => none
def openV (key : List UInt8) (u : Int) (b : List UInt8) : PV := match openK key u b with
  | some p => .tup [sl p, .int .i64 0]
  | none => .tup [sl [], .int .i64 3]
theorem sealAt {H : PH} {bid : Nat} {key : List UInt8} (hb : BoxAt H bid key) (u n : Int) (hu : isUseB u = true) (hn0 : 0 ≤ n) (hn1 : n ≤ 1099511627776) (p : List UInt8) (hp : p.length ≤ 784) :
    CallOk prog 34 [.ptr (some (bid, 0)), .int .i64 u, .int .i64 n, sl p] H fun x H' => x = .tup [ow (sealK key u n p), .int .i64 0] ∧ Evo (fun _ => False) H H' ∧ H'.length = H.length := by
  obtain ⟨hk, sid, s, o, r, v, so, h1, h2, h3⟩ := hb
  have hne : bid ≠ sid := fun e => by
    subst e
    rw [h1] at h2; cases h2
    exact key_box h3.T.symm
  have hk16 : (key.take 16).length = 16 := by simp [hk]
  refine (c34 (KeySt (key.take 16)) (fun o' h => h.flat) so sid n u hu hn0 hn1 p (streamV (key.take 16) (mixN (IntKind.u64.wrap n) u) p.length) (streamV_len _ _ _) hp
    (fun H' hs => c141 wordsOk (key.take 16) hk16 sid _ p.length (by omega) so h3 H' hs) (key.drop 16) (by simp [hk]) s o r v bid H h1 h2 hne).mono fun x H' hh => ?_
  obtain ⟨rfl, o', ho', rfl⟩ := hh
  refine ⟨rfl, (Evo.setBox h1 (IntKind.i64.wrap (s + 1)) o r (v + 1)).trans (Evo.setKey (k := key.take 16) (so := so) (by rw [List.getElem?_set_ne hne]; exact h2) hk16 h3 ho'), by simp⟩
theorem openAt {H : PH} {bid : Nat} {key : List UInt8} (hb : BoxAt H bid key) (u : Int) (hu : isUseB u = true) (b : List UInt8) :
    CallOk prog 45 [.ptr (some (bid, 0)), .int .i64 u, sl b] H fun x H' => x = openV key u b ∧ Evo (fun _ => False) H H' ∧ H'.length = H.length := by
  obtain ⟨hk, sid, s, o, r, v, so, h1, h2, h3⟩ := hb
  have hne : bid ≠ sid := fun e => by
    subst e
    rw [h1] at h2; cases h2
    exact key_box h3.T.symm
  have hk16 : (key.take 16).length = 16 := by simp [hk]
  unfold openV openK
  by_cases hl : 16 ≤ b.length ∧ b.length ≤ 800
  · refine (c45o (key.take 16) hk16 so h3 sid u hu b (key.drop 16) (by simp [hk]) s o r v bid H h1 h2 hne hl.1 hl.2).demT fun x H' hh => ?_
    cases e : openB (key.drop 16) u b
    · rw [e] at hh
      obtain ⟨rfl, rfl⟩ := hh
      exact ⟨_, rfl, rfl, Evo.setBox h1 _ _ _ _, by simp⟩
    · rw [e] at hh
      obtain ⟨rfl, o', ho', rfl⟩ := hh
      exact ⟨_, rfl, rfl, (Evo.setBox h1 s (IntKind.i64.wrap (o + 1)) r (v + 1)).trans (Evo.setKey (k := key.take 16) (so := so) (by rw [List.getElem?_set_ne hne]; exact h2) hk16 h3 ho'), by simp⟩
  · have e : openB (key.drop 16) u b = false := by
      unfold openB
      by_cases h16 : 16 ≤ b.length
      · rw [decide_eq_false (p := b.length ≤ 800) (fun h => hl ⟨h16, h⟩), Bool.and_false, Bool.false_and, Bool.false_and]
      · rw [decide_eq_false h16, Bool.false_and, Bool.false_and, Bool.false_and]
    rw [e]
    refine (c45z u hu b (by omega) sid (key.drop 16) (by simp [hk]) s o r v bid H h1).demT fun x H' hh => ?_
    obtain ⟨rfl, rfl⟩ := hh
    exact ⟨_, rfl, rfl, Evo.setBox h1 _ _ _ _, by simp⟩
/-- Opening what was sealed. -/
theorem beN_bigV (n : Nat) (hn : n ≤ 1099511627776) : beN (bigV (n : Int)) = n := by
  have e : ∀ k : Nat, k ≤ 56 → (byteI (ishr .u64 (n : Int) k)).toNat = n / 2 ^ k % 256 := fun k hk => by
    have h1 : ishr .u64 (n : Int) k = ((n / 2 ^ k : Nat) : Int) := by
      show Int.fdiv (n : Int) (2 ^ (min (k : Int).toNat 64)) = _
      rw [Int.toNat_natCast, Nat.min_eq_left (by omega), show ((2 : Int) ^ k) = ((2 ^ k : Nat) : Int) by push_cast; rfl]
      rw [Int.fdiv_eq_ediv_of_nonneg _ (Int.natCast_nonneg _)]
      rfl
    rw [h1]
    unfold byteI
    rw [UInt8.toNat_ofNat']
    omega
  have e56 := e 56 (by decide)
  have e48 := e 48 (by decide)
  have e40 := e 40 (by decide)
  have e32 := e 32 (by decide)
  have e24 := e 24 (by decide)
  have e16 := e 16 (by decide)
  have e8 := e 8 (by decide)
  have e0 := e 0 (by decide)
  show ((((((((0 * 256 + (byteI (ishr .u64 (n : Int) 56)).toNat) * 256 + (byteI (ishr .u64 (n : Int) 48)).toNat) * 256 + (byteI (ishr .u64 (n : Int) 40)).toNat) * 256 + (byteI (ishr .u64 (n : Int) 32)).toNat) * 256 + (byteI (ishr .u64 (n : Int) 24)).toNat) * 256 + (byteI (ishr .u64 (n : Int) 16)).toNat) * 256 + (byteI (ishr .u64 (n : Int) 8)).toNat) * 256 + (byteI (ishr .u64 (n : Int) 0)).toNat) = n
  simp only [show ((56 : Nat) : Int) = 56 from rfl, show ((48 : Nat) : Int) = 48 from rfl, show ((40 : Nat) : Int) = 40 from rfl, show ((32 : Nat) : Int) = 32 from rfl, show ((24 : Nat) : Int) = 24 from rfl, show ((16 : Nat) : Int) = 16 from rfl, show ((8 : Nat) : Int) = 8 from rfl, show ((0 : Nat) : Int) = 0 from rfl] at e56 e48 e40 e32 e24 e16 e8 e0
  rw [e56, e48, e40, e32, e24, e16, e8, e0]
  omega
theorem xorL_xorL : ∀ (p st : List UInt8), st.length = p.length → xorL (xorL p st) st = p
  | [], _, _ => by simp [xorL]
  | x :: p, [], h => by simp at h
  | x :: p, y :: st, h => by
    have ih := xorL_xorL p st (by simpa using h)
    show ((x ^^^ y) ^^^ y) :: xorL (xorL p st) st = x :: p
    rw [ih]
    congr 1
    rw [UInt8.xor_assoc, UInt8.xor_self, UInt8.xor_zero]
theorem sealV_len (sp : List UInt8) (u nn : Int) (p st : List UInt8) (h : st.length = p.length) : (sealV sp u nn p st).length = p.length + 16 := by
  unfold sealV tagV
  rw [List.length_append, List.length_append, bigV_len, bigV_len, xorL_len p st h]; omega
theorem sealK_len (key : List UInt8) (u n : Int) (p : List UInt8) : (sealK key u n p).length = p.length + 16 := sealV_len _ _ _ _ _ (streamV_len _ _ _)
theorem sealK_head (key : List UInt8) (u n : Int) (p : List UInt8) : (sealK key u n p).take 8 = bigV (IntKind.u64.wrap n) := by
  unfold sealK sealV
  rw [List.append_assoc, List.take_append_of_le_length (by rw [bigV_len]; omega), List.take_of_length_le (by rw [bigV_len]; omega)]
theorem open_seal (key : List UInt8) (u n : Int) (p : List UInt8) (hn0 : 0 ≤ n) (hn1 : n ≤ 1099511627776) (hp : p.length ≤ 784) : openK key u (sealK key u n p) = some p := by
  obtain ⟨m, rfl⟩ : ∃ m : Nat, n = m := ⟨n.toNat, by omega⟩
  have hw : IntKind.u64.wrap (m : Int) = (m : Int) := wrapU64 (by omega)
  have hlen := sealK_len key u m p
  have hhead := sealK_head key u m p
  rw [hw] at hhead
  have hst := streamV_len (key.take 16) (mixN (IntKind.u64.wrap (m : Int)) u) p.length
  generalize hS : streamV (key.take 16) (mixN (IntKind.u64.wrap (m : Int)) u) p.length = st at hst
  have hx := xorL_len p st hst
  have hbody : (sealK key u m p).take ((sealK key u m p).length - 8) = bigV (m : Int) ++ xorL p st := by
    rw [hlen]
    unfold sealK sealV
    rw [hw] at hS ⊢
    rw [hS, List.take_append_of_le_length (by rw [List.length_append, bigV_len]; omega), List.take_of_length_le (by rw [List.length_append, bigV_len]; omega)]
  have htag : (sealK key u m p).drop ((sealK key u m p).length - 8) = tagV (key.drop 16) u (bigV (m : Int) ++ xorL p st) := by
    rw [hlen]
    unfold sealK sealV
    rw [hw] at hS ⊢
    rw [hS]
    have e : p.length + 16 - 8 = (bigV (m : Int) ++ xorL p st).length := by rw [List.length_append, bigV_len]; omega
    rw [e, List.drop_left]
  have hop : openB (key.drop 16) u (sealK key u m p) = true := by
    unfold openB
    rw [hhead, hbody, htag, decide_eq_true (by omega), decide_eq_true (by omega), beN_bigV m (by omega), decide_eq_true (by omega), decide_eq_true rfl]; rfl
  unfold openK
  rw [hop]
  show some _ = some p
  rw [hbody, hhead, hlen, beN_bigV m (by omega)]
  rw [hw] at hS
  have e8 : (bigV (m : Int) ++ xorL p st).drop 8 = xorL p st := by
    rw [List.drop_append_of_le_length (by rw [bigV_len]; omega), List.drop_eq_nil_of_le (by rw [bigV_len]; omega), List.nil_append]
  rw [e8, show p.length + 16 - 16 = p.length by omega, hS, xorL_xorL p st hst]
end Go.Proofs.Tryz

set_option maxRecDepth 100000
set_option maxHeartbeats 1000000
set_option linter.unusedVariables false
set_option linter.unusedSimpArgs false
namespace Go.Proofs.Tryz
open Go Ps
theorem speck_key (k : List UInt8) : KeySt k (speckO k) := by
  refine .inl ⟨0, ?_⟩
  show PObj.mk _ (k.map byteC ++ ([.int .u32 0, .int .i32 0] ++ List.replicate 29 (.int .u32 0))) 0 = PObj.mk _ ((k.map byteC ++ [.int .u32 0, .int .i32 0, .int .u32 0]) ++ (List.replicate 27 (0 : Int)).map u32C ++ [.int .u32 0]) 0
  rw [List.append_assoc, List.append_assoc]
  rfl
theorem ringT (l : List Ent) (v : Nat) : (ringO l v).T ≠ keyT ∧ (ringO l v).T ≠ boxT := ⟨fun h => absurd (show (ringO [] 0).T = keyT from h) (by decide), fun h => absurd (show (ringO [] 0).T = boxT from h) (by decide)⟩
/-- A key is added: its entry, its Box. -/
structure Adds (H : PH) (rid : Nat) (l : List Ent) (r n key : List UInt8) (H' : PH) : Prop where
  ex : ∃ (e : Ent) (v' : Nat), e.r = r ∧ e.n = n ∧ e.kv = nextKv (lastE (isP r n) l) ∧ e.key = key ∧ H'[rid]? = some (ringO (l ++ [e]) v') ∧ BoxAt H' e.box key
  evo : Evo (· = rid) H H'
/-- May one be added? -/
def addB (l : List Ent) (r n : List UInt8) : Bool := isPrincB r n && !decide (40 ≤ l.length ∨ 255 < nextKv (lastE (isP r n) l))
theorem addG {H : PH} {rid v : Nat} {l : List Ent} (hid : H[rid]? = some (ringO l v)) (hl : l.length ≤ 1000) (hk : ∀ e ∈ l, e.key.length = 32 ∧ e.kv ≤ 1000) (r n key : List UInt8) (hkey : key.length = 32)
    (hr : r.length ≤ 1099511627775) (hn : n.length ≤ 1099511627775) :
    CallOk prog 30 [.ptr (some (rid, 0)), .agg [.str r, .str n], .agg (key.map byteC)] H fun x H' => x = addR l r n ∧ ((addB l r n = true ∧ Adds H rid l r n key H') ∨ (addB l r n = false ∧ H' = H)) := by
  refine (c30 hid hl hk r n key hkey hr hn).mono fun x H' ⟨h1, h2⟩ => ⟨h1, ?_⟩
  have hlt : rid < H.length := (List.getElem?_eq_some_iff.1 hid).1
  unfold addB
  unfold addH at h2
  cases hp : isPrincB r n
  · rw [hp] at h2
    exact .inr ⟨rfl, h2⟩
  · rw [hp] at h2
    by_cases hc : 40 ≤ l.length ∨ 255 < nextKv (lastE (isP r n) l)
    · simp only [if_pos hc] at h2
      exact .inr ⟨by rw [decide_eq_true hc]; rfl, h2⟩
    · simp only [if_neg hc] at h2
      have hid2 : (H ++ [speckO (key.take 16), boxO key H.length])[rid]? = some (ringO l v) := by rw [List.getElem?_append_left hlt]; exact hid
      refine .inl ⟨by rw [decide_eq_false hc]; rfl, ⟨⟨addE H l r n key, v + 2, rfl, rfl, rfl, rfl, ?_, ?_⟩, ?_⟩⟩
      · rw [h2, List.getElem?_set_self (by simp; omega)]
      · rw [h2]
        refine (Evo.setOther (S := (· = rid)) hid2 rfl (ringT _ _).1 (ringT _ _).2).box _ _ ⟨hkey, H.length, 0, 0, 0, 0, speckO (key.take 16), ?_, ?_, speck_key _⟩
        · show (H ++ [speckO (key.take 16), boxO key H.length])[H.length + 1]? = _
          rw [List.getElem?_append_right (by omega), show H.length + 1 - H.length = 1 by omega]; rfl
        · rw [List.getElem?_append_right (by omega), show H.length - H.length = 0 by omega]; rfl
      · rw [h2]
        exact (Evo.app H _).trans (Evo.setOther hid2 rfl (ringT _ _).1 (ringT _ _).2)
/-- A ring, its boxes. -/
structure RingAt (H : PH) (rid : Nat) (l : List Ent) : Prop where
  ex : ∃ v, H[rid]? = some (ringO l v)
  box : ∀ e ∈ l, BoxAt H e.box e.key
theorem BoxAt.klen {H : PH} {b : Nat} {k : List UInt8} (h : BoxAt H b k) : k.length = 32 := h.1
theorem RingAt.klen {H : PH} {rid : Nat} {l : List Ent} (h : RingAt H rid l) : ∀ e ∈ l, e.key.length = 32 := fun e he => (h.box e he).1
theorem RingAt.evo {S : Nat → Prop} {H H' : PH} {rid : Nat} {l : List Ent} (h : RingAt H rid l) (k : Evo S H H') (hs : ¬ S rid) : RingAt H' rid l := by
  obtain ⟨⟨v, h1⟩, h2⟩ := h
  exact ⟨⟨v, k.same _ _ h1 hs (ringT _ _).1 (ringT _ _).2⟩, fun e he => k.box _ _ (h2 e he)⟩
theorem RingAt.add {H H' : PH} {rid : Nat} {l : List Ent} {r n key : List UInt8} (h : RingAt H rid l) (k : Adds H rid l r n key H') : ∃ e, e.r = r ∧ e.n = n ∧ e.kv = nextKv (lastE (isP r n) l) ∧ e.key = key ∧ RingAt H' rid (l ++ [e]) := by
  obtain ⟨⟨e, v', h1, h2, h3, h4, h5, h6⟩, h7⟩ := k
  refine ⟨e, h1, h2, h3, h4, ⟨v', h5⟩, fun x hx => ?_⟩
  rcases List.mem_append.1 hx with hx | hx
  · exact h7.box _ _ (h.box x hx)
  · have : x = e := by simpa using hx
    subst this
    rw [h4]; exact h6
theorem lastE_mem {f : Ent → Bool} {l : List Ent} {e : Ent} (h : lastE f l = some e) : e ∈ l := List.mem_reverse.1 (List.mem_of_find?_eq_some h)
theorem boxGet {H : PH} {rid : Nat} {l : List Ent} (h : RingAt H rid l) (hl : l.length ≤ 1000) (r n : List UInt8) (k : Int) :
    CallOk prog 32 [.ptr (some (rid, 0)), .agg [.str r, .str n], .int .i64 k] H fun x H' => x = boxR (lastE (isK r n k) l) ∧ H' = H := by
  obtain ⟨v, hv⟩ := h.ex
  exact c32 hv hl h.klen r n k
theorem lastGet {H : PH} {rid : Nat} {l : List Ent} (h : RingAt H rid l) (hl : l.length ≤ 1000) (r n : List UInt8) :
    CallOk prog 36 [.ptr (some (rid, 0)), .agg [.str r, .str n]] H fun x H' => x = lastR (lastE (isP r n) l) ∧ H' = H := by
  obtain ⟨v, hv⟩ := h.ex
  exact c36 hv hl h.klen r n
theorem newRing {H : PH} : RingAt (H ++ [ringO [] 0]) H.length [] := ⟨⟨0, by simp⟩, fun e he => by cases he⟩
end Go.Proofs.Tryz

set_option maxRecDepth 100000
set_option linter.unusedVariables false
namespace Go.Proofs.Tryz
open Go Ps
open Go.Proofs.YtbejjlmdmakdfaaGreatDoor (rows_ints bytes_of)
theorem rdByte1 {B n : Nat} {ps : List PV} (h : RdP prog B (n + 1) 5 ps) : ∃ b : UInt8, ps = [byteC b] := by
  obtain ⟨i, rfl, hw⟩ : ∃ i, ps = [.int .u8 i] ∧ (Lit.int .u8 i).wf = true := h
  obtain ⟨bs, h1, h2⟩ := bytes_of (xs := [i]) (fun x hx => by
    have : x = i := by simpa using hx
    subst this; exact hw)
  match bs, h1, h2 with
  | [b], _, h2 => exact ⟨b, h2⟩
theorem rdBytes1 {B n : Nat} {ps : List PV} (h : RdP prog B (n + 2) 22 ps) : ∃ b : List UInt8, ps = [sl b] ∧ b.length ≤ B := by
  obtain ⟨rs, rfl, hb, _, hr⟩ : ∃ rs : List (List PV), ps = [.slice rs.length rs.flatten none] ∧ rs.length * prog.bytesOf 5 ≤ B ∧ rs.length ≤ 9223372036854775807 ∧ ∀ r ∈ rs, r.length = prog.cellsOf 5 ∧ RdP prog B (n + 1) 5 r := h
  obtain ⟨xs, e1, e2, e3⟩ := rows_ints (k := .u8) fun r hr' => (hr r hr').2
  obtain ⟨bs, e4, e5⟩ := bytes_of e3
  refine ⟨bs, by unfold sl; rw [e1, e2, e4, e5], ?_⟩
  have hb : rs.length * 1 ≤ B := hb
  omega
end Go.Proofs.Tryz

set_option maxRecDepth 100000
set_option maxHeartbeats 2000000
set_option linter.unusedVariables false
set_option linter.unusedSimpArgs false
namespace Go.Proofs.Tryz
open Go Ps
def ttXr : TT := [(3, ⟨.int .i64, 1, 8, [.int .i64 0]⟩), (4, ⟨.bool, 1, 1, [.bool false]⟩), (5, ⟨.int .u8, 1, 1, [.int .u8 0]⟩), (9, ⟨.str, 1, 16, [.str []]⟩), (24, ⟨.strct [(9, 0), (9, 1)], 2, 32, [.str [], .str []]⟩), (49, ⟨.arr 32 5, 32, 32, List.replicate 32 (.int .u8 0)⟩), (77, ⟨.slice 86, 1, 24, [.slice 0 [] (some 86)]⟩), (81, ⟨.ptr, 1, 8, [.ptr none]⟩), (82, ⟨.slice 106, 1, 24, [.slice 0 [] (some 106)]⟩), (84, ⟨.strct [(82, 0)], 1, 24, [.slice 0 [] (some 106)]⟩), (86, ⟨.strct [(3, 0), (24, 1), (49, 3), (3, 35)], 36, 80, [.int .i64 0, .str [], .str []] ++ List.replicate 32 (.int .u8 0) ++ [.int .i64 0]⟩), (106, ⟨.strct [(24, 0), (3, 2), (49, 3)], 35, 72, [.str [], .str [], .int .i64 0] ++ List.replicate 32 (.int .u8 0)⟩)]
theorem ttXr_ok : ttOk prog ttXr = true := by kernel_rfl
def imm28 : List Nat := []
def imm89 : List Nat := [3]
def imm31 : List Nat := [4, 5]
def imm33 : List Nat := [4]
def imm37 : List Nat := [3]

def Ent.xcells (e : Ent) : List PV := [.str e.r, .str e.n, .int .i64 e.kv] ++ e.key.map byteC
def xringO (l : List Ent) (v : Nat) : PObj := ⟨84, [.slice l.length (l.flatMap Ent.xcells) (some 106)], v⟩
theorem xcells_len {e : Ent} (h : e.key.length = 32) : e.xcells.length = 35 := by simp [Ent.xcells, h]
theorem xflat_at {l : List Ent} (hk : ∀ e ∈ l, e.key.length = 32) {i : Nat} (hi : i < l.length) (j : Nat) (c : PV) (h : l[i].xcells[j]? = some c) : (l.flatMap Ent.xcells)[i * 35 + j]? = some c := by
  induction l generalizing i with
  | nil => simp at hi
  | cons e l ih =>
    rw [List.flatMap_cons]
    have he := xcells_len (hk e List.mem_cons_self)
    cases i with
    | zero =>
      have hj : j < e.xcells.length := (List.getElem?_eq_some_iff.1 h).1
      rw [Nat.zero_mul, Nat.zero_add, List.getElem?_append_left hj]; exact h
    | succ i =>
      rw [List.getElem?_append_right (by omega), show (i + 1) * 35 + j - e.xcells.length = i * 35 + j by omega]
      exact ih (fun e he => hk e (List.mem_cons_of_mem _ he)) (by simpa using hi) h
theorem fitXr (a b : List UInt8) : FitP ttXr 6 24 [.str a, .str b] := ⟨rfl, ⟨by show 1 ≤ 2; omega, a, rfl⟩, rfl, ⟨by show 1 ≤ 1; omega, b, rfl⟩, rfl⟩
theorem pair_eq {a b c d : List UInt8} : ([PV.str a, PV.str b] = [PV.str c, PV.str d]) ↔ (a = c ∧ b = d) := by
  constructor
  · intro h
    injection h with h1 h2
    injection h1 with h1
    injection h2 with h2 _
    injection h2 with h2
    exact ⟨h1, h2⟩
  · rintro ⟨rfl, rfl⟩; rfl
theorem lastE_take (f : Ent → Bool) (l : List Ent) {m : Nat} (hm : m < l.length) : lastE f (l.take (m + 1)) = if f l[m] then some l[m] else lastE f (l.take m) := by
  rw [List.take_succ_eq_append_getElem hm]; exact lastE_snoc f _ _
def kvOf : Option Ent → Nat
  | none => 0
  | some e => e.kv
theorem c89 {H : PH} {rid v : Nat} {l : List Ent} (hid : H[rid]? = some (xringO l v)) (hl : l.length ≤ 1000) (hk : ∀ e ∈ l, e.key.length = 32) (r n : List UInt8) :
    CallOk prog 89 [.ptr (some (rid, 0)), .agg [.str r, .str n]] H fun x H' => x = .int .i64 (kvOf (lastE (isP r n) l)) ∧ H' = H := by
  (refine callOk_of_pFun2 (tt := ttXr) (imm := imm89) follows ttXr_ok depth6 func89 (by kernel_rfl) ?_; (conv => whnf))
  refine loopK_of FiS (fun x => [(0, .ptr (some (rid, 0))), (3, .elem [.str r, .str n]), (5, .int .i64 (kvOf (lastE (isP r n) (l.take x.k)))), (6, .int .i64 x.k)]) (fun _ => H) (fun x => x.k ≤ l.length) (fun x => l.length - x.k)
    ⟨⟨0⟩, Nat.zero_le _, ⟨rfl, rfl, rfl, rfl, trivial⟩, rfl⟩ ?_
  rintro ⟨k⟩ hkl
  replace hkl : k ≤ l.length := hkl
  (conv => whnf)
  ((conv in (_[_]?) => tactic => exact hid); (conv => whnf))
  refine ⟨fun h => ?_, fun h => ?_⟩
  · have h : (k : Int) < l.length := h
    have hi : k < l.length := by omega
    have hkey := hk _ (List.getElem_mem hi)
    have hlast := lastE_take (isP r n) l hi
    have hat := fun j c hj => xflat_at hk hi j c hj
    generalize l[k] = e at hkey hlast hat
    obtain ⟨er, en, kv, key, box⟩ := e
    match key, hkey with
    | [a0, a1, a2, a3, a4, a5, a6, a7, a8, a9, a10, a11, a12, a13, a14, a15, b0, b1, b2, b3, b4, b5, b6, b7, b8, b9, b10, b11, b12, b13, b14, b15], _ =>
      (conv => whnf)
      refine drawK_pure2 (by kernel_rfl) ?_
      (conv => whnf)
      (apply Exists.intro; apply And.intro; (focus ((conv => whnf); first | exact ⟨rfl, rfl, trivial⟩ | (refine ⟨by omega, ?_⟩; (conv => whnf); exact ⟨rfl, rfl, trivial⟩))); (conv => whnf))
      (apply Exists.intro; apply And.intro; (focus ((conv => whnf); first | exact ⟨rfl, rfl, trivial⟩ | (refine ⟨by omega, ?_⟩; (conv => whnf); exact ⟨rfl, rfl, trivial⟩))); (conv => whnf))
      (apply Exists.intro; apply And.intro; (focus ((conv => whnf); first | exact ⟨rfl, rfl, trivial⟩ | (refine ⟨by omega, ?_⟩; (conv => whnf); exact ⟨rfl, rfl, trivial⟩))); (conv => whnf))
      apply Exists.intro
      apply And.intro
      · (conv => whnf)
        ((conv in (_[_]?) => tactic => exact hid); (conv => whnf))
        exact ⟨rfl, rfl, trivial⟩
      (conv => whnf)
      (apply Exists.intro; apply And.intro; (focus ((conv => whnf); first | exact ⟨rfl, rfl, trivial⟩ | (refine ⟨by omega, ?_⟩; (conv => whnf); exact ⟨rfl, rfl, trivial⟩))); (conv => whnf))
      refine ⟨.elem (Ent.mk er en kv [a0, a1, a2, a3, a4, a5, a6, a7, a8, a9, a10, a11, a12, a13, a14, a15, b0, b1, b2, b3, b4, b5, b6, b7, b8, b9, b10, b11, b12, b13, b14, b15] box).xcells, ⟨⟨by omega, h⟩, (Ent.mk er en kv [a0, a1, a2, a3, a4, a5, a6, a7, a8, a9, a10, a11, a12, a13, a14, a15, b0, b1, b2, b3, b4, b5, b6, b7, b8, b9, b10, b11, b12, b13, b14, b15] box).xcells, hat, rfl, rfl, trivial⟩, ?_⟩
      (conv => whnf)
      (apply Exists.intro; apply And.intro; (focus ((conv => whnf); first | exact ⟨rfl, rfl, trivial⟩ | (refine ⟨by omega, ?_⟩; (conv => whnf); exact ⟨rfl, rfl, trivial⟩))); (conv => whnf))
      (apply Exists.intro; apply And.intro; (focus ((conv => whnf); first | exact ⟨rfl, rfl, trivial⟩ | (refine ⟨by omega, ?_⟩; (conv => whnf); exact ⟨rfl, rfl, trivial⟩))); (conv => whnf))
      (apply Exists.intro; apply And.intro; (focus ((conv => whnf); first | exact ⟨rfl, rfl, trivial⟩ | (refine ⟨by omega, ?_⟩; (conv => whnf); exact ⟨rfl, rfl, trivial⟩))); (conv => whnf))
      by_cases hp : er = r ∧ en = n
      · have hpt : isP r n ⟨er, en, kv, [a0, a1, a2, a3, a4, a5, a6, a7, a8, a9, a10, a11, a12, a13, a14, a15, b0, b1, b2, b3, b4, b5, b6, b7, b8, b9, b10, b11, b12, b13, b14, b15], box⟩ = true := decide_eq_true hp
        rw [if_pos hpt] at hlast
        refine ⟨.bool true, ?_, ?_⟩
        · (conv => whnf)
          refine ⟨⟨fitXr _ _, fitXr _ _⟩, ?_⟩
          (conv => whnf)
          exact ⟨fun _ => ⟨rfl, rfl, trivial⟩, fun h => absurd (pair_eq.2 hp) h⟩
        (conv => whnf)
        ((conv in (_[_]?) => tactic => exact hid); (conv => whnf))
        refine ⟨⟨by omega, h⟩, (Ent.mk er en kv [a0, a1, a2, a3, a4, a5, a6, a7, a8, a9, a10, a11, a12, a13, a14, a15, b0, b1, b2, b3, b4, b5, b6, b7, b8, b9, b10, b11, b12, b13, b14, b15] box).xcells, hat, ?_⟩
        (conv => whnf)
        refine ⟨⟨k + 1⟩, by show k + 1 ≤ l.length; omega, ⟨rfl, rfl, ?_, ?_, trivial⟩, rfl, by show l.length - (k + 1) < l.length - k; omega⟩
        · show PV.int .i64 kv = _
          rw [hlast]; rfl
        · show PV.int _ (IntKind.i64.wrap ((k : Int) + 1)) = PV.int _ _
          rw [wrap64 (by omega) (by omega)]; simp
      · have hpt : ¬ isP r n ⟨er, en, kv, [a0, a1, a2, a3, a4, a5, a6, a7, a8, a9, a10, a11, a12, a13, a14, a15, b0, b1, b2, b3, b4, b5, b6, b7, b8, b9, b10, b11, b12, b13, b14, b15], box⟩ = true := by
          unfold isP
          rw [decide_eq_false hp]; exact Bool.false_ne_true
        rw [if_neg hpt] at hlast
        refine ⟨.bool false, ?_, ?_⟩
        · (conv => whnf)
          refine ⟨⟨fitXr _ _, fitXr _ _⟩, ?_⟩
          (conv => whnf)
          exact ⟨fun h => absurd (pair_eq.1 h) hp, fun _ => ⟨rfl, rfl, trivial⟩⟩
        (conv => whnf)
        refine ⟨⟨k + 1⟩, by show k + 1 ≤ l.length; omega, ⟨rfl, rfl, ?_, ?_, trivial⟩, rfl, by show l.length - (k + 1) < l.length - k; omega⟩
        · rw [hlast]; rfl
        · show PV.int _ (IntKind.i64.wrap ((k : Int) + 1)) = PV.int _ _
          rw [wrap64 (by omega) (by omega)]; simp
  · have h : ¬ (k : Int) < l.length := h
    have e : l.take k = l := List.take_of_length_le (by omega)
    rw [e]
    (conv => whnf)
    exact ⟨rfl, rfl⟩
def xaddH (H : PH) (rid v : Nat) (l : List Ent) (e : Ent) : PH := match addB l e.r e.n with
  | true => H.set rid (xringO (l ++ [e]) (v + 2))
  | false => H
def D31 (rid : Nat) : Draw := { cons := [(14, [36])], imp := [11, 14], win := [(0, 0, 1), (12, 1, 1), (13, 1, 1), (14, 1, 1)], fs := [(4, 11, .cell rid 0)] }
theorem c31 {H : PH} {rid v : Nat} {l : List Ent} (hid : H[rid]? = some (xringO l v)) (hl : l.length ≤ 1000) (hk : ∀ e ∈ l, e.key.length = 32 ∧ e.kv ≤ 1000) (e : Ent) (hkey : e.key.length = 32) (hkv : e.kv = nextKv (lastE (isP e.r e.n) l))
    (hr : e.r.length ≤ 1099511627775) (hn : e.n.length ≤ 1099511627775) :
    CallOk prog 31 [.ptr (some (rid, 0)), .agg [.str e.r, .str e.n], .agg (e.key.map byteC)] H fun x H' => x = addR l e.r e.n ∧ H' = xaddH H rid v l e := by
  have hkvB : kvOf (lastE (isP e.r e.n) l) ≤ 1000 := by
    cases he : lastE (isP e.r e.n) l with
    | none => exact Nat.zero_le _
    | some x => exact (hk x (lastE_mem he)).2
  have hN : nextKv (lastE (isP e.r e.n) l) = kvOf (lastE (isP e.r e.n) l) + 1 := by cases lastE (isP e.r e.n) l <;> rfl
  unfold addR xaddH addB
  generalize hL : kvOf (lastE (isP e.r e.n) l) = N at hkvB hN
  rw [hN] at hkv ⊢
  obtain ⟨r, n, kv, key, box⟩ := e
  replace hkv : kv = N + 1 := hkv
  match key, hkey with
  | [a0, a1, a2, a3, a4, a5, a6, a7, a8, a9, a10, a11, a12, a13, a14, a15, b0, b1, b2, b3, b4, b5, b6, b7, b8, b9, b10, b11, b12, b13, b14, b15], hkey =>
    (refine callOk_of_pFun2 (tt := ttXr) (imm := imm31) follows ttXr_ok depth6 func31 (by kernel_rfl) ?_; (conv => whnf))
    refine callK_pure (c88 r n hr hn) ?_
    cases hp : isPrincB r n
    · (conv => whnf)
      exact ⟨rfl, rfl⟩
    · (conv => whnf)
      refine callK_of (c89 hid hl (fun e he => (hk e he).1) r n) ?_
      rintro x H' ⟨hx, hH⟩
      rw [hx, hH]; clear hx hH
      rw [hL]
      (conv => whnf)
      ((conv in (_[_]?) => tactic => exact hid); (conv => whnf))
      refine ⟨fun h40 => ?_, fun h40 => ?_⟩
      · have h40 : (l.length : Int) ≥ 40 := h40
        have hc : 40 ≤ l.length ∨ 255 < N + 1 := by omega
        simp only [if_pos hc, decide_eq_true hc]
        (conv => whnf)
        exact ⟨rfl, rfl⟩
      have h40 : ¬ (l.length : Int) ≥ 40 := h40
      (conv => whnf)
      refine ⟨fun h255 => ?_, fun h255 => ?_⟩
      · have h255 : (N : Int) ≥ 255 := h255
        have hc : 40 ≤ l.length ∨ 255 < N + 1 := by omega
        simp only [if_pos hc, decide_eq_true hc]
        (conv => whnf)
        exact ⟨rfl, rfl⟩
      have h255 : ¬ (N : Int) ≥ 255 := h255
      have hc : ¬ (40 ≤ l.length ∨ 255 < N + 1) := by omega
      simp only [if_neg hc, decide_eq_false hc]
      (conv => whnf)
      have h2 : (H.set rid ⟨84, [.slice l.length (l.flatMap Ent.xcells) none], v + 1⟩)[rid]? = some ⟨84, [.slice l.length (l.flatMap Ent.xcells) none], v + 1⟩ := get_set hid
      refine drawK_of2 (D31 rid) [H, H.set rid ⟨84, [.slice l.length (l.flatMap Ent.xcells) none], v + 1⟩, H.set rid (xringO (l ++ [⟨r, n, kv, [a0, a1, a2, a3, a4, a5, a6, a7, a8, a9, a10, a11, a12, a13, a14, a15, b0, b1, b2, b3, b4, b5, b6, b7, b8, b9, b10, b11, b12, b13, b14, b15], box⟩]) (v + 2))] (by kernel_rfl) rfl ?_ ?_
      · refine ⟨fun k h3 h4 => ?_, trivial⟩
        exact absurd h4 (by show ¬ k < 0; omega)
      (conv => whnf)
      (apply Exists.intro; apply And.intro; (focus ((conv => whnf); apply And.intro; (focus ((conv => whnf); first | exact ⟨rfl, rfl, trivial⟩ | (refine ⟨by omega, ?_⟩; (conv => whnf); exact ⟨rfl, rfl, trivial⟩))); ((conv => whnf); first | exact ⟨rfl, rfl, trivial⟩ | (refine ⟨by omega, ?_⟩; (conv => whnf); exact ⟨rfl, rfl, trivial⟩)))); (conv => whnf))
      (apply Exists.intro; apply And.intro; (focus ((conv => whnf); first | exact ⟨rfl, rfl, trivial⟩ | (refine ⟨by omega, ?_⟩; (conv => whnf); exact ⟨rfl, rfl, trivial⟩))); (conv => whnf))
      (apply Exists.intro; apply And.intro; (focus ((conv => whnf); first | exact ⟨rfl, rfl, trivial⟩ | (refine ⟨by omega, ?_⟩; (conv => whnf); exact ⟨rfl, rfl, trivial⟩))); (conv => whnf))
      (apply Exists.intro; apply And.intro; (focus ((conv => whnf); first | exact ⟨rfl, rfl, trivial⟩ | (refine ⟨by omega, ?_⟩; (conv => whnf); exact ⟨rfl, rfl, trivial⟩))); (conv => whnf))
      apply Exists.intro
      apply And.intro
      · (conv => whnf)
        ((conv in (_[_]?) => tactic => exact hid); (conv => whnf))
        exact ⟨rfl, rfl, rfl, trivial⟩
      (conv => whnf)
      (apply Exists.intro; apply And.intro; (focus ((conv => whnf); first | exact ⟨rfl, rfl, trivial⟩ | (refine ⟨by omega, ?_⟩; (conv => whnf); exact ⟨rfl, rfl, trivial⟩))); (conv => whnf))
      (apply Exists.intro; apply And.intro; (focus ((conv => whnf); first | exact ⟨rfl, rfl, trivial⟩ | (refine ⟨by omega, ?_⟩; (conv => whnf); exact ⟨rfl, rfl, trivial⟩))); (conv => whnf))
      (apply Exists.intro; apply And.intro; (focus ((conv => whnf); first | exact ⟨rfl, rfl, trivial⟩ | (refine ⟨by omega, ?_⟩; (conv => whnf); exact ⟨rfl, rfl, trivial⟩))); (conv => whnf))
      (apply Exists.intro; apply And.intro; (focus ((conv => whnf); first | exact ⟨rfl, rfl, trivial⟩ | (refine ⟨by omega, ?_⟩; (conv => whnf); exact ⟨rfl, rfl, trivial⟩))); (conv => whnf))
      (apply Exists.intro; apply And.intro; (focus ((conv => whnf); first | exact ⟨rfl, rfl, trivial⟩ | (refine ⟨by omega, ?_⟩; (conv => whnf); exact ⟨rfl, rfl, trivial⟩))); (conv => whnf))
      (apply Exists.intro; apply And.intro; (focus ((conv => whnf); first | exact ⟨rfl, rfl, trivial⟩ | (refine ⟨by omega, ?_⟩; (conv => whnf); exact ⟨rfl, rfl, trivial⟩))); (conv => whnf))
      apply Exists.intro
      apply And.intro
      · (conv => whnf)
        ((conv in (_[_]?) => tactic => exact hid); (conv => whnf))
        refine ⟨⟨by show (l.length + 1) * 72 ≤ _; omega, rfl, rfl⟩, ?_⟩
        (conv => whnf)
        exact ⟨rfl, rfl, trivial⟩
      (conv => whnf)
      (apply Exists.intro; apply And.intro; (focus ((conv => whnf); first | exact ⟨rfl, rfl, trivial⟩ | (refine ⟨by omega, ?_⟩; (conv => whnf); exact ⟨rfl, rfl, trivial⟩))); (conv => whnf))
      (apply Exists.intro; apply And.intro; (focus ((conv => whnf); first | exact ⟨rfl, rfl, trivial⟩ | (refine ⟨by omega, ?_⟩; (conv => whnf); exact ⟨rfl, rfl, trivial⟩))); (conv => whnf))
      have hw : IntKind.i64.wrap ((N : Int) + 1) = (kv : Int) := by rw [wrap64 (by omega) (by omega), hkv]; rfl
      apply Exists.intro
      apply And.intro
      · (conv => whnf)
        ((conv in (_[_]?) => tactic => exact h2); (conv => whnf))
        refine ⟨rfl, ?_, trivial⟩
        show (List.set H rid ⟨84, [.slice l.length (l.flatMap Ent.xcells) none], v + 1⟩).set rid ⟨84, [PV.slice (l.length + 1) (l.flatMap Ent.xcells ++ ([.str r, .str n, .int .i64 (IntKind.i64.wrap ((N : Int) + 1))] ++ [a0, a1, a2, a3, a4, a5, a6, a7, a8, a9, a10, a11, a12, a13, a14, a15, b0, b1, b2, b3, b4, b5, b6, b7, b8, b9, b10, b11, b12, b13, b14, b15].map byteC)) (some 106)], v + 1 + 1⟩ = List.set H rid (xringO (l ++ [⟨r, n, kv, [a0, a1, a2, a3, a4, a5, a6, a7, a8, a9, a10, a11, a12, a13, a14, a15, b0, b1, b2, b3, b4, b5, b6, b7, b8, b9, b10, b11, b12, b13, b14, b15], box⟩]) (v + 2))
        rw [List.set_set, hw]
        unfold xringO
        rw [List.flatMap_append, List.length_append]
        rfl
      (conv => whnf)
      refine ⟨?_, rfl⟩
      show PV.tup [.int .i64 (IntKind.i64.wrap ((N : Int) + 1)), .int .i64 0] = PV.tup [.int .i64 ((N + 1 : Nat) : Int), .int .i64 0]
      rw [hw, hkv]

def zero32 : List PV := List.replicate 32 (.int .u8 0)
def xboxV : Option Ent → PV
  | none => .tup [.agg zero32, .int .i64 4]
  | some e => .tup [.agg (e.key.map byteC), .int .i64 0]
theorem map_old (l : List UInt8) : oldPs (l.map byteC) = true := oldPs_bytes l
theorem c33x {H : PH} {rid v : Nat} {l : List Ent} (hid : H[rid]? = some (xringO l v)) (hl : l.length ≤ 1000) (hk : ∀ e ∈ l, e.key.length = 32) (r n : List UInt8) (q : Int) :
    CallOk prog 33 [.ptr (some (rid, 0)), .agg [.str r, .str n], .int .i64 q] H fun x H' => x = xboxV (l.find? (isK r n q)) ∧ ∃ ext, H' = H ++ ext := by
  (refine callOk_of_pFun2 (tt := ttXr) (imm := imm33) follows ttXr_ok depth6 func33 (by kernel_rfl) ?_; (conv => whnf))
  have hid2 : ∀ o, (H ++ [o])[rid]? = some (xringO l v) := fun o => by rw [List.getElem?_append_left (List.getElem?_eq_some_iff.1 hid).1]; exact hid
  refine loopK_of FiS (fun x => [(0, .ptr (some (rid, 0))), (2, .int .i64 q), (4, .elem [.str r, .str n]), (6, .ptr (some (H.length, 0))), (8, .int .i64 x.k)]) (fun _ => H ++ [⟨49, zero32, 0⟩]) (fun x => x.k ≤ l.length ∧ l.find? (isK r n q) = (l.drop x.k).find? (isK r n q)) (fun x => l.length - x.k)
    ⟨⟨0⟩, ⟨Nat.zero_le _, rfl⟩, ⟨rfl, rfl, rfl, rfl, rfl, trivial⟩, rfl⟩ ?_
  rintro ⟨k⟩ ⟨hkl, hfi⟩
  replace hkl : k ≤ l.length := hkl
  replace hfi : l.find? (isK r n q) = (l.drop k).find? (isK r n q) := hfi
  (conv => whnf)
  ((conv in (_[_]?) => tactic => exact hid2 _); (conv => whnf))
  refine ⟨fun h => ?_, fun h => ?_⟩
  · have h : (k : Int) < l.length := h
    have hi : k < l.length := by omega
    have hkey := hk _ (List.getElem_mem hi)
    have hat := fun j c hj => xflat_at hk hi j c hj
    rw [List.drop_eq_getElem_cons hi, List.find?_cons] at hfi
    generalize l[k] = e at hkey hat hfi
    obtain ⟨er, en, kv, key, box⟩ := e
    match key, hkey with
    | [a0, a1, a2, a3, a4, a5, a6, a7, a8, a9, a10, a11, a12, a13, a14, a15, b0, b1, b2, b3, b4, b5, b6, b7, b8, b9, b10, b11, b12, b13, b14, b15], _ =>
      (conv => whnf)
      refine drawK_pure2 (by kernel_rfl) ?_
      (conv => whnf)
      (apply Exists.intro; apply And.intro; (focus ((conv => whnf); first | exact ⟨rfl, rfl, trivial⟩ | (refine ⟨by omega, ?_⟩; (conv => whnf); exact ⟨rfl, rfl, trivial⟩))); (conv => whnf))
      (apply Exists.intro; apply And.intro; (focus ((conv => whnf); first | exact ⟨rfl, rfl, trivial⟩ | (refine ⟨by omega, ?_⟩; (conv => whnf); exact ⟨rfl, rfl, trivial⟩))); (conv => whnf))
      (apply Exists.intro; apply And.intro; (focus ((conv => whnf); first | exact ⟨rfl, rfl, trivial⟩ | (refine ⟨by omega, ?_⟩; (conv => whnf); exact ⟨rfl, rfl, trivial⟩))); (conv => whnf))
      apply Exists.intro
      apply And.intro
      · (conv => whnf)
        ((conv in (_[_]?) => tactic => exact hid2 _); (conv => whnf))
        exact ⟨rfl, rfl, trivial⟩
      (conv => whnf)
      (apply Exists.intro; apply And.intro; (focus ((conv => whnf); first | exact ⟨rfl, rfl, trivial⟩ | (refine ⟨by omega, ?_⟩; (conv => whnf); exact ⟨rfl, rfl, trivial⟩))); (conv => whnf))
      refine ⟨.elem (Ent.mk er en kv [a0, a1, a2, a3, a4, a5, a6, a7, a8, a9, a10, a11, a12, a13, a14, a15, b0, b1, b2, b3, b4, b5, b6, b7, b8, b9, b10, b11, b12, b13, b14, b15] box).xcells, ⟨⟨by omega, h⟩, (Ent.mk er en kv [a0, a1, a2, a3, a4, a5, a6, a7, a8, a9, a10, a11, a12, a13, a14, a15, b0, b1, b2, b3, b4, b5, b6, b7, b8, b9, b10, b11, b12, b13, b14, b15] box).xcells, hat, rfl, rfl, trivial⟩, ?_⟩
      (conv => whnf)
      (apply Exists.intro; apply And.intro; (focus ((conv => whnf); first | exact ⟨rfl, rfl, trivial⟩ | (refine ⟨by omega, ?_⟩; (conv => whnf); exact ⟨rfl, rfl, trivial⟩))); (conv => whnf))
      (apply Exists.intro; apply And.intro; (focus ((conv => whnf); first | exact ⟨rfl, rfl, trivial⟩ | (refine ⟨by omega, ?_⟩; (conv => whnf); exact ⟨rfl, rfl, trivial⟩))); (conv => whnf))
      (apply Exists.intro; apply And.intro; (focus ((conv => whnf); first | exact ⟨rfl, rfl, trivial⟩ | (refine ⟨by omega, ?_⟩; (conv => whnf); exact ⟨rfl, rfl, trivial⟩))); (conv => whnf))
      have next : ∀ (E : Env), subE [(0, .ptr (some (rid, 0))), (2, .int .i64 q), (4, .elem [.str r, .str n]), (6, .ptr (some (H.length, 0))), (8, .int .i64 (IntKind.i64.wrap ((k : Int) + 1)))] E → isK r n q ⟨er, en, kv, [a0, a1, a2, a3, a4, a5, a6, a7, a8, a9, a10, a11, a12, a13, a14, a15, b0, b1, b2, b3, b4, b5, b6, b7, b8, b9, b10, b11, b12, b13, b14, b15], box⟩ = false →
          ∃ s' : FiS, (s'.k ≤ l.length ∧ l.find? (isK r n q) = (l.drop s'.k).find? (isK r n q)) ∧ subE [(0, .ptr (some (rid, 0))), (2, .int .i64 q), (4, .elem [.str r, .str n]), (6, .ptr (some (H.length, 0))), (8, .int .i64 s'.k)] E ∧ H ++ [⟨49, zero32, 0⟩] = H ++ [⟨49, zero32, 0⟩] ∧ l.length - s'.k < l.length - k := by
        intro E hE hf
        rw [wrap64 (by omega) (by omega)] at hE
        rw [hf] at hfi
        exact ⟨⟨k + 1⟩, ⟨by show k + 1 ≤ l.length; omega, hfi⟩, hE, rfl, by show l.length - (k + 1) < l.length - k; omega⟩
      by_cases hp : er = r ∧ en = n
      · refine ⟨.bool true, ?_, ?_⟩
        · (conv => whnf)
          refine ⟨⟨fitXr _ _, fitXr _ _⟩, ?_⟩
          (conv => whnf)
          exact ⟨fun _ => ⟨rfl, rfl, trivial⟩, fun h => absurd (pair_eq.2 hp) h⟩
        (conv => whnf)
        (apply Exists.intro; apply And.intro; (focus ((conv => whnf); first | exact ⟨rfl, rfl, trivial⟩ | (refine ⟨by omega, ?_⟩; (conv => whnf); exact ⟨rfl, rfl, trivial⟩))); (conv => whnf))
        (apply Exists.intro; apply And.intro; (focus ((conv => whnf); first | exact ⟨rfl, rfl, trivial⟩ | (refine ⟨by omega, ?_⟩; (conv => whnf); exact ⟨rfl, rfl, trivial⟩))); (conv => whnf))
        (apply Exists.intro; apply And.intro; (focus ((conv => whnf); first | exact ⟨rfl, rfl, trivial⟩ | (refine ⟨by omega, ?_⟩; (conv => whnf); exact ⟨rfl, rfl, trivial⟩))); (conv => whnf))
        (apply Exists.intro; apply And.intro; (focus ((conv => whnf); first | exact ⟨rfl, rfl, trivial⟩ | (refine ⟨by omega, ?_⟩; (conv => whnf); exact ⟨rfl, rfl, trivial⟩))); (conv => whnf))
        apply Exists.intro
        apply And.intro
        · (conv => whnf)
          ((conv in (_[_]?) => tactic => exact hid2 _); (conv => whnf))
          exact ⟨rfl, rfl, trivial⟩
        (conv => whnf)
        (apply Exists.intro; apply And.intro; (focus ((conv => whnf); first | exact ⟨rfl, rfl, trivial⟩ | (refine ⟨by omega, ?_⟩; (conv => whnf); exact ⟨rfl, rfl, trivial⟩))); (conv => whnf))
        refine ⟨.elem (Ent.mk er en kv [a0, a1, a2, a3, a4, a5, a6, a7, a8, a9, a10, a11, a12, a13, a14, a15, b0, b1, b2, b3, b4, b5, b6, b7, b8, b9, b10, b11, b12, b13, b14, b15] box).xcells, ⟨⟨by omega, h⟩, (Ent.mk er en kv [a0, a1, a2, a3, a4, a5, a6, a7, a8, a9, a10, a11, a12, a13, a14, a15, b0, b1, b2, b3, b4, b5, b6, b7, b8, b9, b10, b11, b12, b13, b14, b15] box).xcells, hat, rfl, rfl, trivial⟩, ?_⟩
        (conv => whnf)
        (apply Exists.intro; apply And.intro; (focus ((conv => whnf); first | exact ⟨rfl, rfl, trivial⟩ | (refine ⟨by omega, ?_⟩; (conv => whnf); exact ⟨rfl, rfl, trivial⟩))); (conv => whnf))
        (apply Exists.intro; apply And.intro; (focus ((conv => whnf); first | exact ⟨rfl, rfl, trivial⟩ | (refine ⟨by omega, ?_⟩; (conv => whnf); exact ⟨rfl, rfl, trivial⟩))); (conv => whnf))
        (apply Exists.intro; apply And.intro; (focus ((conv => whnf); first | exact ⟨rfl, rfl, trivial⟩ | (refine ⟨by omega, ?_⟩; (conv => whnf); exact ⟨rfl, rfl, trivial⟩))); (conv => whnf))
        by_cases hq : (kv : Int) = q
        · have hpt : isK r n q ⟨er, en, kv, [a0, a1, a2, a3, a4, a5, a6, a7, a8, a9, a10, a11, a12, a13, a14, a15, b0, b1, b2, b3, b4, b5, b6, b7, b8, b9, b10, b11, b12, b13, b14, b15], box⟩ = true := by
            show (decide (er = r ∧ en = n) && decide ((kv : Int) = q)) = true
            rw [decide_eq_true hp, decide_eq_true hq]; rfl
          refine ⟨.bool true, ?_, ?_⟩
          · (conv => whnf)
            exact ⟨fun _ => ⟨rfl, rfl, trivial⟩, fun h => absurd hq h⟩
          (conv => whnf)
          (apply Exists.intro; apply And.intro; (focus ((conv => whnf); first | exact ⟨rfl, rfl, trivial⟩ | (refine ⟨by omega, ?_⟩; (conv => whnf); exact ⟨rfl, rfl, trivial⟩))); (conv => whnf))
          ((conv in (_[_]?) => tactic => exact hid2 _); (conv => whnf))
          refine ⟨⟨by omega, h⟩, (Ent.mk er en kv [a0, a1, a2, a3, a4, a5, a6, a7, a8, a9, a10, a11, a12, a13, a14, a15, b0, b1, b2, b3, b4, b5, b6, b7, b8, b9, b10, b11, b12, b13, b14, b15] box).xcells, hat, ?_⟩
          (conv => whnf)
          ((conv in (_[_]?) => tactic => exact get_last H _); (conv => whnf))
          ((conv in (_[_]?) => tactic => exact (show ((H ++ [_]).set H.length _)[H.length]? = some _ from List.getElem?_set_self (by simp))); (conv => whnf))
          rw [hpt] at hfi
          refine ⟨by rw [hfi]; rfl, [⟨49, [a0, a1, a2, a3, a4, a5, a6, a7, a8, a9, a10, a11, a12, a13, a14, a15, b0, b1, b2, b3, b4, b5, b6, b7, b8, b9, b10, b11, b12, b13, b14, b15].map byteC, 1⟩], ?_⟩
          show (H ++ [_]).set H.length _ = _
          rw [set_last]
          rfl
        · have hpt : isK r n q ⟨er, en, kv, [a0, a1, a2, a3, a4, a5, a6, a7, a8, a9, a10, a11, a12, a13, a14, a15, b0, b1, b2, b3, b4, b5, b6, b7, b8, b9, b10, b11, b12, b13, b14, b15], box⟩ = false := by
            show (decide (er = r ∧ en = n) && decide ((kv : Int) = q)) = false
            rw [decide_eq_false hq, Bool.and_false]
          refine ⟨.bool false, ?_, ?_⟩
          · (conv => whnf)
            exact ⟨fun h => absurd h hq, fun _ => ⟨rfl, rfl, trivial⟩⟩
          (conv => whnf)
          (apply Exists.intro; apply And.intro; (focus ((conv => whnf); first | exact ⟨rfl, rfl, trivial⟩ | (refine ⟨by omega, ?_⟩; (conv => whnf); exact ⟨rfl, rfl, trivial⟩))); (conv => whnf))
          exact next _ ⟨rfl, rfl, rfl, rfl, rfl, trivial⟩ hpt
      · have hpt : isK r n q ⟨er, en, kv, [a0, a1, a2, a3, a4, a5, a6, a7, a8, a9, a10, a11, a12, a13, a14, a15, b0, b1, b2, b3, b4, b5, b6, b7, b8, b9, b10, b11, b12, b13, b14, b15], box⟩ = false := by
          show (decide (er = r ∧ en = n) && decide ((kv : Int) = q)) = false
          rw [decide_eq_false hp, Bool.false_and]
        refine ⟨.bool false, ?_, ?_⟩
        · (conv => whnf)
          refine ⟨⟨fitXr _ _, fitXr _ _⟩, ?_⟩
          (conv => whnf)
          exact ⟨fun h => absurd (pair_eq.1 h) hp, fun _ => ⟨rfl, rfl, trivial⟩⟩
        (conv => whnf)
        repeat (apply Exists.intro; apply And.intro; (focus ((conv => whnf); first | exact ⟨rfl, rfl, trivial⟩ | (refine ⟨by omega, ?_⟩; (conv => whnf); exact ⟨rfl, rfl, trivial⟩))); (conv => whnf))
        exact next _ ⟨rfl, rfl, rfl, rfl, rfl, trivial⟩ hpt
  · have h : ¬ (k : Int) < l.length := h
    have e : l.drop k = [] := List.drop_eq_nil_of_le (by omega)
    rw [e] at hfi
    rw [hfi]
    (conv => whnf)
    ((conv in (_[_]?) => tactic => exact get_last H _); (conv => whnf))
    ((conv in (_[_]?) => tactic => exact (show ((H ++ [_]).set H.length _)[H.length]? = some _ from List.getElem?_set_self (by simp))); (conv => whnf))
    refine ⟨rfl, [⟨49, zero32, 1⟩], ?_⟩
    show (H ++ [_]).set H.length _ = _
    rw [set_last]
    rfl
theorem xboxV_old (x : Option Ent) : oldR (xboxV x) = true := by
  cases x with
  | none => rfl
  | some e =>
    show (oldP (.agg (e.key.map byteC)) && true) = true
    rw [show oldP (.agg (e.key.map byteC)) = oldPs (e.key.map byteC) from rfl, oldPs_bytes]; rfl
theorem c33 {H : PH} {rid v : Nat} {l : List Ent} (hid : H[rid]? = some (xringO l v)) (hl : l.length ≤ 1000) (hk : ∀ e ∈ l, e.key.length = 32) (r n : List UInt8) (q : Int) :
    CallOk prog 33 [.ptr (some (rid, 0)), .agg [.str r, .str n], .int .i64 q] H fun x H' => x = xboxV (l.find? (isK r n q)) ∧ H' = H :=
  ((c33x hid hl hk r n q).gc fun r H' hh => ⟨by rw [hh.1]; exact xboxV_old _, hh.2⟩).mono fun x H' hh => ⟨hh.2.elim fun _ h => h.1, hh.1⟩
end Go.Proofs.Tryz

set_option maxRecDepth 100000
set_option maxHeartbeats 2000000
set_option linter.unusedVariables false
set_option linter.unusedSimpArgs false
namespace Go.Proofs.Tryz
open Go Ps
def xlastV : Option Ent → PV
  | none => .tup [.agg zero32, .int .i64 0, .int .i64 4]
  | some e => .tup [.agg (e.key.map byteC), .int .i64 e.kv, .int .i64 0]
/-- Numbers of one principal's keys rise. -/
def Inc (l : List Ent) : Prop := (∀ (i j : Nat) (e f : Ent), i < j → l[i]? = some e → l[j]? = some f → e.r = f.r → e.n = f.n → e.kv < f.kv) ∧ ∀ e ∈ l, 1 ≤ e.kv
theorem Inc.nil : Inc [] := ⟨fun i j e f _ h => by simp at h, fun e h => by cases h⟩
theorem lastE_none {f : Ent → Bool} {l : List Ent} : lastE f l = none ↔ ∀ e ∈ l, f e = false := by
  unfold lastE
  rw [List.find?_eq_none]
  simp
theorem lastE_ok {f : Ent → Bool} {l : List Ent} {e : Ent} (h : lastE f l = some e) : f e = true := List.find?_some h
theorem lastE_last {f : Ent → Bool} : ∀ {l : List Ent} {e : Ent}, lastE f l = some e → ∃ i : Nat, l[i]? = some e ∧ ∀ (j : Nat) (x : Ent), i < j → l[j]? = some x → f x = false := by
  intro l
  induction h : l.length generalizing l with
  | zero =>
    intro e he
    rw [List.length_eq_zero_iff.1 h] at he; cases he
  | succ n ih =>
    intro e he
    have hne : l ≠ [] := by rintro rfl; simp at h
    have hd := List.dropLast_concat_getLast hne
    have hdl : l.dropLast.length = n := by simp [h]
    rw [← hd, lastE_snoc] at he
    by_cases hf : f (l.getLast hne) = true
    · rw [if_pos hf] at he; cases he
      refine ⟨n, by rw [List.getLast_eq_getElem, List.getElem?_eq_getElem (by omega)]; congr 1; congr 1; omega, fun j x hj hx => ?_⟩
      have := (List.getElem?_eq_some_iff.1 hx).1
      omega
    · rw [if_neg hf] at he
      obtain ⟨i, h1, h2⟩ := ih hdl he
      have hi : i < n := by have := (List.getElem?_eq_some_iff.1 h1).1; omega
      refine ⟨i, by rw [← hd, List.getElem?_append_left (by omega)]; exact h1, fun j x hj hx => ?_⟩
      rw [← hd] at hx
      by_cases hjn : j < n
      · rw [List.getElem?_append_left (by omega)] at hx
        exact h2 j x hj hx
      · have e0 : j = n := by
          have := (List.getElem?_eq_some_iff.1 hx).1
          rw [List.length_append, hdl] at this
          simp at this; omega
        subst e0
        rw [List.getElem?_append_right (by omega), hdl, Nat.sub_self] at hx
        have : l.getLast hne = x := by simpa using hx
        subst this
        simpa using hf
theorem isP_iff {r n : List UInt8} {e : Ent} : isP r n e = true ↔ e.r = r ∧ e.n = n := by unfold isP; exact decide_eq_true_iff
theorem isK_iff {r n : List UInt8} {k : Int} {e : Ent} : isK r n k e = true ↔ (e.r = r ∧ e.n = n) ∧ (e.kv : Int) = k := by
  unfold isK
  rw [Bool.and_eq_true, isP_iff, decide_eq_true_iff]
/-- One at most has a number: the first that has it is the last one. -/
theorem Inc.find {l : List Ent} (h : Inc l) (r n : List UInt8) (k : Int) : l.find? (isK r n k) = lastE (isK r n k) l := by
  cases hf : l.find? (isK r n k) with
  | none =>
    rw [List.find?_eq_none] at hf
    exact (lastE_none.2 fun e he => by simpa using hf e he).symm
  | some e =>
    have hm := List.mem_of_find?_eq_some hf
    have hk := List.find?_some hf
    cases hg : lastE (isK r n k) l with
    | none => rw [lastE_none.1 hg e hm] at hk; cases hk
    | some f =>
      have hm2 := lastE_mem hg
      have hk2 := lastE_ok hg
      obtain ⟨⟨a1, a2⟩, a3⟩ := isK_iff.1 hk
      obtain ⟨⟨b1, b2⟩, b3⟩ := isK_iff.1 hk2
      obtain ⟨i, hi, e1⟩ := List.mem_iff_getElem.1 hm
      obtain ⟨j, hj, e2⟩ := List.mem_iff_getElem.1 hm2
      have x1 : l[i]? = some e := by rw [List.getElem?_eq_getElem hi, e1]
      have x2 : l[j]? = some f := by rw [List.getElem?_eq_getElem hj, e2]
      rcases Nat.lt_trichotomy i j with c | c | c
      · have := h.1 i j e f c x1 x2 (a1.trans b1.symm) (a2.trans b2.symm); omega
      · subst c; rw [x1] at x2; exact x2
      · have := h.1 j i f e c x2 x1 (b1.trans a1.symm) (b2.trans a2.symm); omega
theorem Inc.findLast {l : List Ent} (h : Inc l) (r n : List UInt8) : l.find? (isK r n (kvOf (lastE (isP r n) l))) = lastE (isP r n) l := by
  cases hg : lastE (isP r n) l with
  | none =>
    show l.find? (isK r n ((0 : Nat) : Int)) = none
    rw [List.find?_eq_none]
    intro e he hc
    have := lastE_none.1 hg e he
    obtain ⟨h1, _⟩ := isK_iff.1 hc
    rw [isP_iff.2 h1] at this; cases this
  | some e =>
    rw [h.find]
    show lastE (isK r n (e.kv : Int)) l = some e
    obtain ⟨h1, h2⟩ := isP_iff.1 (lastE_ok hg)
    have hk : isK r n (e.kv : Int) e = true := isK_iff.2 ⟨⟨h1, h2⟩, rfl⟩
    cases hf : lastE (isK r n (e.kv : Int)) l with
    | none => rw [lastE_none.1 hf e (lastE_mem hg)] at hk; cases hk
    | some f =>
      obtain ⟨⟨b1, b2⟩, b3⟩ := isK_iff.1 (lastE_ok hf)
      obtain ⟨i, hi, e1⟩ := List.mem_iff_getElem.1 (lastE_mem hg)
      obtain ⟨j, hj, e2⟩ := List.mem_iff_getElem.1 (lastE_mem hf)
      have x1 : l[i]? = some e := by rw [List.getElem?_eq_getElem hi, e1]
      have x2 : l[j]? = some f := by rw [List.getElem?_eq_getElem hj, e2]
      rcases Nat.lt_trichotomy i j with c | c | c
      · have := h.1 i j e f c x1 x2 (h1.trans b1.symm) (h2.trans b2.symm); omega
      · subst c; rw [x1] at x2; exact x2.symm
      · have := h.1 j i f e c x2 x1 (b1.trans h1.symm) (b2.trans h2.symm); omega
theorem Inc.snoc {l : List Ent} (h : Inc l) {e : Ent} (he : e.kv = nextKv (lastE (isP e.r e.n) l)) : Inc (l ++ [e]) := by
  refine ⟨fun i j x y hij hi hj hr hn => ?_, fun x hx => ?_⟩
  · by_cases hjl : j < l.length
    · rw [List.getElem?_append_left hjl] at hj
      rw [List.getElem?_append_left (by omega)] at hi
      exact h.1 i j x y hij hi hj hr hn
    · have e0 : j = l.length := by
        have := (List.getElem?_eq_some_iff.1 hj).1
        simp at this; omega
      subst e0
      rw [List.getElem?_append_right (by omega), Nat.sub_self] at hj
      rw [List.getElem?_append_left hij] at hi
      have : e = y := by simpa using hj
      subst this
      have hx : x ∈ l := List.mem_of_getElem? hi
      cases hg : lastE (isP e.r e.n) l with
      | none =>
        have := lastE_none.1 hg x hx
        rw [isP_iff.2 ⟨hr, hn⟩] at this; cases this
      | some f =>
        rw [hg] at he
        have he : e.kv = f.kv + 1 := he
        obtain ⟨b1, b2⟩ := isP_iff.1 (lastE_ok hg)
        obtain ⟨q, hq, hlast⟩ := lastE_last hg
        rcases Nat.lt_trichotomy i q with c | c | c
        · have := h.1 i q x f c hi hq (hr.trans b1.symm) (hn.trans b2.symm); omega
        · subst c; rw [hi] at hq; cases hq; omega
        · have := hlast i x c hi
          rw [isP_iff.2 ⟨hr, hn⟩] at this; cases this
  · rcases List.mem_append.1 hx with hx | hx
    · exact h.2 x hx
    · have : x = e := by simpa using hx
      subst this
      rw [he]
      cases lastE (isP x.r x.n) l with
      | none => exact Nat.le_refl _
      | some f => show 1 ≤ f.kv + 1; omega
theorem c37x {H : PH} {rid v : Nat} {l : List Ent} (hid : H[rid]? = some (xringO l v)) (hl : l.length ≤ 1000) (hk : ∀ e ∈ l, e.key.length = 32) (hinc : Inc l) (r n : List UInt8) :
    CallOk prog 37 [.ptr (some (rid, 0)), .agg [.str r, .str n]] H fun x H' => x = xlastV (lastE (isP r n) l) ∧ ∃ ext, H' = H ++ ext := by
  (refine callOk_of_pFun2 (tt := ttXr) (imm := imm37) follows ttXr_ok depth6 func37 (by kernel_rfl) ?_; (conv => whnf))
  have hid2 : ∀ o, (H ++ [o])[rid]? = some (xringO l v) := fun o => by rw [List.getElem?_append_left (List.getElem?_eq_some_iff.1 hid).1]; exact hid
  refine callK_of (c89 (hid2 _) hl hk r n) ?_
  rintro x H' ⟨hx, hH⟩
  rw [hx, hH]; clear hx hH
  (conv => whnf)
  refine callK_of (c33 (hid2 _) hl hk r n _) ?_
  rintro x H' ⟨hx, hH⟩
  rw [hx, hH, hinc.findLast]; clear hx hH
  have g1 : ∀ a b c : PObj, ((H ++ [a] ++ [b]).set (H ++ [a]).length c)[H.length]? = some a := fun a b c => by simp
  have g2 : ∀ a b c : PObj, ((H ++ [a] ++ [b]).set (H ++ [a]).length c)[(H ++ [a]).length]? = some c := fun a b c => List.getElem?_set_self (by simp)
  have g0 : ∀ a b : PObj, (H ++ [a] ++ [b])[(H ++ [a]).length]? = some b := fun a b => get_last _ _
  have g3 : ∀ a b c d : PObj, (((H ++ [a] ++ [b]).set (H ++ [a]).length c).set H.length d)[H.length]? = some d := fun a b c d => by simp
  have gx : ∀ a b c d : PObj, ∃ ext, ((H ++ [a] ++ [b]).set (H ++ [a]).length c).set H.length d = H ++ ext := fun a b c d => ⟨[d, c], by simp⟩
  cases he : lastE (isP r n) l with
  | none =>
    (conv => whnf)
    ((conv in (_[_]?) => tactic => exact g0 _ _); (conv => whnf))
    refine ⟨fun h => absurd h (by decide), fun _ => ?_⟩
    (conv => whnf)
    ((conv in (_[_]?) => tactic => exact g1 _ _ _); (conv => whnf))
    ((conv in (_[_]?) => tactic => exact g3 _ _ _ _); (conv => whnf))
    exact ⟨rfl, gx _ _ _ _⟩
  | some e =>
    have hkey := hk e (lastE_mem he)
    obtain ⟨er, en, kv, key, box⟩ := e
    match key, hkey with
    | [a0, a1, a2, a3, a4, a5, a6, a7, a8, a9, a10, a11, a12, a13, a14, a15, b0, b1, b2, b3, b4, b5, b6, b7, b8, b9, b10, b11, b12, b13, b14, b15], _ =>
      (conv => whnf)
      ((conv in (_[_]?) => tactic => exact g0 _ _); (conv => whnf))
      refine ⟨fun _ => ?_, fun h => absurd rfl h⟩
      (conv => whnf)
      ((conv in (_[_]?) => tactic => exact g2 _ _ _); (conv => whnf))
      ((conv in (_[_]?) => tactic => exact g1 _ _ _); (conv => whnf))
      ((conv in (_[_]?) => tactic => exact g3 _ _ _ _); (conv => whnf))
      exact ⟨rfl, gx _ _ _ _⟩
theorem xlastV_old (x : Option Ent) : oldR (xlastV x) = true := by
  cases x with
  | none => rfl
  | some e =>
    show (oldP (.agg (e.key.map byteC)) && true) = true
    rw [show oldP (.agg (e.key.map byteC)) = oldPs (e.key.map byteC) from rfl, oldPs_bytes]; rfl
theorem c37 {H : PH} {rid v : Nat} {l : List Ent} (hid : H[rid]? = some (xringO l v)) (hl : l.length ≤ 1000) (hk : ∀ e ∈ l, e.key.length = 32) (hinc : Inc l) (r n : List UInt8) :
    CallOk prog 37 [.ptr (some (rid, 0)), .agg [.str r, .str n]] H fun x H' => x = xlastV (lastE (isP r n) l) ∧ H' = H :=
  ((c37x hid hl hk hinc r n).gc fun r H' hh => ⟨by rw [hh.1]; exact xlastV_old _, hh.2⟩).mono fun x H' hh => ⟨hh.2.elim fun _ h => h.1, hh.1⟩
end Go.Proofs.Tryz

set_option maxRecDepth 100000
set_option linter.unusedVariables false
namespace Go.Proofs.Tryz
open Go Ps
def keyE (e : Ent) : List PV := e.key.map byteC
structure KeS where
  k : Nat
  H : PH
  v : PV
def keyOk (H : PH) (l : List Ent) (k : Nat) (H' : PH) (v : PV) : Prop :=
  (k = 0 ∧ v = .nilS) ∨ (0 < k ∧ ∃ id cap o, v = .sref id 0 k cap ∧ H.length ≤ id ∧ H'[id]? = some o ∧ (k ≤ cap ∧ o.cs.length = cap * 32) ∧ o.cs.take (k * 32) = (l.take k).flatMap keyE)
theorem take_preE {a b : List PV} {n : Nat} (h : a.length = n) : (a ++ b).take n = a := by subst h; simp
theorem dem_keys (l : List Ent) : (l.flatMap keyE).map dem = l.flatMap keyE := by
  rw [List.map_flatMap]
  congr 1
  funext e
  show ((e.key.map byteC).map dem) = e.key.map byteC
  rw [List.map_map]
  rfl
theorem c38 {H : PH} {rid v : Nat} {l : List Ent} (hid : H[rid]? = some (ringO l v)) (hl : l.length ≤ 1000) (hk : ∀ e ∈ l, e.key.length = 32) :
    CallOk prog 38 [.ptr (some (rid, 0))] H fun r H' => Ext H H' ∧ keyOk H l l.length H' r := by
  (refine callOk_of_pFun2 (tt := ttR) (imm := imm38) follows ttR_ok depth6 func38 (by kernel_rfl) ?_; (conv => whnf))
  ((conv in (_[_]?) => tactic => exact hid); (conv => whnf))
  refine loopK_of KeS (fun x => [(11, .slice l.length (l.flatMap Ent.cells) none), (12, .int .i64 l.length), (13, .int .i64 x.k), (3, x.v)]) (fun x => x.H)
    (fun x => x.k ≤ l.length ∧ Ext H x.H ∧ keyOk H l x.k x.H x.v) (fun x => l.length - x.k)
    ⟨⟨0, H, .nilS⟩, ⟨Nat.zero_le _, Ext.refl H, .inl ⟨rfl, rfl⟩⟩, ⟨rfl, rfl, rfl, rfl, trivial⟩, rfl⟩ ?_
  rintro ⟨k, H1, lv⟩ ⟨g1, g2, g3⟩
  have g1 : k ≤ l.length := g1
  have g2 : Ext H H1 := g2
  have g3 : keyOk H l k H1 lv := g3
  (conv => whnf)
  refine ⟨fun hkl => ?_, fun hkl => ?_⟩
  · (conv => whnf)
    have hkl : (k : Int) < l.length := hkl
    have hi : k < l.length := by omega
    refine ⟨⟨by show (0 : Int) ≤ (k : Int); omega, hkl⟩, l[k].cells, fun j c hj => ?_, ?_⟩
    · rw [← flat_at hk hi j c hj]
      show (l.flatMap Ent.cells)[(k : Int).toNat * 36 + j]? = _
      rw [Int.toNat_natCast]
    have hkey := hk _ (List.getElem_mem hi)
    have htake : (l.take (k + 1)).flatMap keyE = (l.take k).flatMap keyE ++ keyE l[k] := by
      rw [List.take_succ_eq_append_getElem hi, List.flatMap_append]; simp
    have hkc : (keyE l[k]).length = 32 := by simp [keyE, hkey]
    generalize l[k] = e at hkey htake hkc ⊢
    obtain ⟨er, en, kv, key, box⟩ := e
    match key, hkey with
    | [a0, a1, a2, a3, a4, a5, a6, a7, a8, a9, a10, a11, a12, a13, a14, a15, b0, b1, b2, b3, b4, b5, b6, b7, b8, b9, b10, b11, b12, b13, b14, b15], _ =>
      have hlast : ∀ (E : Env) (H' : PH) (v' : PV), subE [(11, .slice l.length (l.flatMap Ent.cells) none), (12, .int .i64 l.length), (13, .int .i64 (IntKind.i64.wrap ((k : Int) + 1))), (3, v')] E → Ext H H' → keyOk H l (k + 1) H' v' →
        ∃ s' : KeS, (s'.k ≤ l.length ∧ Ext H s'.H ∧ keyOk H l s'.k s'.H s'.v) ∧ subE [(11, .slice l.length (l.flatMap Ent.cells) none), (12, .int .i64 l.length), (13, .int .i64 s'.k), (3, s'.v)] E ∧ H' = s'.H ∧ l.length - s'.k < l.length - k := by
        intro E H' v' hE hx hky
        rw [wrap64 (by omega) (by omega)] at hE
        exact ⟨⟨k + 1, H', v'⟩, ⟨by show k + 1 ≤ l.length; omega, hx, hky⟩, hE, rfl, by show l.length - (k + 1) < l.length - k; omega⟩
      have hlen := g2.len
      rcases g3 with ⟨rfl, rfl⟩ | ⟨hk0, id, cap, o, rfl, hid1, hob, hcl, hct⟩
      · (conv => whnf)
        ((conv in (_[_]?) => tactic => exact get_last H1 _); (conv => whnf))
        ((conv in (_[_]?) => tactic => exact (show ((H1 ++ [_]).set H1.length _)[H1.length]? = some _ from List.getElem?_set_self (by simp))); (conv => whnf))
        refine ⟨⟨by show 1 * 32 ≤ _; omega, rfl, rfl⟩, fun h => absurd h (by omega), fun _ cap' hc => ?_⟩
        (conv => whnf)
        refine hlast _ _ _ ⟨rfl, rfl, rfl, rfl, trivial⟩ (((g2.push _).set (by omega) _).push _) (.inr ⟨by omega, _, cap', _, rfl, ?_, get_last _ _, ?_, ?_⟩)
        · show H.length ≤ ((H1 ++ [_]).set H1.length _).length
          simp; omega
        · show 1 ≤ cap' ∧ (List.map byteC [a0, a1, a2, a3, a4, a5, a6, a7, a8, a9, a10, a11, a12, a13, a14, a15, b0, b1, b2, b3, b4, b5, b6, b7, b8, b9, b10, b11, b12, b13, b14, b15] ++ zerosOf (List.replicate 32 (PV.int .u8 0)) (cap' - 1)).length = cap' * 32
          refine ⟨hc, ?_⟩
          rw [List.length_append, (zerosOf_get (z := List.replicate 32 (PV.int .u8 0)) (sz := 32) rfl (by omega) (cap' - 1)).1]
          show 32 + (cap' - 1) * 32 = cap' * 32
          omega
        · show List.take 32 (List.map byteC [a0, a1, a2, a3, a4, a5, a6, a7, a8, a9, a10, a11, a12, a13, a14, a15, b0, b1, b2, b3, b4, b5, b6, b7, b8, b9, b10, b11, b12, b13, b14, b15] ++ _) = (l.take (0 + 1)).flatMap keyE
          rw [htake, take_preE (n := 32) rfl]
          rfl
      · obtain ⟨hcl, hcm⟩ := hcl
        have hoid : ∀ a b : PObj, ((H1 ++ [a]).set H1.length b)[id]? = some o := fun a b => by
          have := (List.getElem?_eq_some_iff.1 hob).1
          rw [List.getElem?_set_ne (by omega), List.getElem?_append_left this]; exact hob
        (conv => whnf)
        ((conv in (_[_]?) => tactic => exact get_last H1 _); (conv => whnf))
        ((conv in (_[_]?) => tactic => exact (show ((H1 ++ [_]).set H1.length _)[H1.length]? = some _ from List.getElem?_set_self (by simp))); (conv => whnf))
        ((conv in (_[_]?) => tactic => exact hoid _ _); (conv => whnf))
        refine ⟨⟨rfl, by show (k + 1) * 32 ≤ _; omega, rfl, rfl, by show k * 32 ≤ _; omega⟩, fun hroom => ⟨by show (k + 1) * 32 ≤ _; omega, ?_⟩, fun hgrow cap' hc => ?_⟩
        · (conv => whnf)
          have hse : (setCells (k * 32) (List.map byteC [a0, a1, a2, a3, a4, a5, a6, a7, a8, a9, a10, a11, a12, a13, a14, a15, b0, b1, b2, b3, b4, b5, b6, b7, b8, b9, b10, b11, b12, b13, b14, b15]) o.cs) = o.cs.take (k * 32) ++ List.map byteC [a0, a1, a2, a3, a4, a5, a6, a7, a8, a9, a10, a11, a12, a13, a14, a15, b0, b1, b2, b3, b4, b5, b6, b7, b8, b9, b10, b11, b12, b13, b14, b15] ++ o.cs.drop (k * 32 + 32) := setCells_eq _ _ _ (by show k * 32 + 32 ≤ _; omega)
          refine hlast _ _ _ ⟨rfl, rfl, rfl, rfl, trivial⟩ (((g2.push _).set (by omega) _).set hid1 _) (.inr ⟨by omega, id, cap, ⟨o.T, setCells (k * 32) (List.map byteC [a0, a1, a2, a3, a4, a5, a6, a7, a8, a9, a10, a11, a12, a13, a14, a15, b0, b1, b2, b3, b4, b5, b6, b7, b8, b9, b10, b11, b12, b13, b14, b15]) o.cs, o.ver + 1⟩, rfl, hid1, get_set (hoid _ _), ⟨hroom, ?_⟩, ?_⟩)
          · show (setCells (k * 32) (List.map byteC [a0, a1, a2, a3, a4, a5, a6, a7, a8, a9, a10, a11, a12, a13, a14, a15, b0, b1, b2, b3, b4, b5, b6, b7, b8, b9, b10, b11, b12, b13, b14, b15]) o.cs).length = cap * 32
            rw [setCells_length _ _ _ (by show k * 32 + 32 ≤ _; omega)]; exact hcm
          · show (setCells (k * 32) (List.map byteC [a0, a1, a2, a3, a4, a5, a6, a7, a8, a9, a10, a11, a12, a13, a14, a15, b0, b1, b2, b3, b4, b5, b6, b7, b8, b9, b10, b11, b12, b13, b14, b15]) o.cs).take ((k + 1) * 32) = _
            rw [hse, htake, hct, ← hct, take_preE (by rw [List.length_append, List.length_take]; show min (k * 32) o.cs.length + 32 = _; omega)]
            rfl
        · (conv => whnf)
          refine hlast _ _ _ ⟨rfl, rfl, rfl, rfl, trivial⟩ (((g2.push _).set (by omega) _).push _) (.inr ⟨by omega, _, cap', ⟨49, (o.cs.take (k * 32)).map dem ++ List.map byteC [a0, a1, a2, a3, a4, a5, a6, a7, a8, a9, a10, a11, a12, a13, a14, a15, b0, b1, b2, b3, b4, b5, b6, b7, b8, b9, b10, b11, b12, b13, b14, b15] ++ zerosOf (List.replicate 32 (PV.int .u8 0)) (cap' - (k + 1)), 0⟩, rfl, ?_, get_last _ _, ⟨hc, ?_⟩, ?_⟩)
          · show H.length ≤ ((H1 ++ [_]).set H1.length _).length
            simp; omega
          · show ((o.cs.take (k * 32)).map dem ++ List.map byteC [a0, a1, a2, a3, a4, a5, a6, a7, a8, a9, a10, a11, a12, a13, a14, a15, b0, b1, b2, b3, b4, b5, b6, b7, b8, b9, b10, b11, b12, b13, b14, b15] ++ zerosOf (List.replicate 32 (PV.int .u8 0)) (cap' - (k + 1))).length = cap' * 32
            rw [List.length_append, List.length_append, List.length_map, List.length_take, (zerosOf_get (z := List.replicate 32 (PV.int .u8 0)) (sz := 32) rfl (by omega) (cap' - (k + 1))).1]
            show min (k * 32) o.cs.length + 32 + (cap' - (k + 1)) * 32 = cap' * 32
            omega
          · show ((o.cs.take (k * 32)).map dem ++ List.map byteC [a0, a1, a2, a3, a4, a5, a6, a7, a8, a9, a10, a11, a12, a13, a14, a15, b0, b1, b2, b3, b4, b5, b6, b7, b8, b9, b10, b11, b12, b13, b14, b15] ++ zerosOf (List.replicate 32 (PV.int .u8 0)) (cap' - (k + 1))).take ((k + 1) * 32) = _
            rw [htake, take_preE (by rw [List.length_append, List.length_map, List.length_take]; show min (k * 32) o.cs.length + 32 = _; omega), hct, dem_keys]
            rfl
  · (conv => whnf)
    have hkl : ¬ (k : Int) < l.length := hkl
    have : k = l.length := by omega
    subst this
    rcases g3 with ⟨y1, rfl⟩ | ⟨y1, id, cap, o, rfl, y2⟩
    · (conv => whnf)
      exact ⟨g2, .inl ⟨y1, rfl⟩⟩
    · (conv => whnf)
      exact ⟨g2, .inr ⟨y1, id, cap, o, rfl, y2⟩⟩
end Go.Proofs.Tryz

set_option maxRecDepth 100000
set_option maxHeartbeats 4000000
set_option linter.unusedVariables false
set_option linter.unusedSimpArgs false
namespace Go.Proofs.Tryz
open Go Ps
def ttPl : TT := [(3, ⟨.int .i64, 1, 8, [.int .i64 0]⟩), (4, ⟨.bool, 1, 1, [.bool false]⟩), (5, ⟨.int .u8, 1, 1, [.int .u8 0]⟩), (9, ⟨.str, 1, 16, [.str []]⟩), (22, ⟨.slice 5, 1, 24, [.slice 0 [] (some 5)]⟩), (24, ⟨.strct [(9, 0), (9, 1)], 2, 32, [.str [], .str []]⟩), (35, ⟨.int .i64, 1, 8, [.int .i64 0]⟩), (49, ⟨.arr 32 5, 32, 32, List.replicate 32 (.int .u8 0)⟩), (77, ⟨.slice 86, 1, 24, [.slice 0 [] (some 86)]⟩), (79, ⟨.ptr, 1, 8, [.ptr none]⟩), (81, ⟨.ptr, 1, 8, [.ptr none]⟩), (82, ⟨.slice 106, 1, 24, [.slice 0 [] (some 106)]⟩), (84, ⟨.strct [(82, 0)], 1, 24, [.slice 0 [] (some 106)]⟩), (86, ⟨.strct [(3, 0), (24, 1), (49, 3), (3, 35)], 36, 80, [.int .i64 0, .str [], .str []] ++ List.replicate 32 (.int .u8 0) ++ [.int .i64 0]⟩), (91, ⟨.ptr, 1, 8, [.ptr none]⟩), (102, ⟨.slice 49, 1, 24, [.slice 0 [] (some 49)]⟩), (106, ⟨.strct [(24, 0), (3, 2), (49, 3)], 35, 72, [.str [], .str [], .int .i64 0] ++ List.replicate 32 (.int .u8 0)⟩)]
theorem ttPl_ok : ttOk prog ttPl = true := by kernel_rfl
def imm5 : List Nat := []

def key32 (k : Nat → UInt8) : List UInt8 := [k 0, k 1, k 2, k 3, k 4, k 5, k 6, k 7, k 8, k 9, k 10, k 11, k 12, k 13, k 14, k 15, k 16, k 17, k 18, k 19, k 20, k 21, k 22, k 23, k 24, k 25, k 26, k 27, k 28, k 29, k 30, k 31]
structure Act where
  kind : Int
  r : List UInt8
  n : List UInt8
  k : Nat → UInt8
  kv : Int
def Act.cells (a : Act) : List PV := [.int .i64 a.kind, .str a.r, .str a.n] ++ (key32 a.k).map byteC ++ [.int .i64 a.kv]
theorem act_len (a : Act) : a.cells.length = 36 := rfl
theorem acts_at (l : List Act) {i : Nat} (hi : i < l.length) : ∀ (j : Nat) (c : PV), l[i].cells[j]? = some c → (l.flatMap Act.cells)[(i : Int).toNat * 36 + j]? = some c := by
  intro j c h
  rw [Int.toNat_natCast]
  induction l generalizing i with
  | nil => simp at hi
  | cons e l ih =>
    rw [List.flatMap_cons]
    have he := act_len e
    cases i with
    | zero =>
      have hj : j < e.cells.length := (List.getElem?_eq_some_iff.1 h).1
      rw [Nat.zero_mul, Nat.zero_add, List.getElem?_append_left hj]; exact h
    | succ i =>
      rw [List.getElem?_append_right (by omega), show (i + 1) * 36 + j - e.cells.length = i * 36 + j by omega]
      exact ih (by simpa using hi) h
def actsV (l : List Act) : PV := .slice l.length (l.flatMap Act.cells) none
structure LoS where
  k : Nat
  n : Nat
theorem c28 (l : List Act) (hl : l.length ≤ 140737488355328) (hb : ∀ a ∈ l, a.r.length ≤ 140737488355328 ∧ a.n.length ≤ 140737488355328) (H : PH) :
    CallOk prog 28 [actsV l] H fun x H' => (∃ b, x = .bool b ∧ (b = false → ∀ (i : Nat) (a : Act), l[i]? = some a → i < 60 → a.r.length ≤ 4000 ∧ a.n.length ≤ 4000)) ∧ H' = H := by
  (refine callOk_of_pFun2 (tt := ttPl) (imm := imm28) follows ttPl_ok depth6 func28 (by kernel_rfl) ?_; (conv => whnf))
  refine loopK_of LoS (fun x => [(0, actsV l), (3, .int .i64 x.n), (4, .int .i64 x.k)]) (fun _ => H) (fun x => x.k ≤ l.length ∧ x.n ≤ 4000 ∧ ∀ (i : Nat) (a : Act), l[i]? = some a → i < x.k → a.r.length ≤ 4000 ∧ a.n.length ≤ 4000) (fun x => l.length - x.k)
    ⟨⟨0, 0⟩, ⟨Nat.zero_le _, Nat.zero_le _, fun i a _ h => absurd h (by show ¬ i < 0; omega)⟩, ⟨rfl, rfl, rfl, trivial⟩, rfl⟩ ?_
  rintro ⟨k, n⟩ ⟨hkl, hn, hall⟩
  replace hkl : k ≤ l.length := hkl
  replace hn : n ≤ 4000 := hn
  (conv => whnf)
  refine ⟨fun h => ?_, fun h => ?_⟩
  · have h : (k : Int) < l.length := h
    have hi : k < l.length := by omega
    have hat := acts_at l hi
    have hab := hb _ (List.getElem_mem hi)
    have hg := List.getElem?_eq_getElem hi
    generalize l[k] = a at hat hab hg
    obtain ⟨kind, ar, an, ak, akv⟩ := a
    obtain ⟨hr1, hr2⟩ : ar.length ≤ 140737488355328 ∧ an.length ≤ 140737488355328 := hab
    (conv => whnf)
    refine ⟨fun h60 => ?_, fun h60 => ?_⟩
    · (conv => whnf)
      refine drawK_pure2 (by kernel_rfl) ?_
      (conv => whnf)
      (apply Exists.intro; apply And.intro; (focus ((conv => whnf); first | exact ⟨rfl, rfl, trivial⟩ | (refine ⟨by omega, ?_⟩; (conv => whnf); exact ⟨rfl, rfl, trivial⟩))); (conv => whnf))
      (apply Exists.intro; apply And.intro; (focus ((conv => whnf); first | exact ⟨rfl, rfl, trivial⟩ | (refine ⟨by omega, ?_⟩; (conv => whnf); exact ⟨rfl, rfl, trivial⟩))); (conv => whnf))
      (apply Exists.intro; apply And.intro; (focus ((conv => whnf); first | exact ⟨rfl, rfl, trivial⟩ | (refine ⟨by omega, ?_⟩; (conv => whnf); exact ⟨rfl, rfl, trivial⟩))); (conv => whnf))
      (apply Exists.intro; apply And.intro; (focus ((conv => whnf); first | exact ⟨rfl, rfl, trivial⟩ | (refine ⟨by omega, ?_⟩; (conv => whnf); exact ⟨rfl, rfl, trivial⟩))); (conv => whnf))
      refine ⟨.elem (Act.mk kind ar an ak akv).cells, ⟨⟨by omega, h⟩, (Act.mk kind ar an ak akv).cells, hat, rfl, rfl, trivial⟩, ?_⟩
      (conv => whnf)
      (apply Exists.intro; apply And.intro; (focus ((conv => whnf); first | exact ⟨rfl, rfl, trivial⟩ | (refine ⟨by omega, ?_⟩; (conv => whnf); exact ⟨rfl, rfl, trivial⟩))); (conv => whnf))
      (apply Exists.intro; apply And.intro; (focus ((conv => whnf); first | exact ⟨rfl, rfl, trivial⟩ | (refine ⟨by omega, ?_⟩; (conv => whnf); exact ⟨rfl, rfl, trivial⟩))); (conv => whnf))
      (apply Exists.intro; apply And.intro; (focus ((conv => whnf); first | exact ⟨rfl, rfl, trivial⟩ | (refine ⟨by omega, ?_⟩; (conv => whnf); exact ⟨rfl, rfl, trivial⟩))); (conv => whnf))
      (apply Exists.intro; apply And.intro; (focus ((conv => whnf); first | exact ⟨rfl, rfl, trivial⟩ | (refine ⟨by omega, ?_⟩; (conv => whnf); exact ⟨rfl, rfl, trivial⟩))); (conv => whnf))
      (apply Exists.intro; apply And.intro; (focus ((conv => whnf); first | exact ⟨rfl, rfl, trivial⟩ | (refine ⟨by omega, ?_⟩; (conv => whnf); exact ⟨rfl, rfl, trivial⟩))); (conv => whnf))
      (apply Exists.intro; apply And.intro; (focus ((conv => whnf); first | exact ⟨rfl, rfl, trivial⟩ | (refine ⟨by omega, ?_⟩; (conv => whnf); exact ⟨rfl, rfl, trivial⟩))); (conv => whnf))
      (apply Exists.intro; apply And.intro; (focus ((conv => whnf); first | exact ⟨rfl, rfl, trivial⟩ | (refine ⟨by omega, ?_⟩; (conv => whnf); exact ⟨rfl, rfl, trivial⟩))); (conv => whnf))
      refine ⟨.elem (Act.mk kind ar an ak akv).cells, ⟨⟨by omega, h⟩, (Act.mk kind ar an ak akv).cells, hat, rfl, rfl, trivial⟩, ?_⟩
      (conv => whnf)
      (apply Exists.intro; apply And.intro; (focus ((conv => whnf); first | exact ⟨rfl, rfl, trivial⟩ | (refine ⟨by omega, ?_⟩; (conv => whnf); exact ⟨rfl, rfl, trivial⟩))); (conv => whnf))
      (apply Exists.intro; apply And.intro; (focus ((conv => whnf); first | exact ⟨rfl, rfl, trivial⟩ | (refine ⟨by omega, ?_⟩; (conv => whnf); exact ⟨rfl, rfl, trivial⟩))); (conv => whnf))
      (apply Exists.intro; apply And.intro; (focus ((conv => whnf); first | exact ⟨rfl, rfl, trivial⟩ | (refine ⟨by omega, ?_⟩; (conv => whnf); exact ⟨rfl, rfl, trivial⟩))); (conv => whnf))
      (apply Exists.intro; apply And.intro; (focus ((conv => whnf); first | exact ⟨rfl, rfl, trivial⟩ | (refine ⟨by omega, ?_⟩; (conv => whnf); exact ⟨rfl, rfl, trivial⟩))); (conv => whnf))
      (apply Exists.intro; apply And.intro; (focus ((conv => whnf); first | exact ⟨rfl, rfl, trivial⟩ | (refine ⟨by omega, ?_⟩; (conv => whnf); exact ⟨rfl, rfl, trivial⟩))); (conv => whnf))
      (apply Exists.intro; apply And.intro; (focus ((conv => whnf); first | exact ⟨rfl, rfl, trivial⟩ | (refine ⟨by omega, ?_⟩; (conv => whnf); exact ⟨rfl, rfl, trivial⟩))); (conv => whnf))
      have hsum : IntKind.i64.wrap (IntKind.i64.wrap (IntKind.i64.wrap ((n : Int) + 1) + (ar.length : Int)) + (an.length : Int)) = ((n + 1 + ar.length + an.length : Nat) : Int) := by
        rw [wrap64 (x := (n : Int) + 1) (by omega) (by omega), wrap64 (x := (n : Int) + 1 + (ar.length : Int)) (by omega) (by omega), wrap64 (by omega) (by omega)]
        push_cast; rfl
      refine ⟨fun h4 => ?_, fun h4 => ?_⟩
      · (conv => whnf)
        exact ⟨⟨_, rfl, fun h => by cases h⟩, rfl⟩
      · have h4 : ¬ IntKind.i64.wrap (IntKind.i64.wrap (IntKind.i64.wrap ((n : Int) + 1) + (ar.length : Int)) + (an.length : Int)) > 4000 := h4
        rw [hsum] at h4
        (conv => whnf)
        refine ⟨⟨k + 1, n + 1 + ar.length + an.length⟩, ⟨by show k + 1 ≤ l.length; omega, by show n + 1 + ar.length + an.length ≤ 4000; omega, fun i a ha hi => ?_⟩, ⟨rfl, congrArg (PV.int _) hsum, ?_, trivial⟩, rfl, by show l.length - (k + 1) < l.length - k; omega⟩
        · rcases Nat.lt_or_ge i k with c | c
          · exact hall i a ha c
          · have e : i = k := by
              have hi : i < k + 1 := hi
              omega
            subst e
            rw [hg] at ha
            cases ha
            exact ⟨by show ar.length ≤ 4000; omega, by show an.length ≤ 4000; omega⟩
        show PV.int _ (IntKind.i64.wrap ((k : Int) + 1)) = PV.int _ _
        rw [wrap64 (by omega) (by omega)]; simp
    · have h60 : ¬ (k : Int) < 60 := h60
      (conv => whnf)
      exact ⟨⟨_, rfl, fun _ i a ha hi => hall i a ha (by show i < k; omega)⟩, rfl⟩
  · have h : ¬ (k : Int) < l.length := h
    (conv => whnf)
    exact ⟨⟨_, rfl, fun _ i a ha hi => hall i a ha (by
      have := (List.getElem?_eq_some_iff.1 ha).1
      show i < k; omega)⟩, rfl⟩
theorem keyE_flat (l : List Ent) : (l.flatMap keyE).all flatP = true := List.all_eq_true.2 fun x hx => by
  obtain ⟨e, _, he⟩ := List.mem_flatMap.1 hx
  obtain ⟨b, _, rfl⟩ := List.mem_map.1 he
  rfl
theorem keyE_len {l : List Ent} (hk : ∀ e ∈ l, e.key.length = 32) : (l.flatMap keyE).length = l.length * 32 := by
  induction l with
  | nil => rfl
  | cons e l ih =>
    rw [List.flatMap_cons, List.length_append, ih fun e he => hk e (List.mem_cons_of_mem _ he)]
    have : (keyE e).length = 32 := by simp [keyE, hk e List.mem_cons_self]
    rw [this, List.length_cons]; omega
theorem keys_at {l : List Ent} (hk : ∀ e ∈ l, e.key.length = 32) {i : Nat} (hi : i < l.length) (j : Nat) (c : PV) (h : (l[i].key.map byteC)[j]? = some c) : (l.flatMap keyE)[i * 32 + j]? = some c := by
  induction l generalizing i with
  | nil => simp at hi
  | cons e l ih =>
    rw [List.flatMap_cons]
    have he : (keyE e).length = 32 := by simp [keyE, hk e List.mem_cons_self]
    cases i with
    | zero =>
      have h : (keyE e)[j]? = some c := h
      have hj : j < (keyE e).length := (List.getElem?_eq_some_iff.1 h).1
      rw [Nat.zero_mul, Nat.zero_add, List.getElem?_append_left hj]; exact h
    | succ i =>
      rw [List.getElem?_append_right (by omega), show (i + 1) * 32 + j - (keyE e).length = i * 32 + j by omega]
      exact ih (fun e he => hk e (List.mem_cons_of_mem _ he)) (by simpa using hi) h
theorem c38v {H : PH} {rid v : Nat} {l : List Ent} (hid : H[rid]? = some (ringO l v)) (hl : l.length ≤ 1000) (hk : ∀ e ∈ l, e.key.length = 32) :
    CallOk prog 38 [.ptr (some (rid, 0))] H fun r H' => r = .slice l.length (l.flatMap keyE) none ∧ H' = H := by
  rcases Nat.eq_zero_or_pos l.length with h0 | h0
  · have e0 : l = [] := List.length_eq_zero_iff.1 h0
    subst e0
    refine CallOk.nil (((c38 hid hl hk).gc fun r H' hh => ?_).mono fun r H' hh => ?_)
    · obtain ⟨⟨ext, h1⟩, h2⟩ := hh
      rcases h2 with ⟨_, rfl⟩ | ⟨h2, _⟩
      · exact ⟨rfl, ext, h1⟩
      · exact absurd h2 (by simp)
    · obtain ⟨h1, ext, h2, h3⟩ := hh
      rcases h3 with ⟨_, rfl⟩ | ⟨h3, _⟩
      · exact ⟨rfl, h1⟩
      · exact absurd h3 (by simp)
  · refine CallOk.frz (nn := l.length) (cs := l.flatMap keyE) (c38 hid hl hk) fun r H' hh => ?_
    obtain ⟨⟨ext, rfl⟩, h2⟩ := hh
    rcases h2 with ⟨h2, _⟩ | ⟨_, id, cap, o, rfl, h3, h4, ⟨h5, h6⟩, h7⟩
    · omega
    · rw [List.take_length] at h7
      have hkl := keyE_len hk
      have : l.length * 32 ≤ cap * 32 := Nat.mul_le_mul_right _ h5
      exact ⟨ext, id, cap, o, rfl, rfl, h3, h4, by omega, by rw [hkl]; exact h7, keyE_flat l⟩
end Go.Proofs.Tryz

set_option maxRecDepth 100000
set_option linter.unusedVariables false
namespace Go.Proofs.Tryz
open Go Ps
open Go.Proofs.YtbejjlmdmakdfaaGreatDoor (rows_ints bytes_of)
theorem rdKey1 {B n : Nat} {ps : List PV} (h : RdP prog B (n + 2) 49 ps) : ∃ k : Nat → UInt8, ps = (key32 k).map byteC := by
  obtain ⟨rs, hl, rfl, hr⟩ : ∃ rs : List (List PV), rs.length = 32 ∧ ps = rs.flatten ∧ ∀ r ∈ rs, RdP prog B (n + 1) 5 r := h
  obtain ⟨xs, e1, e2, e3⟩ := rows_ints (k := .u8) fun r hr' => hr r hr'
  obtain ⟨bs, e4, e5⟩ := bytes_of e3
  have hb : bs.length = 32 := by omega
  rw [e2, e5]
  match bs, hb with
  | [a0, a1, a2, a3, a4, a5, a6, a7, a8, a9, a10, a11, a12, a13, a14, a15, b0, b1, b2, b3, b4, b5, b6, b7, b8, b9, b10, b11, b12, b13, b14, b15], _ =>
    exact ⟨fun i => [a0, a1, a2, a3, a4, a5, a6, a7, a8, a9, a10, a11, a12, a13, a14, a15, b0, b1, b2, b3, b4, b5, b6, b7, b8, b9, b10, b11, b12, b13, b14, b15].getD i 0, rfl⟩
theorem rdAct {B n : Nat} {ps : List PV} (h : RdP prog B (n + 3) 86 ps) : ∃ a : Act, ps = a.cells ∧ a.r.length ≤ B ∧ a.n.length ≤ B := by
  obtain ⟨a, _, rfl, ha, b, _, rfl, hb, c, _, rfl, hc, d, _, rfl, hd, rfl⟩ : ∃ a x, ps = a ++ x ∧ RdP prog B (n + 2) 3 a ∧ ∃ b y, x = b ++ y ∧ RdP prog B (n + 2) 24 b ∧ ∃ c z, y = c ++ z ∧ RdP prog B (n + 2) 49 c ∧ ∃ d u, z = d ++ u ∧ RdP prog B (n + 2) 3 d ∧ u = [] := h
  obtain ⟨kind, rfl, _⟩ : ∃ i, a = [.int .i64 i] ∧ _ := ha
  obtain ⟨p, _, rfl, hp, q, _, rfl, hq, rfl⟩ : ∃ a b', b = a ++ b' ∧ RdP prog B (n + 1) 9 a ∧ ∃ c d, b' = c ++ d ∧ RdP prog B (n + 1) 9 c ∧ d = [] := hb
  obtain ⟨r, rfl, hr⟩ : ∃ s : List UInt8, p = [.str s] ∧ s.length ≤ B := hp
  obtain ⟨k, rfl, hk⟩ : ∃ s : List UInt8, q = [.str s] ∧ s.length ≤ B := hq
  obtain ⟨key, rfl⟩ := rdKey1 hc
  obtain ⟨kv, rfl, _⟩ : ∃ i, d = [.int .i64 i] ∧ _ := hd
  exact ⟨⟨kind, r, k, key, kv⟩, rfl, hr, hk⟩
theorem rows_acts {B n : Nat} : ∀ {rs : List (List PV)}, (∀ r ∈ rs, RdP prog B (n + 3) 86 r) → ∃ l : List Act, rs.length = l.length ∧ rs.flatten = l.flatMap Act.cells ∧ ∀ a ∈ l, a.r.length ≤ B ∧ a.n.length ≤ B
  | [], _ => ⟨[], rfl, rfl, fun x h => by cases h⟩
  | r :: rs, h => by
    obtain ⟨a, rfl, ha⟩ := rdAct (h r List.mem_cons_self)
    obtain ⟨l, h1, h2, h3⟩ := rows_acts fun r hr => h r (List.mem_cons_of_mem _ hr)
    refine ⟨a :: l, by simp [h1], by simp [h2], fun y hy => ?_⟩
    rcases List.mem_cons.1 hy with rfl | hy
    · exact ha
    · exact h3 y hy
theorem rdActs {B n : Nat} {ps : List PV} (h : RdP prog B (n + 4) 77 ps) : ∃ l : List Act, ps = [actsV l] ∧ l.length ≤ B ∧ ∀ a ∈ l, a.r.length ≤ B ∧ a.n.length ≤ B := by
  obtain ⟨rs, rfl, hb, _, hr⟩ : ∃ rs : List (List PV), ps = [.slice rs.length rs.flatten none] ∧ rs.length * prog.bytesOf 86 ≤ B ∧ rs.length ≤ 9223372036854775807 ∧ ∀ r ∈ rs, r.length = prog.cellsOf 86 ∧ RdP prog B (n + 3) 86 r := h
  obtain ⟨l, e1, e2, e3⟩ := rows_acts fun r hr' => (hr r hr').2
  refine ⟨l, by unfold actsV; rw [e1, e2], ?_, e3⟩
  have hb : rs.length * 80 ≤ B := hb
  omega
end Go.Proofs.Tryz
