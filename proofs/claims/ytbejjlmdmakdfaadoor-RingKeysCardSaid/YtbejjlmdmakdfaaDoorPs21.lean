/- PSem, part 21: what has no body. -/
import Derived.Test.YtbejjlmdmakdfaaDoorPs20
import Derived.Lib.Bytealg
set_option linter.all false
set_option linter.unusedVariables false
set_option linter.unusedSimpArgs false
set_option linter.unnecessarySimpa false
set_option linter.unusedSimpArgs false
set_option linter.unusedVariables false
namespace Ps
open Go
section
variable {P : Program}
theorem run_count (l : List UInt8) (c : UInt8) (w : World) : (Extern.BytealgCount.count #[strV l, .int .u8 (c.toNat : Int)]).run P w = .ok (.int .i64 (Lib.countByte l c)) w := by
  have h := Lib.run_countString (P := P) ⟨l.toArray⟩ (c.toNat : Int) w
  simpa [strV] using h
theorem run_index (l : List UInt8) (c : UInt8) (w : World) : (Extern.BytealgIndexByte.indexByte #[strV l, .int .u8 (c.toNat : Int)]).run P w = .ok (.int .i64 (Lib.indexByte l c)) w := by
  have h := Lib.run_indexByteString (P := P) ⟨l.toArray⟩ (c.toNat : Int) w
  simpa [strV] using h

/-- A call of what has no body, of one text and one byte. -/
theorem pure_extern2 {f : Nat} {fn : Func} {e : Array Value → Sem Value} {s : List UInt8} {c : UInt8} {r : Int} (hf : P.funcs[f]? = some fn) (hname : (fn.name == "runtime.NumGoroutine") = false)
    (hb : fn.body.isNone = true) (hn : Extern.findNext fn = none) (he : Extern.find fn = some e) (hr : ∀ w, (e #[strV s, .int .u8 (c.toNat : Int)]).run P w = .ok (.int .i64 r) w) :
    Pure P f [.str s, byteC c] (.int .i64 r) := by
  intro H g w vs hs hrel
  have h0 := (hrel.e 0)
  have h1 := (hrel.e 1)
  have h0 : VC P g w (valOf vs 0) (.str s) := h0
  have h1 : VC P g w (valOf vs 1) (.int .u8 (c.toNat : Int)) := h1
  have hvs : vs = #[strV s, .int .u8 (c.toNat : Int)] := by
    have e0 := h0.str
    have e1 := h1.int
    match vs, hs with
    | ⟨[x, y]⟩, _ =>
      simp [valOf] at e0 e1
      rw [e0, e1]
  subst hvs
  refine .inr ⟨.int .i64 r, w, by rw [run_callFunc_extern hf hname hb hn he, hr]; rfl, ?_⟩
  have hv : V g w (.int .i64 r) (.int .i64 r) := .int _ _
  refine ⟨_, .int .i64 r, H, g, rfl, ⟨rfl, rfl⟩, ⟨hrel.h, fun t => ?_, fun t i t' i' b h => ?_, fun t i b h => ?_, hrel.cc⟩, ⟨Same.refl _ _ _, rfl, rfl, rfl, Nat.le_refl _, Keeps.refl _ _, fun _ _ h => .inl h, fun b _ _ _ => ⟨rfl, fun o h => h⟩⟩, fun i b h => absurd h (no_own hv i b), fun b h => .inr h⟩
  · rw [Env.get_cons]
    unfold one
    by_cases e : t = 0
    · rw [if_pos e, if_pos e.symm]; exact hv.vc
    · rw [if_neg e, if_neg (Ne.symm e)]; exact (V.undef _).vc
  · rw [Env.get_cons] at h
    unfold one at h
    by_cases e : t = 0
    · rw [if_pos e, if_pos e.symm] at h; exact absurd h (no_own hv i b)
    · rw [if_neg (Ne.symm e)] at h; cases h.2.1
  · rw [Env.get_cons] at h
    unfold one at h
    by_cases e : t = 0
    · rw [if_pos e, if_pos e.symm] at h; exact absurd h (no_own hv i b)
    · rw [if_neg (Ne.symm e)] at h; cases h.2.1
end

/-! ### texts that are cut at a byte -/
def splitB (c : UInt8) : List UInt8 → List (List UInt8)
  | [] => [[]]
  | x :: l => if x = c then [] :: splitB c l else match splitB c l with
    | h :: t => (x :: h) :: t
    | [] => [[x]]
theorem splitB_len (c : UInt8) : ∀ l, (splitB c l).length = Lib.countByte l c + 1
  | [] => rfl
  | x :: l => by
    have ih := splitB_len c l
    by_cases e : x = c
    · subst e; simp [splitB, Lib.countByte] at ih ⊢; exact ih
    · simp only [splitB, if_neg e]
      have hc : Lib.countByte (x :: l) c = Lib.countByte l c := by unfold Lib.countByte; rw [List.count_cons_of_ne e]
      rw [hc]
      cases h : splitB c l with
      | nil => rw [h] at ih; simp at ih
      | cons a t => rw [h] at ih; simp at ih ⊢; exact ih
theorem splitB_idx (c : UInt8) : ∀ l, (Lib.indexByte l c = -1 ∧ splitB c l = [l] ∧ Lib.countByte l c = 0) ∨
    ∃ i : Nat, Lib.indexByte l c = i ∧ i < l.length ∧ splitB c l = l.take i :: splitB c (l.drop (i + 1)) ∧ Lib.countByte l c = Lib.countByte (l.drop (i + 1)) c + 1
  | [] => .inl ⟨rfl, rfl, rfl⟩
  | x :: l => by
    by_cases e : x = c
    · subst e
      exact .inr ⟨0, by simp [Lib.indexByte], by simp, by simp [splitB], by simp [Lib.countByte]⟩
    · have hb : (x == c) = false := by simpa using e
      rcases splitB_idx c l with ⟨h1, h2, h3⟩ | ⟨i, h1, h2, h3, h4⟩
      · exact .inl ⟨by simp [Lib.indexByte, hb, h1], by simp [splitB, e, h2], by unfold Lib.countByte at *; rw [List.count_cons_of_ne e]; exact h3⟩
      · refine .inr ⟨i + 1, ?_, by simp; omega, by simp [splitB, e, h3], by unfold Lib.countByte at *; rw [List.count_cons_of_ne e]; simpa using h4⟩
        have : ¬ ((i : Int) = -1) := by omega
        simp [Lib.indexByte, hb, h1, this]
theorem countB_le (c : UInt8) (l : List UInt8) : Lib.countByte l c ≤ l.length := List.count_le_length

theorem zerosOf_one (z : PV) : ∀ n, zerosOf [z] n = List.replicate n z
  | 0 => rfl
  | n + 1 => by simp [zerosOf, zerosOf_one z n, List.replicate_succ]
theorem get_last (H : PH) (o : PObj) : (H ++ [o])[H.length]? = some o := by simp
theorem set_last (H : PH) (o : PObj) (o' : PObj) : (H ++ [o]).set H.length o' = H ++ [o'] := by simp
theorem setCells_one (off : Nat) (d : PV) (xs ys : List PV) (y : PV) (h : xs.length = off) : setCells off [d] (xs ++ y :: ys) = xs ++ d :: ys := by
  rw [setCells_eq _ _ _ (by simp; omega)]
  subst h
  simp

theorem wrap64 {x : Int} (h1 : -9223372036854775808 ≤ x) (h2 : x ≤ 9223372036854775807) : IntKind.i64.wrap x = x := by rw [IntKind.wrap_i64]; omega
end Ps
